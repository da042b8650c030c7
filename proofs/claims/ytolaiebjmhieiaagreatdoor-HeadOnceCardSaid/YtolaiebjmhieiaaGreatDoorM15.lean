/- HeadOnce: for every list of files, every name and every list of places the law answers true, and all read behind the call as before; the listed tables are tied to the text of the program; no condition. Here: parts of its proof. -/
import Derived.Test.YtolaiebjmhieiaaGreatDoorM14
import Derived.Deep.QuietTactic
import Derived.BigQuiet
namespace Go.Proofs.YtolaiebjmhieiaaGreatDoor.OScan
open Go.RowKit Go.Proofs.YtolaiebjmhieiaaGreatDoorW.PrintWords Go.Proofs.YtolaiebjmhieiaaGreatDoorW.PrintLast Go.Proofs.YtolaiebjmhieiaaGreatDoorW.PrintMore
set_option linter.unusedVariables false
set_option linter.unusedSimpArgs false
def opensB (a : ByteArray) : Bool := a.toList == ([105, 102] : List UInt8) || (a.toList == ([105, 102, 100, 101, 102] : List UInt8) || a.toList == ([105, 102, 110, 100, 101, 102] : List UInt8))
theorem opens_f (a : ByteArray) : OCond.cond_opens.f a = some (opensB a) := by
  unfold OCond.cond_opens.f opensB
  by_cases h1 : a.toList = ([105, 102] : List UInt8)
  · simp [h1]
  · by_cases h2 : a.toList = ([105, 102, 100, 101, 102] : List UInt8)
    · simp [h2]
    · rw [if_neg h1, if_neg h2, beq_eq_false_iff_ne.mpr h1, beq_eq_false_iff_ne.mpr h2, Bool.false_or, Bool.false_or]
abbrev elifL : List UInt8 := [101, 108, 105, 102]
abbrev elseL : List UInt8 := [101, 108, 115, 101]
abbrev endifL : List UInt8 := [101, 110, 100, 105, 102]
def grAt (gs : List Gr) (n : Nat) : Gr := gs.getD n ([], 0, 0, 0)
def lineF (at_ : Int) (gs : List Gr) (n : Nat) : List Gr := gs.set n ((grAt gs n).1 ++ [at_], (grAt gs n).2)
def stepF (kind : ByteArray) (at_ : Int) (gs : List Gr) (st : List Ope) : Option (List Gr × List Ope) :=
  if opensB kind = true then some (beginF at_ gs st)
  else if kind.toList ≠ elifL ∧ kind.toList ≠ elseL ∧ kind.toList ≠ endifL then some (gs, st)
  else match st with
  | [] => none
  | x :: st' =>
    if x.2.2 = true ∧ kind.toList ≠ endifL then none
    else if kind.toList ≠ endifL then some (lineF at_ gs x.1, (x.1, wrap64 (x.2.1 + 1), kind.toList == elseL) :: st')
    else some (gs.set x.1 ((grAt gs x.1).1 ++ [at_], ((grAt gs x.1).1.length : Int) + (if x.2.2 = true then 0 else 1), (grAt gs x.1).2.2), st')
def StepQ (base F : Nat) (w0 : World) (r : Option (List Gr × List Ope)) (e : Ending) (w' : World) : Prop :=
  match r with
  | none => e = .returned (.bool false) ∧ Below base w0 w'
  | some (gs', st') => e = .returned (.bool true) ∧ (∃ v' p', FS base F w' v' p' gs' st') ∧ Below base w0 w'
theorem below_via {base : Nat} {w0 w w1 : World} (h : Below base w0 w) (hb : base ≤ w.heap.size) (k : Below w.heap.size w w1) : Below base w0 w1 :=
  h.trans ⟨k.os, k.tape, k.output, k.size, fun i hi => k.block i (by omega)⟩
theorem FS.drawn {base F : Nat} {w w1 : World} {v p : Value} {gs : List Gr} {st : List Ope} (h : FS base F w v p gs st) (hb : Below w.heap.size w w1) : FS base F w1 v p gs st :=
  ⟨h.hF, (hb.block _ (blk_lt h.hc)).trans h.hc, Kd.S_below h.hgs hb, h.hst.step hb.size (fun k _ h2 _ => hb.block k h2), h.wf⟩
set_option maxHeartbeats 1000000 in
set_option maxRecDepth 100000 in
theorem step_easy (kind : ByteArray) (at_ : Int) (base F : Nat) (w0 w : World) (v p : Value) (gs : List Gr) (st : List Ope) (HF : FS base F w v p gs st) (HB : Below base w0 w) (hl : gs.length ≤ 1000000)
    (hk : opensB kind = true ∨ (opensB kind = false ∧ kind.toList ≠ elifL ∧ kind.toList ≠ elseL ∧ kind.toList ≠ endifL)) :
    Calls Tryz.prog 69 #[.pointer (some ⟨F, 0, none⟩), .string kind, .int .i64 at_] w (StepQ base F w0 (stepF kind at_ gs st)) := by
  have H68 := fun W => OCond.cond_opens.calls kind _ W (opens_f kind)
  rcases hk with hk | ⟨hk, h1, h2, h3⟩
  · have hr : stepF kind at_ gs st = some (beginF at_ gs st) := by unfold stepF; rw [if_pos hk]
    rw [hr]
    rw [hk] at H68
    have HLE : Aside0 (base ≤ w.heap.size) := ⟨by have := HF.hF; have := blk_lt HF.hc; omega⟩
    have HFA := Aside0.mk HF
    have HBA := Aside0.mk HB
    clear HF HB hr
    go_enter Tryz.func69, Tryz.ntmps69
    go_wp2_with (first | (go_at_call 68; go_loud (refine (H68 _).mono ?_; rintro e w8 ⟨rfl, hd⟩; have HF8 := Aside0.mk (HFA.out.drawn hd.below); have HB8 := Aside0.mk (below_via HBA.out HLE.out hd.below); clear hd)) | (go_at_call 125; go_loud (refine (begin_any at_ base F w0 _ _ _ gs st HF8.out HB8.out hl).mono ?_; rintro e w9 ⟨rfl, v9, p9, hf9, hb9⟩; have HF9 := Aside0.mk hf9; have HB9 := Aside0.mk hb9; clear hf9 hb9)))
    go_ret
    exact ⟨rfl, ⟨_, _, HF9.out⟩, HB9.out⟩
  · have hr : stepF kind at_ gs st = some (gs, st) := by unfold stepF; rw [if_neg (by simp [hk]), if_pos ⟨h1, h2, h3⟩]
    rw [hr]
    rw [hk] at H68
    have HLE : Aside0 (base ≤ w.heap.size) := ⟨by have := HF.hF; have := blk_lt HF.hc; omega⟩
    have HFA := Aside0.mk HF
    have HBA := Aside0.mk HB
    have c1 : (kind.toList == elifL) = false := beq_eq_false_iff_ne.mpr h1
    have c1' : (kind.toList != elifL) = true := bne_iff_ne.mpr h1
    have c2 : (kind.toList == elseL) = false := beq_eq_false_iff_ne.mpr h2
    have c2' : (kind.toList != elseL) = true := bne_iff_ne.mpr h2
    have c3 : (kind.toList == endifL) = false := beq_eq_false_iff_ne.mpr h3
    have c3' : (kind.toList != endifL) = true := bne_iff_ne.mpr h3
    clear HF HB hr
    go_enter Tryz.func69, Tryz.ntmps69
    go_wp2_with (first | (go_at_call 68; go_loud (refine (H68 _).mono ?_; rintro e w8 ⟨rfl, hd⟩; have HF8 := Aside0.mk (HFA.out.drawn hd.below); have HB8 := Aside0.mk (below_via HBA.out HLE.out hd.below); clear hd)))
    go_ret
    exact ⟨rfl, ⟨_, _, HF8.out⟩, HB8.out⟩
structure KindIs (kind : ByteArray) (bi bs be : Bool) : Prop where
  c1 : (kind.toList == elifL) = bi
  c1' : (kind.toList != elifL) = !bi
  c2 : (kind.toList == elseL) = bs
  c2' : (kind.toList != elseL) = !bs
  c3 : (kind.toList == endifL) = be
  c3' : (kind.toList != endifL) = !be
theorem kindIs (kind : ByteArray) (h : kind.toList = elifL ∨ kind.toList = elseL ∨ kind.toList = endifL) : KindIs kind true false false ∨ KindIs kind false true false ∨ KindIs kind false false true := by
  rcases h with h | h | h
  · exact .inl ⟨by rw [h]; decide, by rw [h]; decide, by rw [h]; decide, by rw [h]; decide, by rw [h]; decide, by rw [h]; decide⟩
  · exact .inr (.inl ⟨by rw [h]; decide, by rw [h]; decide, by rw [h]; decide, by rw [h]; decide, by rw [h]; decide, by rw [h]; decide⟩)
  · exact .inr (.inr ⟨by rw [h]; decide, by rw [h]; decide, by rw [h]; decide, by rw [h]; decide, by rw [h]; decide, by rw [h]; decide⟩)
theorem notOpens (kind : ByteArray) (h : kind.toList = elifL ∨ kind.toList = elseL ∨ kind.toList = endifL) : opensB kind = false := by
  unfold opensB
  rcases h with h | h | h <;> rw [h] <;> decide
set_option maxHeartbeats 1000000 in
set_option maxRecDepth 100000 in
theorem step_false (kind : ByteArray) (at_ : Int) (base F : Nat) (w0 w : World) (v p : Value) (gs : List Gr) (st : List Ope) (HF : FS base F w v p gs st) (HB : Below base w0 w)
    (hk : kind.toList = elifL ∨ kind.toList = elseL ∨ kind.toList = endifL) (hst : st = [] ∨ ∃ x st', st = x :: st' ∧ x.2.2 = true ∧ kind.toList ≠ endifL) :
    Calls Tryz.prog 69 #[.pointer (some ⟨F, 0, none⟩), .string kind, .int .i64 at_] w fun e w' => e = .returned (.bool false) ∧ Below base w0 w' := by
  have H68 := fun W => OCond.cond_opens.calls kind _ W (opens_f kind)
  rw [notOpens kind hk] at H68
  have HLE : Aside0 (base ≤ w.heap.size) := ⟨by have := HF.hF; have := blk_lt HF.hc; omega⟩
  have HBA := Aside0.mk HB
  have hFF := HF.hc
  have hg1 : w.cell? ⟨F, 1, none⟩ = some p := by have := cell_of_row w F 1 _ _ _ hFF; simpa using this
  have hst' := HF.hst
  clear HF HB hFF
  rcases hst with rfl | ⟨⟨n, br, hs_⟩, st', rfl, rfl, hne⟩
  · obtain rfl : p = .pointer none := hst'
    try clear hst'
    rcases kindIs kind hk with ⟨c1, c1', c2, c2', c3, c3'⟩ | ⟨c1, c1', c2, c2', c3, c3'⟩ | ⟨c1, c1', c2, c2', c3, c3'⟩
    all_goals
      clear hk
      go_enter Tryz.func69, Tryz.ntmps69
      go_wp2_with (first | (go_at_call 68; go_loud (refine (H68 _).mono ?_; rintro e w8 ⟨rfl, hd⟩; have HB8 := Aside0.mk (below_via HBA.out HLE.out hd.below); replace hg1 := (hd.below.cell (World.block_lt_of_cell? w _ hg1)).trans hg1; clear hd)))
      go_ret
      exact ⟨rfl, HB8.out⟩
  · obtain ⟨P, q0, rfl, hP0, hP1, hP2, hP3⟩ := hst'
    have z3 : w.cell? ⟨P, 2, none⟩ = some (.bool true) := by have := cell_of_row w P 2 _ _ _ hP2; simpa using this
    clear hP2 hP3
    rcases kindIs kind hk with ⟨c1, c1', c2, c2', c3, c3'⟩ | ⟨c1, c1', c2, c2', c3, c3'⟩ | ⟨c1, c1', c2, c2', c3, c3'⟩
    · clear hk hne
      go_enter Tryz.func69, Tryz.ntmps69
      go_wp2_with (first | (go_at_call 68; go_loud (refine (H68 _).mono ?_; rintro e w8 ⟨rfl, hd⟩; have HB8 := Aside0.mk (below_via HBA.out HLE.out hd.below); replace hg1 := (hd.below.cell (World.block_lt_of_cell? w _ hg1)).trans hg1; replace z3 := (hd.below.cell (World.block_lt_of_cell? w _ z3)).trans z3; clear hd)))
      go_ret
      exact ⟨rfl, HB8.out⟩
    · clear hk hne
      go_enter Tryz.func69, Tryz.ntmps69
      go_wp2_with (first | (go_at_call 68; go_loud (refine (H68 _).mono ?_; rintro e w8 ⟨rfl, hd⟩; have HB8 := Aside0.mk (below_via HBA.out HLE.out hd.below); replace hg1 := (hd.below.cell (World.block_lt_of_cell? w _ hg1)).trans hg1; replace z3 := (hd.below.cell (World.block_lt_of_cell? w _ z3)).trans z3; clear hd)))
      go_ret
      exact ⟨rfl, HB8.out⟩
    · exact absurd (beq_iff_eq.1 c3) hne
theorem else_end {base F P n : Nat} {w9 w11 : World} {v q : Value} {gs gs' : List Gr} {br br' : Int} {hs hs' : Bool} {st : List Ope} (HF : FS base F w9 v (.pointer (some ⟨P, 0, none⟩)) gs ((n, br, hs) :: st))
    (hF11 : w11.heap[F]? = some (.cells #[v, .pointer (some ⟨P, 0, none⟩)] 131 (0, 0))) (hP11 : w11.heap[P]? = some (.cells #[.int .i64 n, .int .i64 br, .bool hs, q] 136 (0, 0))) (hP0 : base ≤ P) (HC : Chain w9 base P q st)
    (HS : Kd.S kGr 134 w11 base (fun _ => True) v gs') (hl : gs'.length = gs.length) (hFP : ¬ P = F)
    (keep : ∀ (k : Nat) (c : Array Value) (t : TypeId), w9.heap[k]? = some (Obj.cells c t (0, 0)) → t ≠ 3 → t ≠ 134 → w11.heap[k]? = some (Obj.cells c t (0, 0))) :
    FS base F ((w11.setCell ⟨P, 1, none⟩ (.int .i64 br')).setCell ⟨P, 2, none⟩ (.bool hs')) v (.pointer (some ⟨P, 0, none⟩)) gs' ((n, br', hs') :: st) := by
  have hP12 := blk_put hP11 1 (.int .i64 br') rfl
  have hP13 := blk_put hP12 2 (.bool hs') rfl
  refine ⟨HF.hF, blk_far (blk_far hF11 (fun h => hFP h.symm) _) (fun h => hFP h.symm) _, Kd.S_set (Kd.S_set HS hP11 (by decide) 1 _) hP12 (by decide) 2 _, ⟨P, q, rfl, hP0, by have := blk_lt hP13; simpa using this, hP13, ?_⟩, ?_⟩
  · refine HC.step (Nat.le_refl _) (fun k h1 h2 h3 => ?_)
    obtain ⟨c, h3⟩ := h3
    have hkP : k ≠ P := by omega
    exact (Below.heap_setCell _ ⟨P, 2, none⟩ _ k hkP).trans ((Below.heap_setCell _ ⟨P, 1, none⟩ _ k hkP).trans ((keep k c 136 h3 (by decide) (by decide)).trans h3.symm))
  · intro y hy
    rw [hl]
    rcases List.mem_cons.1 hy with rfl | hy
    · exact HF.wf (n, br, hs) List.mem_cons_self
    · exact HF.wf _ (List.mem_cons_of_mem _ hy)
set_option maxHeartbeats 1000000 in
set_option maxRecDepth 100000 in
theorem step_else (kind : ByteArray) (at_ : Int) (base F : Nat) (w0 w : World) (v p : Value) (gs : List Gr) (n : Nat) (br : Int) (hs_ : Bool) (st : List Ope) (HF : FS base F w v p gs ((n, br, hs_) :: st)) (HB : Below base w0 w) (hl : gs.length ≤ 1000000) (hll : (grAt gs n).1.length ≤ 1000000)
    (bi bs : Bool) (hk : kind.toList = elifL ∨ kind.toList = elseL) (hK : KindIs kind bi bs false) (hbb : (bi = true ∧ bs = false) ∨ (bi = false ∧ bs = true)) (hne : hs_ = false) :
    Calls Tryz.prog 69 #[.pointer (some ⟨F, 0, none⟩), .string kind, .int .i64 at_] w (StepQ base F w0 (some (lineF at_ gs n, (n, wrap64 (br + 1), kind.toList == elseL) :: st))) := by
  have H68 := fun W => OCond.cond_opens.calls kind _ W (opens_f kind)
  rw [notOpens kind (hk.elim .inl (fun h => .inr (.inl h)))] at H68
  have hnl : n < gs.length := HF.wf _ (List.mem_cons_self)
  obtain ⟨B, cap, rfl, hB0, hB1, hBc⟩ := Kd.S_form HF.hgs (by omega)
  obtain ⟨P, q0, rfl, hP0, hP1, hP2, hP3⟩ := HF.hst
  simp only at hP2
  have hFF := HF.hc
  obtain ⟨c1, c1', c2, c2', c3, c3'⟩ := hK
  have hFl := blk_lt hFF
  have hg0 : w.cell? ⟨F, 0, none⟩ = some (.slice (some ⟨B, 0, none⟩) gs.length cap) := by have := cell_of_row w F 0 _ _ _ hFF; simpa using this
  have hg1 : w.cell? ⟨F, 1, none⟩ = some (.pointer (some ⟨P, 0, none⟩)) := by have := cell_of_row w F 1 _ _ _ hFF; simpa using this
  have z1 : w.cell? ⟨P, 0, none⟩ = some (.int .i64 n) := by have := cell_of_row w P 0 _ _ _ hP2; simpa using this
  have z2 : w.cell? ⟨P, 1, none⟩ = some (.int .i64 br) := by have := cell_of_row w P 1 _ _ _ hP2; simpa using this
  have z3 : w.cell? ⟨P, 2, none⟩ = some (.bool false) := by have := cell_of_row w P 2 _ _ _ hP2; rw [← hne]; simpa using this
  subst hne
  have hi1 : (0 : Int) ≤ (n : Int) := by omega
  have hi2 : (n : Int) < (gs.length : Int) := by omega
  have HLE : Aside0 (base ≤ w.heap.size) := ⟨by have := HF.hF; omega⟩
  have HBA := Aside0.mk HB
  have HFA := Aside0.mk HF
  clear HB HF hFF hP2 hP3 hk
  rcases hbb with ⟨rfl, rfl⟩ | ⟨rfl, rfl⟩
  · go_enter Tryz.func69, Tryz.ntmps69
    go_wp2_with (first | (go_at_call 68; go_loud (refine (H68 _).mono ?_; rintro e w8 ⟨rfl, hd⟩; have HF8 := Aside0.mk (HFA.out.drawn hd.below); have HB8 := Aside0.mk (below_via HBA.out HLE.out hd.below); replace hg0 := (hd.below.cell (World.block_lt_of_cell? w _ hg0)).trans hg0; replace hg1 := (hd.below.cell (World.block_lt_of_cell? w _ hg1)).trans hg1; replace z3 := (hd.below.cell (World.block_lt_of_cell? w _ z3)).trans z3; replace z1 := (hd.below.cell (World.block_lt_of_cell? w _ z1)).trans z1; replace z2 := (hd.below.cell (World.block_lt_of_cell? w _ z2)).trans z2; clear hd)))
    go_quiet (fail)
    obtain ⟨w9, hw9⟩ : ∃ w9, w9 = w8.drewN nq := ⟨_, rfl⟩
    rw [← hw9]
    have HF9 : Aside0 (FS base F w9 (.slice (some ⟨B, 0, none⟩) gs.length cap) (.pointer (some ⟨P, 0, none⟩)) gs ((n, br, false) :: st)) := ⟨by rw [hw9]; exact HF8.out.drawn (pw_below_drewN (Below.refl _ _) nq)⟩
    have HB9 : Aside0 (Below base w0 w9) := ⟨by rw [hw9]; exact pw_below_drewN HB8.out nq⟩
    have HSZ9 : Aside0 (base ≤ w9.heap.size) := ⟨by have := HF9.out.hF; have := blk_lt HF9.out.hc; omega⟩
    clear hw9 HF8 HB8 hg0 hg1 z1 z2 z3 w8
    obtain ⟨oki, c, hcl, hM, hcc, hfr, hoki, hH⟩ := Kd.S_elem HF9.out.hgs ([], 0, 0, 0) n hi1 hi2
    rw [Int.toNat_natCast] at hM hcc hfr
    change kGr.M w9 base oki (grAt gs n) c at hM
    generalize hg : grAt gs n = g0 at *
    obtain ⟨ls, b2, b3, b4⟩ := g0
    obtain ⟨_, _, rfl, ⟨vl, rfl, hR⟩, ⟨_, _, rfl, rfl, ⟨_, _, rfl, rfl, rfl⟩⟩⟩ := hM
    simp only at hR hll
    obtain ⟨Al, cl, rfl⟩ := Kd.R_slice hR
    have hv0 : w9.cell? ⟨B, n * 4, none⟩ = some (.slice Al ls.length cl) := hcc 0 _ rfl
    have HR := Aside0.mk (Kd.R_mono (ok' := fun k => oki k ∨ True ∧ w9.heap.size ≤ k) hR (fun k hk => .inl hk))
    have HH := Aside0.mk (Kd.H_widen hH)
    have HOW : Aside0 (∀ k, (Value.slice Al ls.length cl).ownBlock = some k → oki k) := ⟨hR.1⟩
    have HOK := Aside0.mk hoki
    obtain ⟨P', q1, eP, _, hP1', hP2', hP3'⟩ := HF9.out.hst
    obtain rfl : P = P' := by injection eP with eP; injection eP with eP; injection eP
    simp only at hP2'
    have HP9 := Aside0.mk hP2'
    have HC9 := Aside0.mk hP3'
    have hFP : ¬ F = P := by
      rintro rfl
      have := HF9.out.hc
      rw [hP2'] at this
      injection this with this
      injection this with _ this
      exact absurd this (by decide)
    have hPF : ¬ P = F := fun h => hFP h.symm
    have KEEP : Aside0 (∀ w10 w11 : World, World.grownBy w9 w10 (Value.slice Al ls.length cl).ownBlock → World.grownBy w10 w11 (some B) → ∀ (k : Nat) (c : Array Value) (t : TypeId), w9.heap[k]? = some (Obj.cells c t (0, 0)) → t ≠ 3 → t ≠ 134 → w11.heap[k]? = some (Obj.cells c t (0, 0))) := ⟨fun w10 w11 h1 h2 k c t hc ht1 ht2 => by
      have a1 : some k ≠ (Value.slice Al ls.length cl).ownBlock := fun e => by
        obtain ⟨c', h⟩ := Kd.R_typed HR.out k e.symm
        rw [h] at hc; injection hc with hc; injection hc with _ hc; exact ht1 hc.symm
      have a2 : some k ≠ some B := fun e => by
        injection e with e; subst e
        obtain ⟨c', h⟩ := Kd.S_typed HF9.out.hgs k rfl
        rw [h] at hc; injection hc with hc; injection hc with _ hc; exact ht2 hc.symm
      have b1 := (h1.block k (blk_lt hc) a1).trans hc
      exact (h2.block k (blk_lt b1) a2).trans b1⟩
    clear hcc hfr hoki hH hR hcl hP2' hP3' eP
    go_wp2_with (first | (at_builtin; go_loud (refine Kd.R_append (Kd.int .i64) (w0 := w0) base rfl (.tmp 60) (.tmp 62) 120 3 (.int .i64 0) 8 rfl Tryz.underlying120 (by kernel_rfl) rfl (by decide) (by omega) (.slice Al ls.length cl) ls at_ [.int .i64 at_] (fun k => oki k ∨ True ∧ w9.heap.size ≤ k) (fun _ => False) rfl rfl rfl (fun _ hk => hk.elim) (fun k hk => .inr ⟨trivial, hk⟩) HR.out HB9.out HSZ9.out (by omega) ?_; intro v1 w10 ho hb hg1 hat; obtain ⟨A1, k1, rfl⟩ := Kd.R_slice ho; rw [List.length_append, List.length_singleton] at ho; have HR1 := Aside0.mk ho; have HB10 := Aside0.mk hb; have HG10 := Aside0.mk hg1; clear ho hb hg1 hat)) | (refine gate_ (.store 120 (.tmp 65) (.tmp 63)) rfl ?_; go_loud (refine Kd.H_store kGr (w0 := w0) base rfl rfl 120 (.tmp 65) (.tmp 63) rfl 134 (n : Int) 0 gs (ls ++ [at_], b2, b3, b4) (.slice A1 (ls.length + 1) k1) [.slice A1 (ls.length + 1) k1] [.slice Al ls.length cl, .int .i64 b2, .int .i64 b3, .int .i64 b4] (fun _ => True) (fun k => oki k ∨ True ∧ w9.heap.size ≤ k) (fun k => oki k ∨ True ∧ w9.heap.size ≤ k) rfl (by rw [Int.toNat_natCast]; rfl) rfl rfl (by kernel_rfl) (fun q hq => by rw [List.mem_singleton.1 hq]; rfl) (Kd.H_grown HH.out HG10.out (fun k hk => .inl (HOW.out k hk))) hi1 hi2 (show 0 + 1 ≤ 4 by omega) ?aM (fun _ h => h) HB10.out ?_; (case aM => exact ⟨_, _, rfl, ⟨_, rfl, HR1.out⟩, ⟨_, _, rfl, rfl, ⟨_, _, rfl, rfl, rfl⟩⟩⟩); intro w11 ho hb hg2; have HS11 := Aside0.mk ho; have HB11 := Aside0.mk hb; have HG11 := Aside0.mk hg2; have hF11 := KEEP.out _ _ HG10.out hg2 F _ 131 HF9.out.hc (by decide) (by decide); have hP11 := KEEP.out _ _ HG10.out hg2 P _ 136 HP9.out (by decide) (by decide); have y1 : w11.cell? ⟨F, 1, none⟩ = some (.pointer (some ⟨P, 0, none⟩)) := (by have := cell_of_row _ F 1 _ _ _ hF11; simpa using this); have y2 : w11.cell? ⟨P, 1, none⟩ = some (.int .i64 br) := (by have := cell_of_row _ P 1 _ _ _ hP11; simpa using this); have y3 : w11.cell? ⟨P, 2, none⟩ = some (.bool false) := (by have := cell_of_row _ P 2 _ _ _ hP11; simpa using this); have y4 := blk_frozen hP11 1; have y5 := blk_frozen hP11 2; have HP11 := Aside0.mk hP11; have HF11 := Aside0.mk hF11; clear ho hb hg2 hP11 hF11)))
    go_ret
    rw [lineF, hg]
    refine ⟨rfl, ⟨_, _, else_end HF9.out HF11.out HP11.out hP0 HC9.out HS11.out (by rw [List.length_set]) hPF (KEEP.out _ _ HG10.out HG11.out)⟩, (HB11.out.setCell hP0 _).setCell hP0 _⟩
  · go_enter Tryz.func69, Tryz.ntmps69
    go_wp2_with (first | (go_at_call 68; go_loud (refine (H68 _).mono ?_; rintro e w8 ⟨rfl, hd⟩; have HF8 := Aside0.mk (HFA.out.drawn hd.below); have HB8 := Aside0.mk (below_via HBA.out HLE.out hd.below); replace hg0 := (hd.below.cell (World.block_lt_of_cell? w _ hg0)).trans hg0; replace hg1 := (hd.below.cell (World.block_lt_of_cell? w _ hg1)).trans hg1; replace z3 := (hd.below.cell (World.block_lt_of_cell? w _ z3)).trans z3; replace z1 := (hd.below.cell (World.block_lt_of_cell? w _ z1)).trans z1; replace z2 := (hd.below.cell (World.block_lt_of_cell? w _ z2)).trans z2; clear hd)))
    go_quiet (fail)
    obtain ⟨w9, hw9⟩ : ∃ w9, w9 = w8.drewN nq := ⟨_, rfl⟩
    rw [← hw9]
    have HF9 : Aside0 (FS base F w9 (.slice (some ⟨B, 0, none⟩) gs.length cap) (.pointer (some ⟨P, 0, none⟩)) gs ((n, br, false) :: st)) := ⟨by rw [hw9]; exact HF8.out.drawn (pw_below_drewN (Below.refl _ _) nq)⟩
    have HB9 : Aside0 (Below base w0 w9) := ⟨by rw [hw9]; exact pw_below_drewN HB8.out nq⟩
    have HSZ9 : Aside0 (base ≤ w9.heap.size) := ⟨by have := HF9.out.hF; have := blk_lt HF9.out.hc; omega⟩
    clear hw9 HF8 HB8 hg0 hg1 z1 z2 z3 w8
    obtain ⟨oki, c, hcl, hM, hcc, hfr, hoki, hH⟩ := Kd.S_elem HF9.out.hgs ([], 0, 0, 0) n hi1 hi2
    rw [Int.toNat_natCast] at hM hcc hfr
    change kGr.M w9 base oki (grAt gs n) c at hM
    generalize hg : grAt gs n = g0 at *
    obtain ⟨ls, b2, b3, b4⟩ := g0
    obtain ⟨_, _, rfl, ⟨vl, rfl, hR⟩, ⟨_, _, rfl, rfl, ⟨_, _, rfl, rfl, rfl⟩⟩⟩ := hM
    simp only at hR hll
    obtain ⟨Al, cl, rfl⟩ := Kd.R_slice hR
    have hv0 : w9.cell? ⟨B, n * 4, none⟩ = some (.slice Al ls.length cl) := hcc 0 _ rfl
    have HR := Aside0.mk (Kd.R_mono (ok' := fun k => oki k ∨ True ∧ w9.heap.size ≤ k) hR (fun k hk => .inl hk))
    have HH := Aside0.mk (Kd.H_widen hH)
    have HOW : Aside0 (∀ k, (Value.slice Al ls.length cl).ownBlock = some k → oki k) := ⟨hR.1⟩
    have HOK := Aside0.mk hoki
    obtain ⟨P', q1, eP, _, hP1', hP2', hP3'⟩ := HF9.out.hst
    obtain rfl : P = P' := by injection eP with eP; injection eP with eP; injection eP
    simp only at hP2'
    have HP9 := Aside0.mk hP2'
    have HC9 := Aside0.mk hP3'
    have hFP : ¬ F = P := by
      rintro rfl
      have := HF9.out.hc
      rw [hP2'] at this
      injection this with this
      injection this with _ this
      exact absurd this (by decide)
    have hPF : ¬ P = F := fun h => hFP h.symm
    have KEEP : Aside0 (∀ w10 w11 : World, World.grownBy w9 w10 (Value.slice Al ls.length cl).ownBlock → World.grownBy w10 w11 (some B) → ∀ (k : Nat) (c : Array Value) (t : TypeId), w9.heap[k]? = some (Obj.cells c t (0, 0)) → t ≠ 3 → t ≠ 134 → w11.heap[k]? = some (Obj.cells c t (0, 0))) := ⟨fun w10 w11 h1 h2 k c t hc ht1 ht2 => by
      have a1 : some k ≠ (Value.slice Al ls.length cl).ownBlock := fun e => by
        obtain ⟨c', h⟩ := Kd.R_typed HR.out k e.symm
        rw [h] at hc; injection hc with hc; injection hc with _ hc; exact ht1 hc.symm
      have a2 : some k ≠ some B := fun e => by
        injection e with e; subst e
        obtain ⟨c', h⟩ := Kd.S_typed HF9.out.hgs k rfl
        rw [h] at hc; injection hc with hc; injection hc with _ hc; exact ht2 hc.symm
      have b1 := (h1.block k (blk_lt hc) a1).trans hc
      exact (h2.block k (blk_lt b1) a2).trans b1⟩
    clear hcc hfr hoki hH hR hcl hP2' hP3' eP
    go_wp2_with (first | (at_builtin; go_loud (refine Kd.R_append (Kd.int .i64) (w0 := w0) base rfl (.tmp 60) (.tmp 62) 120 3 (.int .i64 0) 8 rfl Tryz.underlying120 (by kernel_rfl) rfl (by decide) (by omega) (.slice Al ls.length cl) ls at_ [.int .i64 at_] (fun k => oki k ∨ True ∧ w9.heap.size ≤ k) (fun _ => False) rfl rfl rfl (fun _ hk => hk.elim) (fun k hk => .inr ⟨trivial, hk⟩) HR.out HB9.out HSZ9.out (by omega) ?_; intro v1 w10 ho hb hg1 hat; obtain ⟨A1, k1, rfl⟩ := Kd.R_slice ho; rw [List.length_append, List.length_singleton] at ho; have HR1 := Aside0.mk ho; have HB10 := Aside0.mk hb; have HG10 := Aside0.mk hg1; clear ho hb hg1 hat)) | (refine gate_ (.store 120 (.tmp 65) (.tmp 63)) rfl ?_; go_loud (refine Kd.H_store kGr (w0 := w0) base rfl rfl 120 (.tmp 65) (.tmp 63) rfl 134 (n : Int) 0 gs (ls ++ [at_], b2, b3, b4) (.slice A1 (ls.length + 1) k1) [.slice A1 (ls.length + 1) k1] [.slice Al ls.length cl, .int .i64 b2, .int .i64 b3, .int .i64 b4] (fun _ => True) (fun k => oki k ∨ True ∧ w9.heap.size ≤ k) (fun k => oki k ∨ True ∧ w9.heap.size ≤ k) rfl (by rw [Int.toNat_natCast]; rfl) rfl rfl (by kernel_rfl) (fun q hq => by rw [List.mem_singleton.1 hq]; rfl) (Kd.H_grown HH.out HG10.out (fun k hk => .inl (HOW.out k hk))) hi1 hi2 (show 0 + 1 ≤ 4 by omega) ?aM (fun _ h => h) HB10.out ?_; (case aM => exact ⟨_, _, rfl, ⟨_, rfl, HR1.out⟩, ⟨_, _, rfl, rfl, ⟨_, _, rfl, rfl, rfl⟩⟩⟩); intro w11 ho hb hg2; have HS11 := Aside0.mk ho; have HB11 := Aside0.mk hb; have HG11 := Aside0.mk hg2; have hF11 := KEEP.out _ _ HG10.out hg2 F _ 131 HF9.out.hc (by decide) (by decide); have hP11 := KEEP.out _ _ HG10.out hg2 P _ 136 HP9.out (by decide) (by decide); have y1 : w11.cell? ⟨F, 1, none⟩ = some (.pointer (some ⟨P, 0, none⟩)) := (by have := cell_of_row _ F 1 _ _ _ hF11; simpa using this); have y2 : w11.cell? ⟨P, 1, none⟩ = some (.int .i64 br) := (by have := cell_of_row _ P 1 _ _ _ hP11; simpa using this); have y3 : w11.cell? ⟨P, 2, none⟩ = some (.bool false) := (by have := cell_of_row _ P 2 _ _ _ hP11; simpa using this); have y4 := blk_frozen hP11 1; have y5 := blk_frozen hP11 2; have HP11 := Aside0.mk hP11; have HF11 := Aside0.mk hF11; clear ho hb hg2 hP11 hF11)))
    go_ret
    rw [lineF, hg]
    refine ⟨rfl, ⟨_, _, else_end HF9.out HF11.out HP11.out hP0 HC9.out HS11.out (by rw [List.length_set]) hPF (KEEP.out _ _ HG10.out HG11.out)⟩, (HB11.out.setCell hP0 _).setCell hP0 _⟩
theorem Chain.ptr {w : World} {base : Nat} : ∀ {st : List Ope} {N : Nat} {p : Value}, Chain w base N p st → ∃ q, p = .pointer q
  | [], _, _, h => ⟨_, h⟩
  | _ :: _, _, _, ⟨_, _, h, _⟩ => ⟨_, h⟩
theorem endif_end {base F P n : Nat} {w9 w13 : World} {v p q : Value} {gs gs' : List Gr} {br : Int} {hs : Bool} {st : List Ope} (HF : FS base F w9 v p gs ((n, br, hs) :: st))
    (hF13 : w13.heap[F]? = some (.cells #[v, p] 131 (0, 0))) (hP : P ≤ w13.heap.size) (HC : Chain w9 base P q st)
    (HS : Kd.S kGr 134 w13 base (fun _ => True) v gs') (hl : gs'.length = gs.length)
    (keep : ∀ (k : Nat) (c : Array Value), w9.heap[k]? = some (Obj.cells c 136 (0, 0)) → w13.heap[k]? = some (Obj.cells c 136 (0, 0))) :
    FS base F (w13.setCell ⟨F, 1, none⟩ q) v q gs' st := by
  refine ⟨HF.hF, blk_put hF13 1 _ rfl, Kd.S_set HS hF13 (by decide) 1 _, HC.step (by simpa using hP) (fun k h1 h2 h3 => ?_), ?_⟩
  · obtain ⟨c, h3⟩ := h3
    have h4 := keep k c h3
    have hkF : k ≠ F := by
      rintro rfl
      rw [hF13] at h4
      injection h4 with h4
      injection h4 with _ h4
      exact absurd h4 (by decide)
    exact (Below.heap_setCell _ ⟨F, 1, none⟩ _ k hkF).trans (h4.trans h3.symm)
  · intro y hy
    rw [hl]
    exact HF.wf _ (List.mem_cons_of_mem _ hy)
set_option maxHeartbeats 1000000 in
set_option maxRecDepth 100000 in
theorem step_endif (kind : ByteArray) (at_ : Int) (base F : Nat) (w0 w : World) (v p : Value) (gs : List Gr) (n : Nat) (br : Int) (hs_ : Bool) (st : List Ope) (HF : FS base F w v p gs ((n, br, hs_) :: st)) (HB : Below base w0 w) (hl : gs.length ≤ 1000000) (hll : (grAt gs n).1.length ≤ 1000000)
    (hk : kind.toList = endifL) (hK : KindIs kind false false true) :
    Calls Tryz.prog 69 #[.pointer (some ⟨F, 0, none⟩), .string kind, .int .i64 at_] w (StepQ base F w0 (some (gs.set n ((grAt gs n).1 ++ [at_], ((grAt gs n).1.length : Int) + (if hs_ = true then 0 else 1), (grAt gs n).2.2), st))) := by
  have H68 := fun W => OCond.cond_opens.calls kind _ W (opens_f kind)
  rw [notOpens kind (.inr (.inr hk))] at H68
  have hnl : n < gs.length := HF.wf _ (List.mem_cons_self)
  obtain ⟨B, cap, rfl, hB0, hB1, hBc⟩ := Kd.S_form HF.hgs (by omega)
  obtain ⟨P, q0, rfl, hP0, hP1, hP2, hP3⟩ := HF.hst
  simp only at hP2
  have hFF := HF.hc
  obtain ⟨c1, c1', c2, c2', c3, c3'⟩ := hK
  have hFl := blk_lt hFF
  have hg0 : w.cell? ⟨F, 0, none⟩ = some (.slice (some ⟨B, 0, none⟩) gs.length cap) := by have := cell_of_row w F 0 _ _ _ hFF; simpa using this
  have hg1 : w.cell? ⟨F, 1, none⟩ = some (.pointer (some ⟨P, 0, none⟩)) := by have := cell_of_row w F 1 _ _ _ hFF; simpa using this
  have z1 : w.cell? ⟨P, 0, none⟩ = some (.int .i64 n) := by have := cell_of_row w P 0 _ _ _ hP2; simpa using this
  have z2 : w.cell? ⟨P, 1, none⟩ = some (.int .i64 br) := by have := cell_of_row w P 1 _ _ _ hP2; simpa using this
  have z3 : w.cell? ⟨P, 2, none⟩ = some (.bool hs_) := by have := cell_of_row w P 2 _ _ _ hP2; simpa using this
  have hi1 : (0 : Int) ≤ (n : Int) := by omega
  have hi2 : (n : Int) < (gs.length : Int) := by omega
  have HLE : Aside0 (base ≤ w.heap.size) := ⟨by have := HF.hF; omega⟩
  have HBA := Aside0.mk HB
  have HFA := Aside0.mk HF
  clear HB HF hFF hP2 hP3 hk
  cases hs_
  · go_enter Tryz.func69, Tryz.ntmps69
    go_wp2_with (first | (go_at_call 68; go_loud (refine (H68 _).mono ?_; rintro e w8 ⟨rfl, hd⟩; have HF8 := Aside0.mk (HFA.out.drawn hd.below); have HB8 := Aside0.mk (below_via HBA.out HLE.out hd.below); replace hg0 := (hd.below.cell (World.block_lt_of_cell? w _ hg0)).trans hg0; replace hg1 := (hd.below.cell (World.block_lt_of_cell? w _ hg1)).trans hg1; replace z3 := (hd.below.cell (World.block_lt_of_cell? w _ z3)).trans z3; replace z1 := (hd.below.cell (World.block_lt_of_cell? w _ z1)).trans z1; replace z2 := (hd.below.cell (World.block_lt_of_cell? w _ z2)).trans z2; clear hd)))
    go_quiet (fail)
    obtain ⟨w9, hw9⟩ : ∃ w9, w9 = w8.drewN nq := ⟨_, rfl⟩
    rw [← hw9]
    have HF9 : Aside0 (FS base F w9 (.slice (some ⟨B, 0, none⟩) gs.length cap) (.pointer (some ⟨P, 0, none⟩)) gs ((n, br, false) :: st)) := ⟨by rw [hw9]; exact HF8.out.drawn (pw_below_drewN (Below.refl _ _) nq)⟩
    have HB9 : Aside0 (Below base w0 w9) := ⟨by rw [hw9]; exact pw_below_drewN HB8.out nq⟩
    have HSZ9 : Aside0 (base ≤ w9.heap.size) := ⟨by have := HF9.out.hF; have := blk_lt HF9.out.hc; omega⟩
    clear hw9 HF8 HB8 hg0 hg1 z1 z2 z3 w8
    obtain ⟨oki, c, hcl, hM, hcc, hfr, hoki, hH⟩ := Kd.S_elem HF9.out.hgs ([], 0, 0, 0) n hi1 hi2
    rw [Int.toNat_natCast] at hM hcc hfr
    change kGr.M w9 base oki (grAt gs n) c at hM
    generalize hg : grAt gs n = g0 at *
    obtain ⟨ls, b2, b3, b4⟩ := g0
    obtain ⟨_, _, rfl, ⟨vl, rfl, hR⟩, ⟨_, _, rfl, rfl, ⟨_, _, rfl, rfl, rfl⟩⟩⟩ := hM
    simp only at hR hll
    obtain ⟨Al, cl, rfl⟩ := Kd.R_slice hR
    have hv0 : w9.cell? ⟨B, n * 4, none⟩ = some (.slice Al ls.length cl) := hcc 0 _ rfl
    have HR := Aside0.mk (Kd.R_mono (ok' := fun k => oki k ∨ True ∧ w9.heap.size ≤ k) hR (fun k hk => .inl hk))
    have HH := Aside0.mk (Kd.H_widen hH)
    have HOW : Aside0 (∀ k, (Value.slice Al ls.length cl).ownBlock = some k → oki k) := ⟨hR.1⟩
    have HOK := Aside0.mk hoki
    obtain ⟨P', q1, eP, _, hP1', hP2', hP3'⟩ := HF9.out.hst
    obtain rfl : P = P' := by injection eP with eP; injection eP with eP; injection eP
    simp only at hP2'
    obtain ⟨q2, rfl⟩ := Chain.ptr hP3'
    have HP9 := Aside0.mk hP2'
    have HC9 := Aside0.mk hP3'
    have hFP : ¬ F = P := by
      rintro rfl
      have := HF9.out.hc
      rw [hP2'] at this
      injection this with this
      injection this with _ this
      exact absurd this (by decide)
    have hPF : ¬ P = F := fun h => hFP h.symm
    have hBt : ∃ cells, w9.heap[B]? = some (.cells cells 134 (0, 0)) := Kd.S_typed HF9.out.hgs B rfl
    have hFB : ¬ F = B := by
      rintro rfl
      obtain ⟨c', h'⟩ := hBt
      have := HF9.out.hc
      rw [h'] at this
      injection this with this
      injection this with _ this
      exact absurd this (by decide)
    have hPB : ¬ P = B := by
      rintro rfl
      obtain ⟨c', h'⟩ := hBt
      have := HP9.out
      rw [h'] at this
      injection this with this
      injection this with _ this
      exact absurd this (by decide)
    have E3 : Aside0 (((gs.set (n : Int).toNat (ls ++ [at_], b2, b3, b4)).set (n : Int).toNat (ls ++ [at_], (ls.length : Int), b3, b4)).getD (n : Int).toNat ([], 0, 0, 0) = (ls ++ [at_], (ls.length : Int), b3, b4)) := ⟨by simp [hnl]⟩
    have KEEP : Aside0 (∀ w10 w11 : World, World.grownBy w9 w10 (Value.slice Al ls.length cl).ownBlock → World.grownBy w10 w11 (some B) → ∀ (k : Nat) (c : Array Value) (t : TypeId), w9.heap[k]? = some (Obj.cells c t (0, 0)) → t ≠ 3 → t ≠ 134 → w11.heap[k]? = some (Obj.cells c t (0, 0))) := ⟨fun w10 w11 h1 h2 k c t hc ht1 ht2 => by
      have a1 : some k ≠ (Value.slice Al ls.length cl).ownBlock := fun e => by
        obtain ⟨c', h⟩ := Kd.R_typed HR.out k e.symm
        rw [h] at hc; injection hc with hc; injection hc with _ hc; exact ht1 hc.symm
      have a2 : some k ≠ some B := fun e => by
        injection e with e; subst e
        obtain ⟨c', h⟩ := Kd.S_typed HF9.out.hgs k rfl
        rw [h] at hc; injection hc with hc; injection hc with _ hc; exact ht2 hc.symm
      have b1 := (h1.block k (blk_lt hc) a1).trans hc
      exact (h2.block k (blk_lt b1) a2).trans b1⟩
    clear hcc hfr hoki hH hR hcl hP2' hP3' eP
    go_wp2_with (first | (at_builtin; go_loud (refine Kd.R_append (Kd.int .i64) (w0 := w0) base rfl (.tmp 60) (.tmp 62) 120 3 (.int .i64 0) 8 rfl Tryz.underlying120 (by kernel_rfl) rfl (by decide) (by omega) (.slice Al ls.length cl) ls at_ [.int .i64 at_] (fun k => oki k ∨ True ∧ w9.heap.size ≤ k) (fun _ => False) rfl rfl rfl (fun _ hk => hk.elim) (fun k hk => .inr ⟨trivial, hk⟩) HR.out HB9.out HSZ9.out (by omega) ?_; intro v1 w10 ho hb hg1 hat; obtain ⟨A1, k1, rfl⟩ := Kd.R_slice ho; rw [List.length_append, List.length_singleton] at ho; have HR1 := Aside0.mk ho; have HB10 := Aside0.mk hb; have HG10 := Aside0.mk hg1; clear ho hb hg1 hat)) | (refine gate_ (.store 3 (.tmp 94) (.tmp 92)) rfl ?_; go_loud (refine Kd.H_store kGr (w0 := w0) base rfl rfl 3 (.tmp 94) (.tmp 92) rfl 134 (n : Int) 1 (gs.set (n : Int).toNat (ls ++ [at_], b2, b3, b4)) (ls ++ [at_], (ls.length : Int), b3, b4) (.int .i64 (ls.length : Int)) [.int .i64 (ls.length : Int)] [.slice A2 (ls.length + 1) k2, .int .i64 b2, .int .i64 b3, .int .i64 b4] (fun _ => True) oki2 oki2 rfl (by rw [Int.toNat_natCast]; rfl) rfl rfl (by kernel_rfl) (fun q hq => by rw [List.mem_singleton.1 hq]; rfl) HH2.out hi1 hi2 (show 1 + 1 ≤ 4 by omega) ?aM (fun _ h => h) HB11.out ?_; (case aM => exact ⟨[.slice A2 (ls.length + 1) k2], _, rfl, ⟨_, rfl, HR2.out⟩, ⟨_, _, rfl, rfl, ⟨_, _, rfl, rfl, rfl⟩⟩⟩); intro w12 ho hb hg2; have HS12 := Aside0.mk ho; have HB12 := Aside0.mk hb; have HG12 := Aside0.mk hg2; have hF12 := (hg2.block F (blk_lt HF11.out) (fun e => hFB (by injection e))).trans HF11.out; have hP12 := (hg2.block P (blk_lt HP11.out) (fun e => hPB (by injection e))).trans HP11.out; have y112 : w12.cell? ⟨F, 1, none⟩ = some (.pointer (some ⟨P, 0, none⟩)) := (by have := cell_of_row _ F 1 _ _ _ hF12; simpa using this); have y212 : w12.cell? ⟨P, 2, none⟩ = some (.bool false) := (by have := cell_of_row _ P 2 _ _ _ hP12; simpa using this); have y312 : w12.cell? ⟨P, 3, none⟩ = some (.pointer q2) := (by have := cell_of_row _ P 3 _ _ _ hP12; simpa using this); have y412 := blk_frozen hF12 1; have HF12 := Aside0.mk hF12; have HP12 := Aside0.mk hP12; obtain ⟨oki3, c3_, hcl3, hM3, hcc3, hfr3, hoki3, hH3⟩ := Kd.S_elem HS12.out ([], 0, 0, 0) n hi1 hi2; rw [E3.out] at hM3; rw [Int.toNat_natCast] at hcc3 hfr3; obtain ⟨_, _, rfl, ⟨vl3, rfl, hR3⟩, ⟨_, _, rfl, rfl, ⟨_, _, rfl, rfl, rfl⟩⟩⟩ := hM3; have x3 : w12.cell? ⟨B, n * 4 + 1, none⟩ = some (.int .i64 (ls.length : Int)) := hcc3 1 _ rfl; have x4 := hfr3 1; have HH3 := Aside0.mk hH3; have HR3 := Aside0.mk hR3; have HK3 := Aside0.mk hoki3; clear hcl3 hcc3 hfr3 hoki3 hH3 hR3 x0 x1 x2 ho hb hg2 hF12 hP12)) | (refine gate_ (.store 3 (.tmp 109) (.tmp 107)) rfl ?_; go_loud (refine Kd.H_store kGr (w0 := w0) base rfl rfl 3 (.tmp 109) (.tmp 107) rfl 134 (n : Int) 1 ((gs.set (n : Int).toNat (ls ++ [at_], b2, b3, b4)).set (n : Int).toNat (ls ++ [at_], (ls.length : Int), b3, b4)) (ls ++ [at_], ((ls.length : Int) + 1), b3, b4) (.int .i64 ((ls.length : Int) + 1)) [.int .i64 ((ls.length : Int) + 1)] [vl3, .int .i64 (ls.length : Int), .int .i64 b3, .int .i64 b4] (fun _ => True) oki3 oki3 rfl (by rw [Int.toNat_natCast]; rfl) rfl rfl (by kernel_rfl) (fun q hq => by rw [List.mem_singleton.1 hq]; rfl) HH3.out hi1 hi2 (show 1 + 1 ≤ 4 by omega) ?aM (fun _ h => h) HB12.out ?_; (case aM => exact ⟨[vl3], _, rfl, ⟨_, rfl, HR3.out⟩, ⟨_, _, rfl, rfl, ⟨_, _, rfl, rfl, rfl⟩⟩⟩); intro w13 ho hb hg2; have HS13 := Aside0.mk ho; have HB13 := Aside0.mk hb; have HG13 := Aside0.mk hg2; have hF13 := (hg2.block F (blk_lt HF12.out) (fun e => hFB (by injection e))).trans HF12.out; have hP13 := (hg2.block P (blk_lt HP12.out) (fun e => hPB (by injection e))).trans HP12.out; have y113 : w13.cell? ⟨F, 1, none⟩ = some (.pointer (some ⟨P, 0, none⟩)) := (by have := cell_of_row _ F 1 _ _ _ hF13; simpa using this); have y213 : w13.cell? ⟨P, 2, none⟩ = some (.bool false) := (by have := cell_of_row _ P 2 _ _ _ hP13; simpa using this); have y313 : w13.cell? ⟨P, 3, none⟩ = some (.pointer q2) := (by have := cell_of_row _ P 3 _ _ _ hP13; simpa using this); have y413 := blk_frozen hF13 1; have HF13 := Aside0.mk hF13; have HP13 := Aside0.mk hP13; clear ho hb hg2 hF13 hP13)) | (refine gate_ (.store 120 (.tmp 65) (.tmp 63)) rfl ?_; go_loud (refine Kd.H_store kGr (w0 := w0) base rfl rfl 120 (.tmp 65) (.tmp 63) rfl 134 (n : Int) 0 gs (ls ++ [at_], b2, b3, b4) (.slice A1 (ls.length + 1) k1) [.slice A1 (ls.length + 1) k1] [.slice Al ls.length cl, .int .i64 b2, .int .i64 b3, .int .i64 b4] (fun _ => True) (fun k => oki k ∨ True ∧ w9.heap.size ≤ k) (fun k => oki k ∨ True ∧ w9.heap.size ≤ k) rfl (by rw [Int.toNat_natCast]; rfl) rfl rfl (by kernel_rfl) (fun q hq => by rw [List.mem_singleton.1 hq]; rfl) (Kd.H_grown HH.out HG10.out (fun k hk => .inl (HOW.out k hk))) hi1 hi2 (show 0 + 1 ≤ 4 by omega) ?aM (fun _ h => h) HB10.out ?_; (case aM => exact ⟨_, _, rfl, ⟨_, rfl, HR1.out⟩, ⟨_, _, rfl, rfl, ⟨_, _, rfl, rfl, rfl⟩⟩⟩); intro w11 ho hb hg2; have HS11 := Aside0.mk ho; have HB11 := Aside0.mk hb; have HG11 := Aside0.mk hg2; have hF11 := KEEP.out _ _ HG10.out hg2 F _ 131 HF9.out.hc (by decide) (by decide); have hP11 := KEEP.out _ _ HG10.out hg2 P _ 136 HP9.out (by decide) (by decide); have e2 : (gs.set (n : Int).toNat (ls ++ [at_], b2, b3, b4)).getD (n : Int).toNat ([], 0, 0, 0) = (ls ++ [at_], b2, b3, b4) := (by simp [hnl]); obtain ⟨oki2, c2, hcl2, hM2, hcc2, hfr2, hoki2, hH2⟩ := Kd.S_elem HS11.out ([], 0, 0, 0) n hi1 hi2; rw [e2] at hM2; rw [Int.toNat_natCast] at hcc2 hfr2; obtain ⟨_, _, rfl, ⟨vl2, rfl, hR2⟩, ⟨_, _, rfl, rfl, ⟨_, _, rfl, rfl, rfl⟩⟩⟩ := hM2; obtain ⟨A2, k2, rfl⟩ := Kd.R_slice hR2; simp only at hR2; rw [List.length_append, List.length_singleton] at hR2; have x0 : w11.cell? ⟨B, n * 4, none⟩ = some (.slice A2 (ls.length + 1) k2) := (by have := hcc2 0 _ rfl; rw [List.length_append, List.length_singleton] at this; exact this); have x1 : w11.cell? ⟨B, n * 4 + 1, none⟩ = some (.int .i64 b2) := hcc2 1 _ rfl; have x2 := hfr2 1; simp only [List.length_append, List.length_singleton] at hH2; have HH2 := Aside0.mk (show Kd.H kGr 134 w11 base (fun _ => True) (.slice (some ⟨B, 0, none⟩) gs.length cap) (gs.set (n : Int).toNat (ls ++ [at_], b2, b3, b4)) (n : Int) oki2 [.slice A2 (ls.length + 1) k2, .int .i64 b2, .int .i64 b3, .int .i64 b4] from hH2); have HR2 := Aside0.mk hR2; have HK2 := Aside0.mk hoki2; clear hcl2 hcc2 hfr2 hoki2 hH2 e2 hR2; have y1 : w11.cell? ⟨F, 1, none⟩ = some (.pointer (some ⟨P, 0, none⟩)) := (by have := cell_of_row _ F 1 _ _ _ hF11; simpa using this); have y2 : w11.cell? ⟨P, 1, none⟩ = some (.int .i64 br) := (by have := cell_of_row _ P 1 _ _ _ hP11; simpa using this); have y3 : w11.cell? ⟨P, 2, none⟩ = some (.bool false) := (by have := cell_of_row _ P 2 _ _ _ hP11; simpa using this); have y4 := blk_frozen hP11 1; have y5 := blk_frozen hP11 2; have HP11 := Aside0.mk hP11; have HF11 := Aside0.mk hF11; clear ho hb hg2 hP11 hF11)))
    go_ret
    have hK : ∀ (k : Nat) (c : Array Value), w9.heap[k]? = some (Obj.cells c 136 (0, 0)) → w13.heap[k]? = some (Obj.cells c 136 (0, 0)) := fun k c h => by
      have hkB : k ≠ B := by
        rintro rfl
        obtain ⟨c', h'⟩ := hBt
        rw [h'] at h
        injection h with h
        injection h with _ h
        exact absurd h (by decide)
      have h11 := KEEP.out _ _ HG10.out HG11.out k c 136 h (by decide) (by decide)
      have h12 := (HG12.out.block k (blk_lt h11) (fun e => hkB (by injection e))).trans h11
      exact (HG13.out.block k (blk_lt h12) (fun e => hkB (by injection e))).trans h12
    have hSS := HS13.out
    rw [Int.toNat_natCast] at hSS
    simp only [List.set_set] at hSS
    exact ⟨rfl, ⟨_, _, endif_end (P := P) (n := n) HF9.out HF13.out (by have := blk_lt HP13.out; omega) HC9.out hSS (by rw [List.length_set]) hK⟩, HB13.out.setCell HF9.out.hF _⟩
  · go_enter Tryz.func69, Tryz.ntmps69
    go_wp2_with (first | (go_at_call 68; go_loud (refine (H68 _).mono ?_; rintro e w8 ⟨rfl, hd⟩; have HF8 := Aside0.mk (HFA.out.drawn hd.below); have HB8 := Aside0.mk (below_via HBA.out HLE.out hd.below); replace hg0 := (hd.below.cell (World.block_lt_of_cell? w _ hg0)).trans hg0; replace hg1 := (hd.below.cell (World.block_lt_of_cell? w _ hg1)).trans hg1; replace z3 := (hd.below.cell (World.block_lt_of_cell? w _ z3)).trans z3; replace z1 := (hd.below.cell (World.block_lt_of_cell? w _ z1)).trans z1; replace z2 := (hd.below.cell (World.block_lt_of_cell? w _ z2)).trans z2; clear hd)))
    go_quiet (fail)
    obtain ⟨w9, hw9⟩ : ∃ w9, w9 = w8.drewN nq := ⟨_, rfl⟩
    rw [← hw9]
    have HF9 : Aside0 (FS base F w9 (.slice (some ⟨B, 0, none⟩) gs.length cap) (.pointer (some ⟨P, 0, none⟩)) gs ((n, br, true) :: st)) := ⟨by rw [hw9]; exact HF8.out.drawn (pw_below_drewN (Below.refl _ _) nq)⟩
    have HB9 : Aside0 (Below base w0 w9) := ⟨by rw [hw9]; exact pw_below_drewN HB8.out nq⟩
    have HSZ9 : Aside0 (base ≤ w9.heap.size) := ⟨by have := HF9.out.hF; have := blk_lt HF9.out.hc; omega⟩
    clear hw9 HF8 HB8 hg0 hg1 z1 z2 z3 w8
    obtain ⟨oki, c, hcl, hM, hcc, hfr, hoki, hH⟩ := Kd.S_elem HF9.out.hgs ([], 0, 0, 0) n hi1 hi2
    rw [Int.toNat_natCast] at hM hcc hfr
    change kGr.M w9 base oki (grAt gs n) c at hM
    generalize hg : grAt gs n = g0 at *
    obtain ⟨ls, b2, b3, b4⟩ := g0
    obtain ⟨_, _, rfl, ⟨vl, rfl, hR⟩, ⟨_, _, rfl, rfl, ⟨_, _, rfl, rfl, rfl⟩⟩⟩ := hM
    simp only at hR hll
    obtain ⟨Al, cl, rfl⟩ := Kd.R_slice hR
    have hv0 : w9.cell? ⟨B, n * 4, none⟩ = some (.slice Al ls.length cl) := hcc 0 _ rfl
    have HR := Aside0.mk (Kd.R_mono (ok' := fun k => oki k ∨ True ∧ w9.heap.size ≤ k) hR (fun k hk => .inl hk))
    have HH := Aside0.mk (Kd.H_widen hH)
    have HOW : Aside0 (∀ k, (Value.slice Al ls.length cl).ownBlock = some k → oki k) := ⟨hR.1⟩
    have HOK := Aside0.mk hoki
    obtain ⟨P', q1, eP, _, hP1', hP2', hP3'⟩ := HF9.out.hst
    obtain rfl : P = P' := by injection eP with eP; injection eP with eP; injection eP
    simp only at hP2'
    obtain ⟨q2, rfl⟩ := Chain.ptr hP3'
    have HP9 := Aside0.mk hP2'
    have HC9 := Aside0.mk hP3'
    have hFP : ¬ F = P := by
      rintro rfl
      have := HF9.out.hc
      rw [hP2'] at this
      injection this with this
      injection this with _ this
      exact absurd this (by decide)
    have hPF : ¬ P = F := fun h => hFP h.symm
    have hBt : ∃ cells, w9.heap[B]? = some (.cells cells 134 (0, 0)) := Kd.S_typed HF9.out.hgs B rfl
    have hFB : ¬ F = B := by
      rintro rfl
      obtain ⟨c', h'⟩ := hBt
      have := HF9.out.hc
      rw [h'] at this
      injection this with this
      injection this with _ this
      exact absurd this (by decide)
    have hPB : ¬ P = B := by
      rintro rfl
      obtain ⟨c', h'⟩ := hBt
      have := HP9.out
      rw [h'] at this
      injection this with this
      injection this with _ this
      exact absurd this (by decide)
    have E3 : Aside0 (((gs.set (n : Int).toNat (ls ++ [at_], b2, b3, b4)).set (n : Int).toNat (ls ++ [at_], (ls.length : Int), b3, b4)).getD (n : Int).toNat ([], 0, 0, 0) = (ls ++ [at_], (ls.length : Int), b3, b4)) := ⟨by simp [hnl]⟩
    have KEEP : Aside0 (∀ w10 w11 : World, World.grownBy w9 w10 (Value.slice Al ls.length cl).ownBlock → World.grownBy w10 w11 (some B) → ∀ (k : Nat) (c : Array Value) (t : TypeId), w9.heap[k]? = some (Obj.cells c t (0, 0)) → t ≠ 3 → t ≠ 134 → w11.heap[k]? = some (Obj.cells c t (0, 0))) := ⟨fun w10 w11 h1 h2 k c t hc ht1 ht2 => by
      have a1 : some k ≠ (Value.slice Al ls.length cl).ownBlock := fun e => by
        obtain ⟨c', h⟩ := Kd.R_typed HR.out k e.symm
        rw [h] at hc; injection hc with hc; injection hc with _ hc; exact ht1 hc.symm
      have a2 : some k ≠ some B := fun e => by
        injection e with e; subst e
        obtain ⟨c', h⟩ := Kd.S_typed HF9.out.hgs k rfl
        rw [h] at hc; injection hc with hc; injection hc with _ hc; exact ht2 hc.symm
      have b1 := (h1.block k (blk_lt hc) a1).trans hc
      exact (h2.block k (blk_lt b1) a2).trans b1⟩
    clear hcc hfr hoki hH hR hcl hP2' hP3' eP
    go_wp2_with (first | (at_builtin; go_loud (refine Kd.R_append (Kd.int .i64) (w0 := w0) base rfl (.tmp 60) (.tmp 62) 120 3 (.int .i64 0) 8 rfl Tryz.underlying120 (by kernel_rfl) rfl (by decide) (by omega) (.slice Al ls.length cl) ls at_ [.int .i64 at_] (fun k => oki k ∨ True ∧ w9.heap.size ≤ k) (fun _ => False) rfl rfl rfl (fun _ hk => hk.elim) (fun k hk => .inr ⟨trivial, hk⟩) HR.out HB9.out HSZ9.out (by omega) ?_; intro v1 w10 ho hb hg1 hat; obtain ⟨A1, k1, rfl⟩ := Kd.R_slice ho; rw [List.length_append, List.length_singleton] at ho; have HR1 := Aside0.mk ho; have HB10 := Aside0.mk hb; have HG10 := Aside0.mk hg1; clear ho hb hg1 hat)) | (refine gate_ (.store 3 (.tmp 94) (.tmp 92)) rfl ?_; go_loud (refine Kd.H_store kGr (w0 := w0) base rfl rfl 3 (.tmp 94) (.tmp 92) rfl 134 (n : Int) 1 (gs.set (n : Int).toNat (ls ++ [at_], b2, b3, b4)) (ls ++ [at_], (ls.length : Int), b3, b4) (.int .i64 (ls.length : Int)) [.int .i64 (ls.length : Int)] [.slice A2 (ls.length + 1) k2, .int .i64 b2, .int .i64 b3, .int .i64 b4] (fun _ => True) oki2 oki2 rfl (by rw [Int.toNat_natCast]; rfl) rfl rfl (by kernel_rfl) (fun q hq => by rw [List.mem_singleton.1 hq]; rfl) HH2.out hi1 hi2 (show 1 + 1 ≤ 4 by omega) ?aM (fun _ h => h) HB11.out ?_; (case aM => exact ⟨[.slice A2 (ls.length + 1) k2], _, rfl, ⟨_, rfl, HR2.out⟩, ⟨_, _, rfl, rfl, ⟨_, _, rfl, rfl, rfl⟩⟩⟩); intro w12 ho hb hg2; have HS12 := Aside0.mk ho; have HB12 := Aside0.mk hb; have HG12 := Aside0.mk hg2; have hF12 := (hg2.block F (blk_lt HF11.out) (fun e => hFB (by injection e))).trans HF11.out; have hP12 := (hg2.block P (blk_lt HP11.out) (fun e => hPB (by injection e))).trans HP11.out; have y112 : w12.cell? ⟨F, 1, none⟩ = some (.pointer (some ⟨P, 0, none⟩)) := (by have := cell_of_row _ F 1 _ _ _ hF12; simpa using this); have y212 : w12.cell? ⟨P, 2, none⟩ = some (.bool true) := (by have := cell_of_row _ P 2 _ _ _ hP12; simpa using this); have y312 : w12.cell? ⟨P, 3, none⟩ = some (.pointer q2) := (by have := cell_of_row _ P 3 _ _ _ hP12; simpa using this); have y412 := blk_frozen hF12 1; have HF12 := Aside0.mk hF12; have HP12 := Aside0.mk hP12; obtain ⟨oki3, c3_, hcl3, hM3, hcc3, hfr3, hoki3, hH3⟩ := Kd.S_elem HS12.out ([], 0, 0, 0) n hi1 hi2; rw [E3.out] at hM3; rw [Int.toNat_natCast] at hcc3 hfr3; obtain ⟨_, _, rfl, ⟨vl3, rfl, hR3⟩, ⟨_, _, rfl, rfl, ⟨_, _, rfl, rfl, rfl⟩⟩⟩ := hM3; have x3 : w12.cell? ⟨B, n * 4 + 1, none⟩ = some (.int .i64 (ls.length : Int)) := hcc3 1 _ rfl; have x4 := hfr3 1; have HH3 := Aside0.mk hH3; have HR3 := Aside0.mk hR3; have HK3 := Aside0.mk hoki3; clear hcl3 hcc3 hfr3 hoki3 hH3 hR3 x0 x1 x2 ho hb hg2 hF12 hP12)) | (refine gate_ (.store 3 (.tmp 109) (.tmp 107)) rfl ?_; go_loud (refine Kd.H_store kGr (w0 := w0) base rfl rfl 3 (.tmp 109) (.tmp 107) rfl 134 (n : Int) 1 ((gs.set (n : Int).toNat (ls ++ [at_], b2, b3, b4)).set (n : Int).toNat (ls ++ [at_], (ls.length : Int), b3, b4)) (ls ++ [at_], ((ls.length : Int) + 1), b3, b4) (.int .i64 ((ls.length : Int) + 1)) [.int .i64 ((ls.length : Int) + 1)] [vl3, .int .i64 (ls.length : Int), .int .i64 b3, .int .i64 b4] (fun _ => True) oki3 oki3 rfl (by rw [Int.toNat_natCast]; rfl) rfl rfl (by kernel_rfl) (fun q hq => by rw [List.mem_singleton.1 hq]; rfl) HH3.out hi1 hi2 (show 1 + 1 ≤ 4 by omega) ?aM (fun _ h => h) HB12.out ?_; (case aM => exact ⟨[vl3], _, rfl, ⟨_, rfl, HR3.out⟩, ⟨_, _, rfl, rfl, ⟨_, _, rfl, rfl, rfl⟩⟩⟩); intro w13 ho hb hg2; have HS13 := Aside0.mk ho; have HB13 := Aside0.mk hb; have HG13 := Aside0.mk hg2; have hF13 := (hg2.block F (blk_lt HF12.out) (fun e => hFB (by injection e))).trans HF12.out; have hP13 := (hg2.block P (blk_lt HP12.out) (fun e => hPB (by injection e))).trans HP12.out; have y113 : w13.cell? ⟨F, 1, none⟩ = some (.pointer (some ⟨P, 0, none⟩)) := (by have := cell_of_row _ F 1 _ _ _ hF13; simpa using this); have y213 : w13.cell? ⟨P, 2, none⟩ = some (.bool true) := (by have := cell_of_row _ P 2 _ _ _ hP13; simpa using this); have y313 : w13.cell? ⟨P, 3, none⟩ = some (.pointer q2) := (by have := cell_of_row _ P 3 _ _ _ hP13; simpa using this); have y413 := blk_frozen hF13 1; have HF13 := Aside0.mk hF13; have HP13 := Aside0.mk hP13; clear ho hb hg2 hF13 hP13)) | (refine gate_ (.store 120 (.tmp 65) (.tmp 63)) rfl ?_; go_loud (refine Kd.H_store kGr (w0 := w0) base rfl rfl 120 (.tmp 65) (.tmp 63) rfl 134 (n : Int) 0 gs (ls ++ [at_], b2, b3, b4) (.slice A1 (ls.length + 1) k1) [.slice A1 (ls.length + 1) k1] [.slice Al ls.length cl, .int .i64 b2, .int .i64 b3, .int .i64 b4] (fun _ => True) (fun k => oki k ∨ True ∧ w9.heap.size ≤ k) (fun k => oki k ∨ True ∧ w9.heap.size ≤ k) rfl (by rw [Int.toNat_natCast]; rfl) rfl rfl (by kernel_rfl) (fun q hq => by rw [List.mem_singleton.1 hq]; rfl) (Kd.H_grown HH.out HG10.out (fun k hk => .inl (HOW.out k hk))) hi1 hi2 (show 0 + 1 ≤ 4 by omega) ?aM (fun _ h => h) HB10.out ?_; (case aM => exact ⟨_, _, rfl, ⟨_, rfl, HR1.out⟩, ⟨_, _, rfl, rfl, ⟨_, _, rfl, rfl, rfl⟩⟩⟩); intro w11 ho hb hg2; have HS11 := Aside0.mk ho; have HB11 := Aside0.mk hb; have HG11 := Aside0.mk hg2; have hF11 := KEEP.out _ _ HG10.out hg2 F _ 131 HF9.out.hc (by decide) (by decide); have hP11 := KEEP.out _ _ HG10.out hg2 P _ 136 HP9.out (by decide) (by decide); have e2 : (gs.set (n : Int).toNat (ls ++ [at_], b2, b3, b4)).getD (n : Int).toNat ([], 0, 0, 0) = (ls ++ [at_], b2, b3, b4) := (by simp [hnl]); obtain ⟨oki2, c2, hcl2, hM2, hcc2, hfr2, hoki2, hH2⟩ := Kd.S_elem HS11.out ([], 0, 0, 0) n hi1 hi2; rw [e2] at hM2; rw [Int.toNat_natCast] at hcc2 hfr2; obtain ⟨_, _, rfl, ⟨vl2, rfl, hR2⟩, ⟨_, _, rfl, rfl, ⟨_, _, rfl, rfl, rfl⟩⟩⟩ := hM2; obtain ⟨A2, k2, rfl⟩ := Kd.R_slice hR2; simp only at hR2; rw [List.length_append, List.length_singleton] at hR2; have x0 : w11.cell? ⟨B, n * 4, none⟩ = some (.slice A2 (ls.length + 1) k2) := (by have := hcc2 0 _ rfl; rw [List.length_append, List.length_singleton] at this; exact this); have x1 : w11.cell? ⟨B, n * 4 + 1, none⟩ = some (.int .i64 b2) := hcc2 1 _ rfl; have x2 := hfr2 1; simp only [List.length_append, List.length_singleton] at hH2; have HH2 := Aside0.mk (show Kd.H kGr 134 w11 base (fun _ => True) (.slice (some ⟨B, 0, none⟩) gs.length cap) (gs.set (n : Int).toNat (ls ++ [at_], b2, b3, b4)) (n : Int) oki2 [.slice A2 (ls.length + 1) k2, .int .i64 b2, .int .i64 b3, .int .i64 b4] from hH2); have HR2 := Aside0.mk hR2; have HK2 := Aside0.mk hoki2; clear hcl2 hcc2 hfr2 hoki2 hH2 e2 hR2; have y1 : w11.cell? ⟨F, 1, none⟩ = some (.pointer (some ⟨P, 0, none⟩)) := (by have := cell_of_row _ F 1 _ _ _ hF11; simpa using this); have y2 : w11.cell? ⟨P, 1, none⟩ = some (.int .i64 br) := (by have := cell_of_row _ P 1 _ _ _ hP11; simpa using this); have y3 : w11.cell? ⟨P, 2, none⟩ = some (.bool true) := (by have := cell_of_row _ P 2 _ _ _ hP11; simpa using this); have y4 := blk_frozen hP11 1; have y5 := blk_frozen hP11 2; have HP11 := Aside0.mk hP11; have HF11 := Aside0.mk hF11; clear ho hb hg2 hP11 hF11)))
    go_ret
    have hK : ∀ (k : Nat) (c : Array Value), w9.heap[k]? = some (Obj.cells c 136 (0, 0)) → w12.heap[k]? = some (Obj.cells c 136 (0, 0)) := fun k c h => by
      have hkB : k ≠ B := by
        rintro rfl
        obtain ⟨c', h'⟩ := hBt
        rw [h'] at h
        injection h with h
        injection h with _ h
        exact absurd h (by decide)
      have h11 := KEEP.out _ _ HG10.out HG11.out k c 136 h (by decide) (by decide)
      exact (HG12.out.block k (blk_lt h11) (fun e => hkB (by injection e))).trans h11
    have hSS := HS12.out
    rw [Int.toNat_natCast] at hSS
    simp only [List.set_set] at hSS
    exact ⟨rfl, ⟨_, _, endif_end (P := P) (n := n) HF9.out HF12.out (by have := blk_lt HP12.out; omega) HC9.out hSS (by rw [List.length_set]) hK⟩, HB12.out.setCell HF9.out.hF _⟩
theorem step_any (kind : ByteArray) (at_ : Int) (base F : Nat) (w0 w : World) (v p : Value) (gs : List Gr) (st : List Ope) (HF : FS base F w v p gs st) (HB : Below base w0 w) (hl : gs.length ≤ 1000000) (hll : ∀ g ∈ gs, g.1.length ≤ 1000000) :
    Calls Tryz.prog 69 #[.pointer (some ⟨F, 0, none⟩), .string kind, .int .i64 at_] w (StepQ base F w0 (stepF kind at_ gs st)) := by
  by_cases ho : opensB kind = true
  · exact step_easy kind at_ base F w0 w v p gs st HF HB hl (.inl ho)
  · by_cases hk : kind.toList ≠ elifL ∧ kind.toList ≠ elseL ∧ kind.toList ≠ endifL
    · exact step_easy kind at_ base F w0 w v p gs st HF HB hl (.inr ⟨by simpa using ho, hk⟩)
    · have hk' : kind.toList = elifL ∨ kind.toList = elseL ∨ kind.toList = endifL := by
        by_cases h1 : kind.toList = elifL
        · exact .inl h1
        · by_cases h2 : kind.toList = elseL
          · exact .inr (.inl h2)
          · by_cases h3 : kind.toList = endifL
            · exact .inr (.inr h3)
            · exact absurd ⟨h1, h2, h3⟩ hk
      unfold stepF
      rw [if_neg ho, if_neg hk]
      cases st with
      | nil => exact step_false kind at_ base F w0 w v p gs [] HF HB hk' (.inl rfl)
      | cons x st' =>
        obtain ⟨n, br, hs⟩ := x
        have hg : (grAt gs n).1.length ≤ 1000000 := by
          have hn : n < gs.length := HF.wf _ List.mem_cons_self
          have : grAt gs n = gs[n] := by simp [grAt, hn]
          rw [this]
          exact hll _ (List.getElem_mem hn)
        dsimp only
        by_cases hc : hs = true ∧ kind.toList ≠ endifL
        · rw [if_pos hc]
          exact step_false kind at_ base F w0 w v p gs _ HF HB hk' (.inr ⟨_, _, rfl, hc⟩)
        · rw [if_neg hc]
          by_cases he : kind.toList ≠ endifL
          · rw [if_pos he]
            have h1 : kind.toList = elifL ∨ kind.toList = elseL := by
              rcases hk' with h | h | h
              · exact .inl h
              · exact .inr h
              · exact absurd h he
            have h2 : hs = false := by cases hs with | false => rfl | true => exact absurd ⟨rfl, he⟩ hc
            rcases kindIs kind hk' with h | h | h
            · exact step_else kind at_ base F w0 w v p gs n br hs st' HF HB hl hg _ _ h1 h (.inl ⟨rfl, rfl⟩) h2
            · exact step_else kind at_ base F w0 w v p gs n br hs st' HF HB hl hg _ _ h1 h (.inr ⟨rfl, rfl⟩) h2
            · exact absurd (beq_iff_eq.1 h.c3) he
          · rw [if_neg he]
            have he' : kind.toList = endifL := Classical.not_not.1 he
            rcases kindIs kind hk' with h | h | h
            · exact absurd he' (beq_eq_false_iff_ne.1 h.c3)
            · exact absurd he' (beq_eq_false_iff_ne.1 h.c3)
            · exact step_endif kind at_ base F w0 w v p gs n br hs st' HF HB hl hg he' h
end Go.Proofs.YtolaiebjmhieiaaGreatDoor.OScan
