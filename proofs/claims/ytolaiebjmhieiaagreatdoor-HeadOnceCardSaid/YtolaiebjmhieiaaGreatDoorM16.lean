/- HeadOnce: for every list of files, every name and every list of places the law answers true, and all read behind the call as before; the listed tables are tied to the text of the program; no condition. Here: parts of its proof. -/
import Derived.Test.YtolaiebjmhieiaaGreatDoorM15
import Derived.Test.YtolaiebjmhieiaaGreatDoorM11
import Derived.OwnWalk
import Derived.Laws.EntriesVeiled
import Derived.Lib.SplitLaws
section
namespace Go.Proofs.YtolaiebjmhieiaaGreatDoor.OScan
open Go.RowKit Go.Proofs.YtolaiebjmhieiaaGreatDoorW.PrintWords Go.Proofs.YtolaiebjmhieiaaGreatDoorW.PrintLast Go.Proofs.YtolaiebjmhieiaaGreatDoorW.PrintMore
set_option linter.unusedVariables false
set_option linter.unusedSimpArgs false
def grpGo : List ByteArray → Nat → List Gr → List Ope → (List Gr × List Ope) ⊕ Nat
  | [], _, gs, st => .inl (gs, st)
  | k :: ks, i, gs, st => match stepF k i gs st with
    | none => .inr i
    | some r => grpGo ks (i + 1) r.1 r.2
def opensN : List ByteArray → Nat
  | [] => 0
  | k :: ks => (if opensB k = true then 1 else 0) + opensN ks
theorem opensN_le : ∀ ks : List ByteArray, opensN ks ≤ ks.length
  | [] => Nat.le_refl _
  | k :: ks => by have := opensN_le ks; unfold opensN; rw [List.length_cons]; split <;> omega
theorem opensN_snoc : ∀ (ks : List ByteArray) (k : ByteArray), opensN (ks ++ [k]) = opensN ks + (if opensB k = true then 1 else 0)
  | [], k => by simp [opensN]
  | x :: ks, k => by rw [List.cons_append, opensN, opensN, opensN_snoc ks k]; omega
def groupsR (ks : List ByteArray) : List Gr × Int × Int :=
  if 200 < opensN ks then ([], 2, 0) else
  match grpGo ks 0 [] [] with
  | .inr i => ([], 30, i)
  | .inl (gs, []) => (gs, 0, 0)
  | .inl (gs, x :: _) => ([], 30, (grAt gs x.1).1.headD 0)
def KindOf (t : Tk) (r : ByteArray) : Prop := ∃ k, OCond.cond_Kind.f k t.1 t.2.1 t.2.2.1 t.2.2.2 = some r
theorem take_snoc {α : Type} (l : List α) (i : Nat) (r : α) (h : l[i]? = some r) : l.take (i + 1) = l.take i ++ [r] := by
  obtain ⟨hi, he⟩ := List.getElem?_eq_some_iff.1 h
  rw [List.take_succ_eq_append_getElem hi, he]
theorem fill_set {α : Type} (l : List α) (z r : α) (i n : Nat) (hi : i < n) (h : l[i]? = some r) : (l.take i ++ List.replicate (n - i) z).set (i : Int).toNat r = l.take (i + 1) ++ List.replicate (n - (i + 1)) z := by
  obtain ⟨hil, he⟩ := List.getElem?_eq_some_iff.1 h
  have hl : (l.take i).length = i := by rw [List.length_take]; omega
  rw [Int.toNat_natCast, take_snoc l i r h, List.set_append_right _ _ (by omega), hl, Nat.sub_self, show n - i = (n - (i + 1)) + 1 by omega, List.replicate_succ, List.set_cons_zero]
  simp
theorem fill_get {α : Type} (l : List α) (z r : α) (i n : Nat) (h : l[i]? = some r) : (l.take (i + 1) ++ List.replicate (n - (i + 1)) z).getD (i : Int).toNat z = r := by
  obtain ⟨hil, he⟩ := List.getElem?_eq_some_iff.1 h
  rw [Int.toNat_natCast, List.getD_eq_getElem?_getD, List.getElem?_append_left (by rw [List.length_take]; omega), List.getElem?_take, if_pos (by omega), h]
  rfl
def GInv (i : Nat) (gs : List Gr) : Prop := gs.length ≤ i ∧ ∀ g ∈ gs, g.1.length ≤ i ∧ g.1 ≠ []
theorem GInv.mono {i j : Nat} {gs : List Gr} (h : GInv i gs) (hij : i ≤ j) : GInv j gs := ⟨by have := h.1; omega, fun g hg => ⟨by have := (h.2 g hg).1; omega, (h.2 g hg).2⟩⟩
theorem GInv.grow {i : Nat} {gs : List Gr} {n : Nat} {a : Int} {y : Int × Int × Int} (h : GInv i gs) : GInv (i + 1) (gs.set n ((grAt gs n).1 ++ [a], y)) := by
  refine ⟨by rw [List.length_set]; have := h.1; omega, fun g hg => ?_⟩
  rcases List.mem_or_eq_of_mem_set hg with hg | rfl
  · exact (h.mono (Nat.le_succ i)).2 g hg
  · refine ⟨?_, by simp⟩
    rw [List.length_append, List.length_singleton]
    by_cases hn : n < gs.length
    · have e : grAt gs n = gs[n] := by simp [grAt, hn]
      rw [e]
      have := (h.2 _ (List.getElem_mem hn)).1
      omega
    · have e : grAt gs n = ([], 0, 0, 0) := by simp [grAt, List.getD_eq_getElem?_getD, List.getElem?_eq_none (Nat.le_of_not_lt hn)]
      rw [e]; simp
theorem GInv.step {i : Nat} {k : ByteArray} {a : Int} {gs : List Gr} {st : List Ope} {r : List Gr × List Ope} (h : GInv i gs) (hs : stepF k a gs st = some r) : GInv (i + 1) r.1 := by
  unfold stepF at hs
  split at hs
  · obtain rfl := Option.some.inj hs
    refine ⟨by show (gs ++ _).length ≤ _; rw [List.length_append, List.length_singleton]; have := h.1; omega, fun g hg => ?_⟩
    rcases List.mem_append.1 hg with hg | hg
    · exact (h.mono (Nat.le_succ i)).2 g hg
    · rw [List.mem_singleton.1 hg]; exact ⟨by simp, by simp⟩
  · split at hs
    · obtain rfl := Option.some.inj hs
      exact h.mono (Nat.le_succ i)
    · split at hs
      · cases hs
      · split at hs
        · cases hs
        · split at hs
          · obtain rfl := Option.some.inj hs
            exact h.grow
          · obtain rfl := Option.some.inj hs
            exact h.grow
set_option maxHeartbeats 1000000 in
set_option maxRecDepth 100000 in
theorem groups_any (ys : List Tk) (ks : List ByteArray) (w : World) (A : Option Addr) (c : Nat) (hC : Kd.C kTk w A ys.length ys) (hc : ys.length ≤ c) (hG : Glob2 w) (hl : ys.length ≤ 900000) (hkl : ks.length = ys.length)
    (hK : ∀ (i : Nat) (t : Tk), ys[i]? = some t → ∃ r, ks[i]? = some r ∧ KindOf t r) :
    Calls Tryz.prog 41 #[.slice A ys.length c] w fun e w' => ∃ v, e = .returned (.tuple #[v, .int .i64 (groupsR ks).2.1, .int .i64 (groupsR ks).2.2]) ∧ Kd.R kGr 134 w' w.heap.size (fun _ => True) v (groupsR ks).1 ∧ Below w.heap.size w w' := by
  have H68 := fun W k => OCond.cond_opens.calls k _ W (opens_f k)
  have HG := Aside0.mk hG
  have HC := Aside0.mk hC
  have HK := Aside0.mk hK
  have HKL := Aside0.mk hkl
  obtain ⟨n, hn⟩ : ∃ n, n = ys.length := ⟨_, rfl⟩
  rw [← hn] at hc hl ⊢
  have HN := Aside0.mk hn
  clear hG hC hK hkl hn
  go_enter Tryz.func41, Tryz.ntmps41
  go_wp2_with (refine gate_ (.makeSlice 23 (.tmp 13) (.tmp 13)) rfl ?_; go_loud (refine Kd.R_make Kd.string (w0 := w) w.heap.size 9 rfl (N := 14) rfl 23 (.tmp 13) (.tmp 13) rfl (n : Int) rfl rfl Tryz.underlying23 (.string ⟨#[]⟩) 16 (by kernel_rfl) rfl (by decide) (by omega) ⟨#[]⟩ (ok := fun _ => True) (okp := fun _ => False) rfl (fun _ h => h.elim) trivial (by omega) (by simp; omega) (Below.refl _ _) (Nat.le_refl _) ?_; intro v5 w5 ho hb hg5 hat; rw [Int.toNat_natCast] at ho; obtain ⟨b5, hat, _⟩ := hat; obtain ⟨A5, c5, rfl⟩ := Kd.R_slice ho; rw [List.length_replicate] at ho; obtain ⟨g5, rfl⟩ : ∃ g, A5 = some ⟨g, 0, none⟩ := (by cases A5 with | none => simp [Value.ownBlock] at hat | some a => obtain ⟨g, rfl⟩ := Kd.R_head ho; exact ⟨g, rfl⟩); have HR5 := Aside0.mk ho; have HB5 := Aside0.mk hb; clear ho hb hg5 hat))
  have HG5 : Aside0 (Glob2 w5) := ⟨HG.out.below HB5.out⟩
  go_loopg [6, 17] n (fun kq v6 v17 w' => ∃ (i : Nat), v17 = .int .i64 i ∧ v6 = .int .i64 (opensN (ks.take i)) ∧ Aside0 (kq + i = n) ∧ Aside0 (Kd.R Kd.string 9 w' w.heap.size (fun _ => True) (.slice (some ⟨g5, 0, none⟩) n c5) (ks.take i ++ List.replicate (n - i) ⟨#[]⟩)) ∧ Aside0 (Below w.heap.size w w'))
  case atStart => exact ⟨0, rfl, rfl, ⟨rfl⟩, ⟨by simpa using HR5.out⟩, HB5⟩
  case round =>
    obtain ⟨i, rfl, rfl, hki, hR, hB⟩ := hrel
    have hki' := hki.out
    cases gk with
    | zero =>
      have hlt : decide ((i : Int) < (n : Int)) = false := decide_eq_false (by omega)
      obtain rfl : i = n := by omega
      have ht : ks.take i = ks := List.take_of_length_le (by rw [HKL.out, ← HN.out]; omega)
      have hRn := hR.out
      rw [ht, Nat.sub_self, List.replicate_zero, List.append_nil] at hRn
      rw [ht]
      have HR6 := Aside0.mk hRn
      clear hR hRn ht
      by_cases hbig : 200 < opensN ks
      · have hb1 : decide ((200 : Int) < (opensN ks : Int)) = true := decide_eq_true (by omega)
        go_wp2
        go_ret3
        have hgr : groupsR ks = ([], 2, 0) := by unfold groupsR; rw [if_pos hbig]
        rw [hgr]
        exact ⟨_, rfl, Kd.R_nil _ _ _ _ _, hB.out⟩
      · have hb1 : decide ((200 : Int) < (opensN ks : Int)) = false := decide_eq_false (by omega)
        have hcell : Aside0 (∀ (j : Nat) (r : ByteArray), ks[j]? = some r → wr.cell? ⟨g5, j, none⟩ = some (.string r)) := ⟨fun j r hj => by
          obtain ⟨hjl, _⟩ := List.getElem?_eq_some_iff.1 hj
          obtain ⟨c8, _, hM8, hcc8, _⟩ := Kd.R_elem HR6.out ⟨#[]⟩ (j : Int) (by omega) (by rw [HKL.out, ← HN.out] at hjl; omega)
          obtain rfl := hM8
          have := hcc8 0 _ rfl
          rw [Int.toNat_natCast, List.getD_eq_getElem?_getD, hj] at this
          simpa [Kd.string, Kd.scalar] using this⟩
        have HG6 : Aside0 (Glob2 wr) := ⟨HG.out.below hB.out⟩
        have HBW := hB
        have HSZ : Aside0 (w.heap.size ≤ wr.heap.size) := ⟨hB.out.size⟩
        have HBIG := Aside0.mk hbig
        clear hB hbig HR6
        go_wp2
        obtain ⟨F, hF⟩ : ∃ F, F = wr.heap.size := ⟨_, rfl⟩
        obtain ⟨w10, hw10⟩ : ∃ w10, w10 = wr.alloc (Obj.cells #[Value.slice none 0 0, Value.pointer none] 131) := ⟨_, rfl⟩
        rw [← hw10, ← hF]
        have HF0 : Aside0 (FS F F w10 (.slice none 0 0) (.pointer none) [] []) := ⟨⟨Nat.le_refl _, by rw [hw10, hF]; exact blk_new _ _, Kd.S_nil _ _ _ _ _, rfl, fun x hx => by cases hx⟩⟩
        have HB10 : Aside0 (Below F wr w10) := ⟨by rw [hw10, hF]; exact below_alloc (Below.refl _ _) _⟩
        have HFE := Aside0.mk hF
        clear hw10 hF
        obtain ⟨W6, hW6⟩ : ∃ W6, W6 = wr := ⟨_, rfl⟩
        subst hW6
        have HLE := Aside0.mk hl
        go_loopg [41] i (fun kq v41 w' => ∃ (j : Nat) (gs : List Gr) (st : List Ope) (v p : Value), v41 = .int .i64 j ∧ Aside0 (kq + j = i) ∧ Aside0 (grpGo (ks.drop j) j gs st = grpGo ks 0 [] []) ∧ Aside0 (FS F F w' v p gs st) ∧ Aside0 (Below F W6 w') ∧ Aside0 (GInv j gs))
        case atStart => exact ⟨0, [], [], _, _, rfl, ⟨rfl⟩, ⟨rfl⟩, HF0, HB10, ⟨⟨Nat.le_refl _, fun g hg => by cases hg⟩⟩⟩
        case round =>
          obtain ⟨j, gs, st, v, p, rfl, hkj, hGo, hFS, hBj, hI⟩ := hrel
          have hkj' := hkj.out
          cases gk with
          | zero =>
            obtain rfl : j = i := by omega
            have hlt : decide ((j : Int) < (j : Int)) = false := decide_eq_false (by omega)
            have hgo := hGo.out
            rw [List.drop_eq_nil_of_le (by rw [HKL.out, ← HN.out]; omega)] at hgo
            cases st with
            | nil =>
              obtain rfl : p = .pointer none := hFS.out.hst
              have hg0 : wr.cell? ⟨F, 0, none⟩ = some v := by have := cell_of_row _ F 0 _ _ _ hFS.out.hc; simpa using this
              have hg1 : wr.cell? ⟨F, 1, none⟩ = some (.pointer none) := by have := cell_of_row _ F 1 _ _ _ hFS.out.hc; simpa using this
              go_wp2
              go_ret3
              have hgr : groupsR ks = (gs, 0, 0) := by unfold groupsR; rw [if_neg HBIG.out, ← hgo]; rfl
              rw [hgr]
              exact ⟨_, rfl, Kd.S_R (Kd.S_lower hFS.out.hgs (by rw [HFE.out]; exact HSZ.out)), below_via HBW.out HSZ.out (by have := hBj.out; rwa [HFE.out] at this)⟩
            | cons x st' =>
              obtain ⟨nn, br, hs_⟩ := x
              have hnl : nn < gs.length := hFS.out.wf _ List.mem_cons_self
              obtain ⟨B, cap, rfl, hB0, hB1, hBc⟩ := Kd.S_form hFS.out.hgs (by omega)
              obtain ⟨P, q0, rfl, hP0, hP1, hP2, hP3⟩ := hFS.out.hst
              simp only at hP2
              have hg0 : wr.cell? ⟨F, 0, none⟩ = some (.slice (some ⟨B, 0, none⟩) gs.length cap) := by have := cell_of_row _ F 0 _ _ _ hFS.out.hc; simpa using this
              have hg1 : wr.cell? ⟨F, 1, none⟩ = some (.pointer (some ⟨P, 0, none⟩)) := by have := cell_of_row _ F 1 _ _ _ hFS.out.hc; simpa using this
              have z1 : wr.cell? ⟨P, 0, none⟩ = some (.int .i64 nn) := by have := cell_of_row _ P 0 _ _ _ hP2; simpa using this
              have hi1 : (0 : Int) ≤ (nn : Int) := by omega
              have hi2 : (nn : Int) < (gs.length : Int) := by omega
              obtain ⟨oki, cc, hcl, hM, hcc, hfr, hoki, hH⟩ := Kd.S_elem hFS.out.hgs ([], 0, 0, 0) nn hi1 hi2
              rw [Int.toNat_natCast] at hM hcc hfr
              change kGr.M wr F oki (grAt gs nn) cc at hM
              have hgm : grAt gs nn ∈ gs := by
                have e : grAt gs nn = gs[nn] := by simp [grAt, hnl]
                rw [e]; exact List.getElem_mem hnl
              have hne := (hI.out.2 _ hgm).2
              have hgr : groupsR ks = ([], 30, (grAt gs nn).1.headD 0) := by unfold groupsR; rw [if_neg HBIG.out, ← hgo]; rfl
              generalize hg : grAt gs nn = gg at *
              obtain ⟨ls, b2, b3, b4⟩ := gg
              obtain ⟨_, _, rfl, ⟨vl, rfl, hR⟩, ⟨_, _, rfl, rfl, ⟨_, _, rfl, rfl, rfl⟩⟩⟩ := hM
              simp only at hR hne hgr
              obtain ⟨l0, lt, rfl⟩ : ∃ l0 lt, ls = l0 :: lt := by cases ls with | nil => exact absurd rfl hne | cons a b => exact ⟨a, b, rfl⟩
              obtain ⟨gl, cl, rfl, _, _, _⟩ := Kd.R_form hR (by simp)
              have hv0 : wr.cell? ⟨B, nn * 4, none⟩ = some (.slice (some ⟨gl, 0, none⟩) (lt.length + 1) cl) := hcc 0 _ rfl
              obtain ⟨cx, _, hMx, hcx, _⟩ := Kd.R_elem hR 0 0 (by omega) (by simp)
              obtain rfl := hMx
              have hx0 : wr.cell? ⟨gl, 0, none⟩ = some (.int .i64 l0) := by have := hcx 0 _ rfl; simpa [Kd.int, Kd.scalar] using this
              have hz : (0 : Int) < ((lt.length + 1 : Nat) : Int) := by omega
              have hgr' : groupsR ks = ([], 30, l0) := hgr
              have HGR := Aside0.mk hgr'
              clear hgr hgr' hcx hcc hfr hoki hH hR hcl hP2 hP3 hg hgm hne hBc hgo
              go_wp2
              go_quiet (fail)
              go_wp2
              go_ret3
              rw [HGR.out]
              exact ⟨_, rfl, Kd.R_nil _ _ _ _ _, below_via HBW.out HSZ.out (by have := hBj.out; rw [HFE.out] at this; exact pw_below_drewN this _)⟩
          | succ g2 =>
            have hlt : decide ((j : Int) < (i : Int)) = true := decide_eq_true (by omega)
            have hji : j < i := by omega
            have hjj : (0 : Int) ≤ (j : Int) := by omega
            obtain ⟨r, hr⟩ : ∃ r, ks[j]? = some r := ⟨_, List.getElem?_eq_getElem (by rw [HKL.out, ← HN.out]; exact hji)⟩
            have hgo := hGo.out
            have hdr : ks.drop j = r :: ks.drop (j + 1) := by
              obtain ⟨hl', he'⟩ := List.getElem?_eq_some_iff.1 hr
              rw [List.drop_eq_getElem_cons hl', he']
            rw [hdr, grpGo] at hgo
            have hx0 := (hBj.out.cell (show g5 < F by rw [HFE.out]; exact World.block_lt_of_cell? W6 _ (hcell.out j r hr))).trans (hcell.out j r hr)
            have HRJ := Aside0.mk hr
            have H69 := step_any r (j : Int) F F W6 wr v p gs st hFS.out hBj.out (by have := hI.out.1; have := HLE.out; omega) (fun g hg => by have := (hI.out.2 g hg).1; have := HLE.out; omega)
            clear hr hdr
            cases hsf : stepF r j gs st with
            | none =>
              rw [hsf] at H69 hgo
              have hgr : groupsR ks = ([], 30, (j : Int)) := by unfold groupsR; rw [if_neg HBIG.out, ← hgo]
              have HGR := Aside0.mk hgr
              clear hgr hgo hsf
              go_wp2_with (first | (go_at_call 69; go_loud (refine H69.mono ?_; rintro e w9 ⟨rfl, hb9⟩; have HB9 := Aside0.mk hb9; clear hb9)))
              go_ret3
              rw [HGR.out]
              exact ⟨_, rfl, Kd.R_nil _ _ _ _ _, below_via HBW.out HSZ.out (by have := HB9.out; rwa [HFE.out] at this)⟩
            | some r' =>
              obtain ⟨gs', st'⟩ := r'
              rw [hsf] at H69 hgo
              have HI' := Aside0.mk (hI.out.step hsf)
              have HGO := Aside0.mk hgo
              clear hgo hsf
              go_wp2_with (first | (go_at_call 69; go_loud (refine H69.mono ?_; rintro e w9 ⟨rfl, ⟨v', p', hf9⟩, hb9⟩; have HB9 := Aside0.mk hb9; have HF9 := Aside0.mk hf9; clear hb9 hf9)))
              go_roundg g2
              case measure => omega
              case rel => exact ⟨j + 1, gs', st', v', p', by simp, ⟨by omega⟩, HGO, HF9, HB9, HI'⟩
    | succ g1 =>
      have hlt : decide ((i : Int) < (n : Int)) = true := decide_eq_true (by omega)
      have hin : i < n := by omega
      have HIN := Aside0.mk hin
      obtain ⟨x, hx⟩ : ∃ x, ys[i]? = some x := ⟨_, List.getElem?_eq_getElem (by rw [← HN.out]; exact hin)⟩
      obtain ⟨r, hr, kf, hkf⟩ := HK.out i x hx
      obtain ⟨ad, hA, hx0, hx1, hx2, hx3⟩ := tk_at HC.out i (by rw [← HN.out]; exact hin) x hx
      obtain rfl := hA
      replace hx0 := (hB.out.cell (World.block_lt_of_cell? w _ hx0)).trans hx0
      replace hx1 := (hB.out.cell (World.block_lt_of_cell? w _ hx1)).trans hx1
      replace hx2 := (hB.out.cell (World.block_lt_of_cell? w _ hx2)).trans hx2
      replace hx3 := (hB.out.cell (World.block_lt_of_cell? w _ hx3)).trans hx3
      clear hx
      obtain ⟨kd, bf, tx, a1⟩ := x
      simp only at hx0 hx1 hx2 hx3 hkf
      have HKF := Aside0.mk hkf
      have HRK := Aside0.mk hr
      clear hkf hr
      have hii : (0 : Int) ≤ (i : Int) := by omega
      obtain ⟨ob, hob⟩ : ∃ ob, ob = opensB r := ⟨_, rfl⟩
      have H68r := fun W => H68 W r
      rw [← hob] at H68r
      have HOB := Aside0.mk hob
      clear hob
      have hob1 : opensN (ks.take i) ≤ 900000 := by have h1 := opensN_le (ks.take i); have h2 := HIN.out; rw [List.length_take] at h1; omega
      cases ob with
      | false =>
        go_wp2_with (first | (go_at_call 67; go_loud (refine (OCond.cond_Kind.calls kf kd bf tx a1 r _ HKF.out (HG.out.below (below_alloc hB.out _))).mono ?_; rintro e w7 ⟨rfl, hb7⟩; have HR7 := Aside0.mk (Kd.R_below (Kd.R_alloc hR.out _) hb7); have HB7 := Aside0.mk (below_step (below_alloc hB.out _) hb7); obtain ⟨cc, hcl, hM, hcc, hfr⟩ := Kd.R_elem HR7.out ⟨#[]⟩ (i : Int) hii (by omega); obtain rfl := hM; have HCC := Aside0.mk hcc; clear hcc hcl hfr hb7)) | (refine gate_ (.store 9 (.tmp 26) (.tmp 25)) rfl ?_; go_loud (refine Kd.R_store Kd.string (w0 := w) w.heap.size rfl rfl 9 (.tmp 26) (.tmp 25) rfl 9 (i : Int) 0 _ r (.string r) [.string r] _ (fun _ => True) (fun _ => False) rfl (by simp [Kd.string, Kd.scalar]) rfl rfl (by kernel_rfl) (fun q hq => by rw [List.mem_singleton.1 hq]; rfl) HR7.out hii (by omega) rfl HCC.out (show 0 + 1 ≤ 1 by omega) rfl (fun _ h => h.elim) HB7.out ?_; intro w8 ho hb hg2; rw [fill_set ks _ r i n HIN.out HRK.out] at ho; have hc8 : w8.cell? ⟨g5, i, none⟩ = some (.string r) := (by obtain ⟨c8, _, hM8, hcc8, _⟩ := Kd.R_elem ho ⟨#[]⟩ (i : Int) hii (by have := HIN.out; omega); obtain rfl := hM8; have := hcc8 0 _ rfl; rw [fill_get ks _ r i n HRK.out] at this; simpa [Kd.string, Kd.scalar] using this); have HR8 := Aside0.mk ho; have HB8 := Aside0.mk hb; clear ho hb hg2)) | (go_at_call 68; go_loud (refine (H68r _).mono ?_; rintro e w9 ⟨rfl, hd⟩; have HR9 := Aside0.mk (Kd.R_below HR8.out hd.below); have HB9 := Aside0.mk (below_step HB8.out hd.below); clear hd)))
        go_roundg g1
        case measure => omega
        case rel => exact ⟨i + 1, by simp, by rw [take_snoc ks i r HRK.out, opensN_snoc, if_neg (by rw [← HOB.out]; decide)]; simp, ⟨by omega⟩, HR9, HB9⟩
      | true =>
        go_wp2_with (first | (go_at_call 67; go_loud (refine (OCond.cond_Kind.calls kf kd bf tx a1 r _ HKF.out (HG.out.below (below_alloc hB.out _))).mono ?_; rintro e w7 ⟨rfl, hb7⟩; have HR7 := Aside0.mk (Kd.R_below (Kd.R_alloc hR.out _) hb7); have HB7 := Aside0.mk (below_step (below_alloc hB.out _) hb7); obtain ⟨cc, hcl, hM, hcc, hfr⟩ := Kd.R_elem HR7.out ⟨#[]⟩ (i : Int) hii (by omega); obtain rfl := hM; have HCC := Aside0.mk hcc; clear hcc hcl hfr hb7)) | (refine gate_ (.store 9 (.tmp 26) (.tmp 25)) rfl ?_; go_loud (refine Kd.R_store Kd.string (w0 := w) w.heap.size rfl rfl 9 (.tmp 26) (.tmp 25) rfl 9 (i : Int) 0 _ r (.string r) [.string r] _ (fun _ => True) (fun _ => False) rfl (by simp [Kd.string, Kd.scalar]) rfl rfl (by kernel_rfl) (fun q hq => by rw [List.mem_singleton.1 hq]; rfl) HR7.out hii (by omega) rfl HCC.out (show 0 + 1 ≤ 1 by omega) rfl (fun _ h => h.elim) HB7.out ?_; intro w8 ho hb hg2; rw [fill_set ks _ r i n HIN.out HRK.out] at ho; have hc8 : w8.cell? ⟨g5, i, none⟩ = some (.string r) := (by obtain ⟨c8, _, hM8, hcc8, _⟩ := Kd.R_elem ho ⟨#[]⟩ (i : Int) hii (by have := HIN.out; omega); obtain rfl := hM8; have := hcc8 0 _ rfl; rw [fill_get ks _ r i n HRK.out] at this; simpa [Kd.string, Kd.scalar] using this); have HR8 := Aside0.mk ho; have HB8 := Aside0.mk hb; clear ho hb hg2)) | (go_at_call 68; go_loud (refine (H68r _).mono ?_; rintro e w9 ⟨rfl, hd⟩; have HR9 := Aside0.mk (Kd.R_below HR8.out hd.below); have HB9 := Aside0.mk (below_step HB8.out hd.below); clear hd)))
        go_roundg g1
        case measure => omega
        case rel => exact ⟨i + 1, by simp, by rw [take_snoc ks i r HRK.out, opensN_snoc, if_pos HOB.out.symm]; simp, ⟨by omega⟩, HR9, HB9⟩
end Go.Proofs.YtolaiebjmhieiaaGreatDoor.OScan
end
section
namespace Go.Proofs.YtolaiebjmhieiaaGreatDoor.OScan
open Go.RowKit Go.Proofs.YtolaiebjmhieiaaGreatDoorW.PrintWords Go.Proofs.YtolaiebjmhieiaaGreatDoorW.PrintLast Go.Proofs.YtolaiebjmhieiaaGreatDoorW.PrintMore
set_option linter.unusedVariables false
set_option linter.unusedSimpArgs false
abbrev Fl := ByteArray × ByteArray
abbrev kFl : Kd Fl := Kd.pair Kd.string Kd.string
theorem str_at {w : World} {A : Option Addr} {n : Nat} {xs : List ByteArray} (h : Kd.C Kd.string w A n xs) (i : Nat) (h1 : i < n) (x : ByteArray) (hx : xs[i]? = some x) : ∃ ad, A = some ad ∧ w.cell? (ad.add (i * 1)) = some (.string x) := by
  obtain ⟨ad, c, e, _, hK, hc0⟩ := Kd.C_get h x i (by omega) (by omega)
  have hxi : xs.getD (i : Int).toNat x = x := by simp [List.getD_eq_getElem?_getD, hx]
  rw [hxi] at hK
  have hc : ∀ j u, c[j]? = some u → w.cell? (ad.add (i * 1 + j)) = some u := hc0
  obtain rfl := hK
  exact ⟨ad, e, hc 0 _ rfl⟩
theorem fl_at {w : World} {A : Option Addr} {n : Nat} {xs : List Fl} (h : Kd.C kFl w A n xs) (i : Nat) (h1 : i < n) (x : Fl) (hx : xs[i]? = some x) : ∃ ad, A = some ad ∧ w.cell? (ad.add (i * 2)) = some (.string x.1) ∧ w.cell? ⟨(ad.add (i * 2)).block, (ad.add (i * 2)).off + 1, none⟩ = some (.string x.2) := by
  obtain ⟨ad, c, e, _, hK, hc0⟩ := Kd.C_get h x i (by omega) (by omega)
  have hxi : xs.getD (i : Int).toNat x = x := by simp [List.getD_eq_getElem?_getD, hx]
  rw [hxi] at hK
  have hc : ∀ j u, c[j]? = some u → w.cell? (ad.add (i * 2 + j)) = some u := hc0
  obtain ⟨_, _, rfl, rfl, rfl⟩ := hK
  exact ⟨ad, e, hc 0 _ rfl, by rw [← add_field _ _ 1 (by omega)]; exact hc 1 _ rfl⟩
theorem gr_at {w : World} {A : Option Addr} {n : Nat} {xs : List Gr} (h : Kd.C kGr w A n xs) (i : Nat) (h1 : i < n) (x : Gr) (hx : xs[i]? = some x) : ∃ ad Al cl, A = some ad ∧ x.1.length ≤ cl ∧ Kd.C (Kd.int .i64) w Al x.1.length x.1 ∧ w.cell? (ad.add (i * 4)) = some (.slice Al x.1.length cl) ∧ w.cell? ⟨(ad.add (i * 4)).block, (ad.add (i * 4)).off + 1, none⟩ = some (.int .i64 x.2.1) ∧ w.cell? ⟨(ad.add (i * 4)).block, (ad.add (i * 4)).off + 2, none⟩ = some (.int .i64 x.2.2.1) ∧ w.cell? ⟨(ad.add (i * 4)).block, (ad.add (i * 4)).off + 3, none⟩ = some (.int .i64 x.2.2.2) := by
  obtain ⟨ad, c, e, _, hK, hc0⟩ := Kd.C_get h x i (by omega) (by omega)
  have hxi : xs.getD (i : Int).toNat x = x := by simp [List.getD_eq_getElem?_getD, hx]
  rw [hxi] at hK
  have hc : ∀ j u, c[j]? = some u → w.cell? (ad.add (i * 4 + j)) = some u := hc0
  obtain ⟨_, _, rfl, ⟨Al, cl, rfl, hle, hC⟩, ⟨_, _, rfl, rfl, ⟨_, _, rfl, rfl, rfl⟩⟩⟩ := hK
  exact ⟨ad, Al, cl, e, hle, hC, hc 0 _ rfl, by rw [← add_field _ _ 1 (by omega)]; exact hc 1 _ rfl, by rw [← add_field _ _ 2 (by omega)]; exact hc 2 _ rfl, by rw [← add_field _ _ 3 (by omega)]; exact hc 3 _ rfl⟩
theorem any_take_succ {α : Type} (zs : List α) (p : α → Bool) (i : Nat) (x : α) (hx : zs[i]? = some x) : (zs.take (i + 1)).any p = ((zs.take i).any p || p x) := by
  rw [take_snoc zs i x hx, List.any_append]; simp
theorem any_of_at {α : Type} (zs : List α) (p : α → Bool) (i : Nat) (x : α) (hx : zs[i]? = some x) (h : p x = true) : zs.any p = true := by
  obtain ⟨hi, he⟩ := List.getElem?_eq_some_iff.1 hx
  exact List.any_eq_true.2 ⟨x, by rw [← he]; exact List.getElem_mem hi, h⟩
set_option maxHeartbeats 1000000 in
set_option maxRecDepth 100000 in
theorem str_idx (zs : List ByteArray) (p : ByteArray → Bool) (w : World) (A : Option Addr) (c : Nat) (HC : Kd.C Kd.string w A zs.length zs) (hl : zs.length ≤ 1000000)
    (hcall : ∀ (i : Nat) (x : ByteArray) (w' : World), zs[i]? = some x → Below w.heap.size w w' → Calls Tryz.prog 100 #[.string x] w' fun e w'' => e = .returned (.bool (p x)) ∧ Below w'.heap.size w' w'') :
    Calls Tryz.prog 145 #[.slice A zs.length c, .func (.func 100) #[] #[]] w fun e w' => (∃ r : Int, e = .returned (.int .i64 r) ∧ decide (r ≥ 0) = zs.any p) ∧ Below w.heap.size w w' := by
  have HCA := Aside0.mk HC
  obtain ⟨n, hn⟩ : ∃ n, n = zs.length := ⟨_, rfl⟩
  rw [← hn] at hl ⊢
  have HN := Aside0.mk hn
  have HCALL := Aside0.mk hcall
  clear HC hn hcall
  go_enter Tryz.func145, Tryz.ntmps145
  go_wp2
  go_loopg [8] n (fun kq v8 w' => ∃ (i : Nat), v8 = .int .i64 i ∧ Aside0 (kq + i = n) ∧ Aside0 ((zs.take i).any p = false) ∧ Aside0 (Below w.heap.size w w'))
  case atStart => exact ⟨0, rfl, ⟨rfl⟩, ⟨rfl⟩, ⟨Below.refl _ _⟩⟩
  case round =>
    obtain ⟨i, rfl, hki, hno, hB⟩ := hrel
    have hki' := hki.out
    cases gk with
    | zero =>
      have hlt : decide ((i : Int) < (n : Int)) = false := decide_eq_false (by omega)
      go_wp2
      go_ret
      refine ⟨⟨_, rfl, ?_⟩, hB.out⟩
      have := hno.out
      rw [List.take_of_length_le (by rw [← HN.out]; omega)] at this
      rw [this]; rfl
    | succ g1 =>
      have hlt : decide ((i : Int) < (n : Int)) = true := decide_eq_true (by omega)
      have hii : (0 : Int) ≤ (i : Int) := by omega
      obtain ⟨x, hx⟩ : ∃ x, zs[i]? = some x := ⟨_, List.getElem?_eq_getElem (by rw [← HN.out]; omega)⟩
      obtain ⟨ad, hA, hx0⟩ := str_at HCA.out i (by rw [← HN.out]; omega) x hx
      obtain rfl := hA
      replace hx0 := (hB.out.cell (World.block_lt_of_cell? w _ hx0)).trans hx0
      rw [Nat.mul_one] at hx0
      have HX := Aside0.mk hx
      clear hx
      obtain ⟨b, hb⟩ : ∃ b, b = p x := ⟨_, rfl⟩
      have hC := HCALL.out i x wr HX.out hB.out
      rw [← hb] at hC
      have HBP := Aside0.mk hb
      clear hb
      cases b with
      | false =>
        go_wp2_with (go_at_call 100; go_loud (refine hC.mono ?_; rintro e w9 ⟨rfl, hb9⟩; have HB9 := Aside0.mk (below_step hB.out hb9); clear hb9))
        go_roundg g1
        case measure => omega
        case rel => exact ⟨i + 1, by (try simp), ⟨by omega⟩, ⟨by rw [any_take_succ zs p i _ HX.out, hno.out, ← HBP.out]; rfl⟩, HB9⟩
      | true =>
        go_wp2_with (go_at_call 100; go_loud (refine hC.mono ?_; rintro e w9 ⟨rfl, hb9⟩; have HB9 := Aside0.mk (below_step hB.out hb9); clear hb9))
        go_ret
        exact ⟨⟨_, rfl, by rw [any_of_at zs p i _ HX.out HBP.out.symm]; simp⟩, HB9.out⟩
set_option maxHeartbeats 1000000 in
set_option maxRecDepth 100000 in
theorem str_any (zs : List ByteArray) (p : ByteArray → Bool) (w : World) (A : Option Addr) (c : Nat) (HC : Kd.C Kd.string w A zs.length zs) (hl : zs.length ≤ 1000000)
    (hcall : ∀ (i : Nat) (x : ByteArray) (w' : World), zs[i]? = some x → Below w.heap.size w w' → Calls Tryz.prog 100 #[.string x] w' fun e w'' => e = .returned (.bool (p x)) ∧ Below w'.heap.size w' w'') :
    Calls Tryz.prog 98 #[.slice A zs.length c, .func (.func 100) #[] #[]] w fun e w' => e = .returned (.bool (zs.any p)) ∧ Below w.heap.size w w' := by
  have HI := str_idx zs p w A c HC hl hcall
  obtain ⟨n, hn⟩ : ∃ n, n = zs.length := ⟨_, rfl⟩
  rw [← hn] at HI ⊢
  clear HC hn hcall hl
  go_enter Tryz.func98, Tryz.ntmps98
  go_wp2_with (go_at_call 145; go_loud (refine HI.mono ?_; rintro e w9 ⟨⟨r, rfl, hr⟩, hb9⟩; have HB9 := Aside0.mk hb9; have HR := Aside0.mk hr; clear hb9 hr))
  go_ret
  exact ⟨by rw [← HR.out]; first | rfl | simp, HB9.out⟩
set_option maxHeartbeats 1000000 in
set_option maxRecDepth 100000 in
theorem fl_idx (zs : List Fl) (p : Fl → Bool) (w : World) (A : Option Addr) (c : Nat) (HC : Kd.C kFl w A zs.length zs) (hl : zs.length ≤ 1000000)
    (hcall : ∀ (i : Nat) (x : Fl) (w' : World), zs[i]? = some x → Below w.heap.size w w' → Calls Tryz.prog 58 #[.agg #[.string x.1, .string x.2]] w' fun e w'' => e = .returned (.bool (p x)) ∧ Below w'.heap.size w' w'') :
    Calls Tryz.prog 97 #[.slice A zs.length c, .func (.func 58) #[] #[]] w fun e w' => (∃ r : Int, e = .returned (.int .i64 r) ∧ decide (r ≥ 0) = zs.any p) ∧ Below w.heap.size w w' := by
  have HCA := Aside0.mk HC
  obtain ⟨n, hn⟩ : ∃ n, n = zs.length := ⟨_, rfl⟩
  rw [← hn] at hl ⊢
  have HN := Aside0.mk hn
  have HCALL := Aside0.mk hcall
  clear HC hn hcall
  go_enter Tryz.func97, Tryz.ntmps97
  go_wp2
  go_loopg [8] n (fun kq v8 w' => ∃ (i : Nat), v8 = .int .i64 i ∧ Aside0 (kq + i = n) ∧ Aside0 ((zs.take i).any p = false) ∧ Aside0 (Below w.heap.size w w'))
  case atStart => exact ⟨0, rfl, ⟨rfl⟩, ⟨rfl⟩, ⟨Below.refl _ _⟩⟩
  case round =>
    obtain ⟨i, rfl, hki, hno, hB⟩ := hrel
    have hki' := hki.out
    cases gk with
    | zero =>
      have hlt : decide ((i : Int) < (n : Int)) = false := decide_eq_false (by omega)
      go_wp2
      go_ret
      refine ⟨⟨_, rfl, ?_⟩, hB.out⟩
      have := hno.out
      rw [List.take_of_length_le (by rw [← HN.out]; omega)] at this
      rw [this]; rfl
    | succ g1 =>
      have hlt : decide ((i : Int) < (n : Int)) = true := decide_eq_true (by omega)
      have hii : (0 : Int) ≤ (i : Int) := by omega
      obtain ⟨x, hx⟩ : ∃ x, zs[i]? = some x := ⟨_, List.getElem?_eq_getElem (by rw [← HN.out]; omega)⟩
      obtain ⟨ad, hA, hx0, hx1⟩ := fl_at HCA.out i (by rw [← HN.out]; omega) x hx
      obtain rfl := hA
      replace hx0 := (hB.out.cell (World.block_lt_of_cell? w _ hx0)).trans hx0
      replace hx1 := (hB.out.cell (World.block_lt_of_cell? w _ hx1)).trans hx1
      have HX := Aside0.mk hx
      clear hx
      obtain ⟨b, hb⟩ : ∃ b, b = p x := ⟨_, rfl⟩
      have hC := HCALL.out i x wr HX.out hB.out
      rw [← hb] at hC
      have HBP := Aside0.mk hb
      clear hb
      obtain ⟨x1, x2⟩ := x
      simp only at hx0 hx1 hC
      cases b with
      | false =>
        go_wp2_with (go_at_call 58; go_loud (refine hC.mono ?_; rintro e w9 ⟨rfl, hb9⟩; have HB9 := Aside0.mk (below_step hB.out hb9); clear hb9))
        go_roundg g1
        case measure => omega
        case rel => exact ⟨i + 1, by (try simp), ⟨by omega⟩, ⟨by rw [any_take_succ zs p i _ HX.out, hno.out, ← HBP.out]; rfl⟩, HB9⟩
      | true =>
        go_wp2_with (go_at_call 58; go_loud (refine hC.mono ?_; rintro e w9 ⟨rfl, hb9⟩; have HB9 := Aside0.mk (below_step hB.out hb9); clear hb9))
        go_ret
        exact ⟨⟨_, rfl, by rw [any_of_at zs p i _ HX.out HBP.out.symm]; simp⟩, HB9.out⟩
set_option maxHeartbeats 1000000 in
set_option maxRecDepth 100000 in
theorem fl_any (zs : List Fl) (p : Fl → Bool) (w : World) (A : Option Addr) (c : Nat) (HC : Kd.C kFl w A zs.length zs) (hl : zs.length ≤ 1000000)
    (hcall : ∀ (i : Nat) (x : Fl) (w' : World), zs[i]? = some x → Below w.heap.size w w' → Calls Tryz.prog 58 #[.agg #[.string x.1, .string x.2]] w' fun e w'' => e = .returned (.bool (p x)) ∧ Below w'.heap.size w' w'') :
    Calls Tryz.prog 57 #[.slice A zs.length c, .func (.func 58) #[] #[]] w fun e w' => e = .returned (.bool (zs.any p)) ∧ Below w.heap.size w w' := by
  have HI := fl_idx zs p w A c HC hl hcall
  obtain ⟨n, hn⟩ : ∃ n, n = zs.length := ⟨_, rfl⟩
  rw [← hn] at HI ⊢
  clear HC hn hcall hl
  go_enter Tryz.func57, Tryz.ntmps57
  go_wp2_with (go_at_call 97; go_loud (refine HI.mono ?_; rintro e w9 ⟨⟨r, rfl, hr⟩, hb9⟩; have HB9 := Aside0.mk hb9; have HR := Aside0.mk hr; clear hb9 hr))
  go_ret
  exact ⟨by rw [← HR.out]; first | rfl | simp, HB9.out⟩
set_option maxHeartbeats 1000000 in
set_option maxRecDepth 100000 in
theorem gr_idx (cp : Value) (zs : List Gr) (p : Gr → Bool) (w : World) (A : Option Addr) (c : Nat) (HC : Kd.C kGr w A zs.length zs) (hl : zs.length ≤ 1000000)
    (hcall : ∀ (i : Nat) (x : Gr) (w' : World) (Al : Option Addr) (cl : Nat), zs[i]? = some x → Below w.heap.size w w' → x.1.length ≤ cl → Kd.C (Kd.int .i64) w Al x.1.length x.1 → Calls Tryz.prog 75 #[.agg #[.slice Al x.1.length cl, .int .i64 x.2.1, .int .i64 x.2.2.1, .int .i64 x.2.2.2], cp] w' fun e w'' => e = .returned (.bool (p x)) ∧ Below w'.heap.size w' w'') :
    Calls Tryz.prog 133 #[.slice A zs.length c, .func (.func 75) #[] #[cp]] w fun e w' => (∃ r : Int, e = .returned (.int .i64 r) ∧ decide (r ≥ 0) = zs.any p) ∧ Below w.heap.size w w' := by
  have HCA := Aside0.mk HC
  obtain ⟨n, hn⟩ : ∃ n, n = zs.length := ⟨_, rfl⟩
  rw [← hn] at hl ⊢
  have HN := Aside0.mk hn
  have HCALL := Aside0.mk hcall
  clear HC hn hcall
  go_enter Tryz.func133, Tryz.ntmps133
  go_wp2
  go_loopg [8] n (fun kq v8 w' => ∃ (i : Nat), v8 = .int .i64 i ∧ Aside0 (kq + i = n) ∧ Aside0 ((zs.take i).any p = false) ∧ Aside0 (Below w.heap.size w w'))
  case atStart => exact ⟨0, rfl, ⟨rfl⟩, ⟨rfl⟩, ⟨Below.refl _ _⟩⟩
  case round =>
    obtain ⟨i, rfl, hki, hno, hB⟩ := hrel
    have hki' := hki.out
    cases gk with
    | zero =>
      have hlt : decide ((i : Int) < (n : Int)) = false := decide_eq_false (by omega)
      go_wp2
      go_ret
      refine ⟨⟨_, rfl, ?_⟩, hB.out⟩
      have := hno.out
      rw [List.take_of_length_le (by rw [← HN.out]; omega)] at this
      rw [this]; rfl
    | succ g1 =>
      have hlt : decide ((i : Int) < (n : Int)) = true := decide_eq_true (by omega)
      have hii : (0 : Int) ≤ (i : Int) := by omega
      obtain ⟨x, hx⟩ : ∃ x, zs[i]? = some x := ⟨_, List.getElem?_eq_getElem (by rw [← HN.out]; omega)⟩
      obtain ⟨ad, Al, cl, hA, hle, hCl, hx0, hx1, hx2, hx3⟩ := gr_at HCA.out i (by rw [← HN.out]; omega) x hx
      obtain rfl := hA
      replace hx0 := (hB.out.cell (World.block_lt_of_cell? w _ hx0)).trans hx0
      replace hx1 := (hB.out.cell (World.block_lt_of_cell? w _ hx1)).trans hx1
      replace hx2 := (hB.out.cell (World.block_lt_of_cell? w _ hx2)).trans hx2
      replace hx3 := (hB.out.cell (World.block_lt_of_cell? w _ hx3)).trans hx3
      have HX := Aside0.mk hx
      clear hx
      obtain ⟨b, hb⟩ : ∃ b, b = p x := ⟨_, rfl⟩
      have hC := HCALL.out i x wr Al cl HX.out hB.out hle hCl
      rw [← hb] at hC
      have HBP := Aside0.mk hb
      clear hb
      obtain ⟨x1, x2, x3, x4⟩ := x
      simp only at hx0 hx1 hx2 hx3 hC
      obtain ⟨ln, hln⟩ : ∃ ln, ln = x1.length := ⟨_, rfl⟩
      rw [← hln] at hx0 hC
      clear hln hle hCl
      cases b with
      | false =>
        go_wp2_with (go_at_call 75; go_loud (refine hC.mono ?_; rintro e w9 ⟨rfl, hb9⟩; have HB9 := Aside0.mk (below_step hB.out hb9); clear hb9))
        go_roundg g1
        case measure => omega
        case rel => exact ⟨i + 1, by (try simp), ⟨by omega⟩, ⟨by rw [any_take_succ zs p i _ HX.out, hno.out, ← HBP.out]; rfl⟩, HB9⟩
      | true =>
        go_wp2_with (go_at_call 75; go_loud (refine hC.mono ?_; rintro e w9 ⟨rfl, hb9⟩; have HB9 := Aside0.mk (below_step hB.out hb9); clear hb9))
        go_ret
        exact ⟨⟨_, rfl, by rw [any_of_at zs p i _ HX.out HBP.out.symm]; simp⟩, HB9.out⟩
set_option maxHeartbeats 1000000 in
set_option maxRecDepth 100000 in
theorem gr_any (cp : Value) (zs : List Gr) (p : Gr → Bool) (w : World) (A : Option Addr) (c : Nat) (HC : Kd.C kGr w A zs.length zs) (hl : zs.length ≤ 1000000)
    (hcall : ∀ (i : Nat) (x : Gr) (w' : World) (Al : Option Addr) (cl : Nat), zs[i]? = some x → Below w.heap.size w w' → x.1.length ≤ cl → Kd.C (Kd.int .i64) w Al x.1.length x.1 → Calls Tryz.prog 75 #[.agg #[.slice Al x.1.length cl, .int .i64 x.2.1, .int .i64 x.2.2.1, .int .i64 x.2.2.2], cp] w' fun e w'' => e = .returned (.bool (p x)) ∧ Below w'.heap.size w' w'') :
    Calls Tryz.prog 74 #[.slice A zs.length c, .func (.func 75) #[] #[cp]] w fun e w' => e = .returned (.bool (zs.any p)) ∧ Below w.heap.size w w' := by
  have HI := gr_idx cp zs p w A c HC hl hcall
  obtain ⟨n, hn⟩ : ∃ n, n = zs.length := ⟨_, rfl⟩
  rw [← hn] at HI ⊢
  clear HC hn hcall hl
  go_enter Tryz.func74, Tryz.ntmps74
  go_wp2_with (go_at_call 133; go_loud (refine HI.mono ?_; rintro e w9 ⟨⟨r, rfl, hr⟩, hb9⟩; have HB9 := Aside0.mk hb9; have HR := Aside0.mk hr; clear hb9 hr))
  go_ret
  exact ⟨by rw [← HR.out]; first | rfl | simp, HB9.out⟩
end Go.Proofs.YtolaiebjmhieiaaGreatDoor.OScan
end
section
namespace Go.Proofs.YtolaiebjmhieiaaGreatDoor.OScan
open Go.RowKit Go.Proofs.YtolaiebjmhieiaaGreatDoorW.PrintWords Go.Proofs.YtolaiebjmhieiaaGreatDoorW.PrintLast Go.Proofs.YtolaiebjmhieiaaGreatDoorW.PrintMore
set_option linter.unusedVariables false
set_option linter.unusedSimpArgs false
def dotB (x : ByteArray) : Bool := x.toList == ([] : List UInt8) || (x.toList == ([46] : List UInt8) || x.toList == ([46, 46] : List UInt8))
theorem dot_any (x : ByteArray) (w : World) : Calls Tryz.prog 100 #[.string x] w fun e w' => e = .returned (.bool (dotB x)) ∧ Below w.heap.size w w' := by
  unfold dotB
  by_cases h1 : x.toList = ([] : List UInt8)
  · have c1 : (x.toList == ([] : List UInt8)) = true := beq_iff_eq.mpr h1
    rw [c1]
    clear h1
    go_enter Tryz.func100, Tryz.ntmps100
    go_wp2
    go_ret
    exact ⟨rfl, Below.refl _ _⟩
  · have c1 : (x.toList == ([] : List UInt8)) = false := beq_eq_false_iff_ne.mpr h1
    rw [c1]
    clear h1
    by_cases h2 : x.toList = ([46] : List UInt8)
    · have c2 : (x.toList == ([46] : List UInt8)) = true := beq_iff_eq.mpr h2
      rw [c2]
      clear h2
      go_enter Tryz.func100, Tryz.ntmps100
      go_wp2
      go_ret
      exact ⟨rfl, Below.refl _ _⟩
    · have c2 : (x.toList == ([46] : List UInt8)) = false := beq_eq_false_iff_ne.mpr h2
      rw [c2]
      clear h2
      go_enter Tryz.func100, Tryz.ntmps100
      go_wp2
      go_ret
      exact ⟨by simp, Below.refl _ _⟩
def partsB (s : ByteArray) : List ByteArray := Lib.splitB ⟨#[47]⟩ 0 (Lib.countB s ⟨#[47]⟩) s
def isNameB (s : ByteArray) : Bool := !((partsB s).any dotB)
theorem parts_len (s : ByteArray) : (partsB s).length = Lib.countB s ⟨#[47]⟩ + 1 := Lib.splitB_all ⟨#[47]⟩ (by decide) 0 _ s rfl
theorem strs_C {w : World} {g : Nat} {zs : List ByteArray} {t : TypeId} (h : w.heap[g]? = some (.cells (zs.map Value.string).toArray t (0, 0))) (hl : zs.length ≤ 9223372036854775807) : Kd.C Kd.string w (some ⟨g, 0, none⟩) zs.length zs := by
  refine ⟨rfl, hl, fun hn => ⟨_, rfl, fun j p hj => ⟨[.string p], rfl, rfl, fun i u hu => ?_⟩⟩⟩
  cases i with
  | zero =>
    obtain rfl : Value.string p = u := by simpa using hu
    have h1 := cell_of_row w g j _ _ _ h
    have e : ((⟨g, 0, none⟩ : Addr).add (j * Kd.string.sz + 0)) = ⟨g, j, none⟩ := by
      show (⟨g, 0, none⟩ : Addr).add (j * 1 + 0) = _
      rw [Nat.mul_one, Nat.add_zero, add_plain]
    rw [e, h1]
    simp [hj]
  | succ i => simp at hu
set_option maxHeartbeats 1000000 in
set_option maxRecDepth 100000 in
theorem isName_any (s : ByteArray) (w : World) (hG : Glob2 w) (hs : s.size ≤ 900000) :
    Calls Tryz.prog 59 #[.string s] w fun e w' => e = .returned (.bool (isNameB s)) ∧ Below w.heap.size w w' := by
  obtain ⟨m, hm⟩ := hG.1.1
  have H99 := Tryz.strings_Split s ⟨#[47]⟩ m w (by omega) hm (by decide)
  have hpl : (partsB s).length ≤ 1000000 := by
    rw [parts_len]
    have := Lib.countB_le ⟨#[47]⟩ (by decide) s.size s (Nat.le_refl _)
    omega
  rw [← parts_len] at H99
  have hP : isNameB s = !((partsB s).any dotB) := rfl
  rw [hP]
  change Calls Tryz.prog 99 _ w (fun e w' => e = .returned (.slice (some ⟨w.heap.size, 0, none⟩) (partsB s).length (partsB s).length) ∧ w' = w.alloc (.cells ((partsB s).map Value.string).toArray 9)) at H99
  generalize partsB s = zs at *
  have H98 := str_any zs dotB (w.alloc (.cells (zs.map Value.string).toArray 9)) (some ⟨w.heap.size, 0, none⟩) zs.length (strs_C (blk_new _ _) (by omega)) hpl (fun i x w' _ _ => dot_any x w')
  obtain ⟨n, hn⟩ : ∃ n, n = zs.length := ⟨_, rfl⟩
  rw [← hn] at H99 H98
  obtain ⟨W1, hW1⟩ : ∃ W1, W1 = w.alloc (.cells (zs.map Value.string).toArray 9) := ⟨_, rfl⟩
  rw [← hW1] at H99 H98
  have HB1 : Aside0 (Below w.heap.size w W1) := ⟨by rw [hW1]; exact below_alloc (Below.refl _ _) _⟩
  clear hn hW1 hpl hP hm hG
  go_enter Tryz.func59, Tryz.ntmps59
  go_wp2_with (first | (go_at_call 99; go_loud (refine H99.mono ?_; rintro e w7 ⟨rfl, rfl⟩)) | (go_at_call 98; go_loud (refine H98.mono ?_; rintro e w9 ⟨rfl, hb9⟩; have HB9 := Aside0.mk (below_step HB1.out hb9); clear hb9)))
  go_ret
  exact ⟨rfl, HB9.out⟩
def inB (i : Int) (g : Gr) : Bool := decide (g.1.getD 1 0 < i) && decide (i < g.1.getD (g.1.length - 1) 0)
def seenB (gs : List Gr) (i : Int) : Bool := !(gs.any (inB i))
theorem ints_at {w : World} {A : Option Addr} {xs : List Int} (h : Kd.C (Kd.int .i64) w A xs.length xs) (i : Nat) (h1 : i < xs.length) : ∃ ad, A = some ad ∧ w.cell? (ad.add i) = some (.int .i64 (xs.getD i 0)) := by
  obtain ⟨ad, c, e, _, hK, hc0⟩ := Kd.C_get h 0 i (by omega) (by omega)
  have hc : ∀ j u, c[j]? = some u → w.cell? (ad.add (i * 1 + j)) = some u := hc0
  obtain rfl := hK
  refine ⟨ad, e, ?_⟩
  have := hc 0 _ rfl
  rwa [Nat.mul_one, Nat.add_zero] at this
set_option maxHeartbeats 1000000 in
set_option maxRecDepth 100000 in
theorem seen1_any (g : Gr) (i : Int) (CB : Nat) (w : World) (Al : Option Addr) (cl : Nat) (hle : g.1.length ≤ cl) (hC : Kd.C (Kd.int .i64) w Al g.1.length g.1) (h2 : 2 ≤ g.1.length) (hl : g.1.length ≤ 1000000) (hcell : w.cell? ⟨CB, 0, none⟩ = some (.int .i64 i)) :
    Calls Tryz.prog 75 #[.agg #[.slice Al g.1.length cl, .int .i64 g.2.1, .int .i64 g.2.2.1, .int .i64 g.2.2.2], .pointer (some ⟨CB, 0, none⟩)] w fun e w' => e = .returned (.bool (inB i g)) ∧ Below w.heap.size w w' := by
  obtain ⟨xs, g2, g3, g4⟩ := g
  obtain ⟨k, hk⟩ : ∃ k, xs.length = k + 1 := ⟨xs.length - 1, by simp only at h2; omega⟩
  simp only at hle hC h2 hl ⊢
  obtain ⟨ad, rfl, hx1⟩ := ints_at hC 1 (by omega)
  obtain ⟨ad', ha, hx2⟩ := ints_at hC k (by omega)
  obtain rfl : ad = ad' := by injection ha
  have hin : inB i (xs, g2, g3, g4) = (decide (xs.getD 1 0 < i) && decide (i < xs.getD k 0)) := by unfold inB; simp only [hk, Nat.add_sub_cancel]
  rw [hin]
  generalize xs.getD 1 0 = a1 at *
  generalize xs.getD k 0 = a2 at *
  rw [hk] at hle h2 hl ⊢
  rw [show ad.add 1 = ⟨ad.block, ad.off + 1, none⟩ by simp [Addr.add]] at hx1
  clear hC hin ha hk
  have hn0 : (0 : Int) < (k : Int) := by omega
  have hw1 : IntKind.i64.wrap (k : Int) = (k : Int) := IntWalk.i64_in _ (by omega)
  have hw2 : wrap64 (k : Int) = (k : Int) := wr (by omega) (by omega)
  have hn4 : (1 : Int) < (k : Int) + 1 := by omega
  have hn5 : (k : Int) < (k : Int) + 1 := by omega
  have hn1 : (1 : Int) < ((k + 1 : Nat) : Int) := by omega
  have hn2 : (0 : Int) ≤ (k : Int) := by omega
  have hn3 : (k : Int) < ((k + 1 : Nat) : Int) := by omega
  by_cases hg : a1 < i
  · have hd : decide (i > a1) = true := decide_eq_true hg
    have hd' : decide (a1 < i) = true := decide_eq_true hg
    go_enter Tryz.func75, Tryz.ntmps75
    go_wp2
    obtain ⟨W1, hW1⟩ : ∃ W1, W1 = w.alloc (Obj.cells #[Value.slice (some ad) (k + 1) cl, Value.int IntKind.i64 g2, Value.int IntKind.i64 g3, Value.int IntKind.i64 g4] 134) := ⟨_, rfl⟩
    rw [← hW1]
    have HB1 : Aside0 (Below w.heap.size w W1) := ⟨by rw [hW1]; exact below_alloc (Below.refl _ _) _⟩
    have hb0 : W1.cell? ⟨w.heap.size, 0, none⟩ = some (.slice (some ad) (k + 1) cl) := by have := cell_of_row W1 w.heap.size 0 _ _ _ (by rw [hW1]; exact blk_new _ _); simpa using this
    replace hcell := (HB1.out.cell (World.block_lt_of_cell? w _ hcell)).trans hcell
    replace hx1 := (HB1.out.cell (World.block_lt_of_cell? w _ hx1)).trans hx1
    replace hx2 := (HB1.out.cell (World.block_lt_of_cell? w _ hx2)).trans hx2
    clear hW1
    go_quiet (fail)
    go_wp2
    go_ret
    exact ⟨by rw [hd']; rfl, (by have := HB1.out; exact pw_below_drewN this _)⟩
  · have hd : decide (i > a1) = false := decide_eq_false hg
    have hd' : decide (a1 < i) = false := decide_eq_false hg
    go_enter Tryz.func75, Tryz.ntmps75
    go_wp2
    obtain ⟨W1, hW1⟩ : ∃ W1, W1 = w.alloc (Obj.cells #[Value.slice (some ad) (k + 1) cl, Value.int IntKind.i64 g2, Value.int IntKind.i64 g3, Value.int IntKind.i64 g4] 134) := ⟨_, rfl⟩
    rw [← hW1]
    have HB1 : Aside0 (Below w.heap.size w W1) := ⟨by rw [hW1]; exact below_alloc (Below.refl _ _) _⟩
    have hb0 : W1.cell? ⟨w.heap.size, 0, none⟩ = some (.slice (some ad) (k + 1) cl) := by have := cell_of_row W1 w.heap.size 0 _ _ _ (by rw [hW1]; exact blk_new _ _); simpa using this
    replace hcell := (HB1.out.cell (World.block_lt_of_cell? w _ hcell)).trans hcell
    replace hx1 := (HB1.out.cell (World.block_lt_of_cell? w _ hx1)).trans hx1
    replace hx2 := (HB1.out.cell (World.block_lt_of_cell? w _ hx2)).trans hx2
    clear hW1
    go_quiet (fail)
    go_wp2
    go_ret
    exact ⟨by rw [hd']; rfl, (by have := HB1.out; exact pw_below_drewN this _)⟩
set_option maxHeartbeats 1000000 in
set_option maxRecDepth 100000 in
theorem seen_any (gs : List Gr) (i : Int) (w : World) (A : Option Addr) (c : Nat) (HC : Kd.C kGr w A gs.length gs) (hl : gs.length ≤ 1000000) (h2 : ∀ g ∈ gs, 2 ≤ g.1.length ∧ g.1.length ≤ 1000000) :
    Calls Tryz.prog 43 #[.slice A gs.length c, .int .i64 i] w fun e w' => e = .returned (.bool (seenB gs i)) ∧ Below w.heap.size w w' := by
  obtain ⟨W1, hW1⟩ : ∃ W1, W1 = w.alloc (.cells #[Value.int .i64 i] 3) := ⟨_, rfl⟩
  have HB1 : Below w.heap.size w W1 := by rw [hW1]; exact below_alloc (Below.refl _ _) _
  have hc1 : W1.cell? ⟨w.heap.size, 0, none⟩ = some (.int .i64 i) := by have := cell_of_row W1 w.heap.size 0 _ _ _ (by rw [hW1]; exact blk_new _ _); simpa using this
  have H74 := gr_any (.pointer (some ⟨w.heap.size, 0, none⟩)) gs (inB i) W1 A c (Kd.C_below HC HB1) hl (fun j x w' Al cl hx hb hle hC => seen1_any x i w.heap.size w' Al cl hle (Kd.C_below hC hb) (h2 x (List.mem_of_getElem? hx)).1 (h2 x (List.mem_of_getElem? hx)).2 ((hb.cell (World.block_lt_of_cell? W1 _ hc1)).trans hc1))
  obtain ⟨n, hn⟩ : ∃ n, n = gs.length := ⟨_, rfl⟩
  rw [← hn] at H74 ⊢
  have hS : seenB gs i = !(gs.any (inB i)) := rfl
  rw [hS]
  have HBB := Aside0.mk HB1
  have HW := Aside0.mk hW1
  clear hn HB1 hc1 hS HC hl h2 hW1
  rw [HW.out] at H74 HBB
  clear HW
  go_enter Tryz.func43, Tryz.ntmps43
  go_wp2_with (go_at_call 74; go_loud (refine H74.mono ?_; rintro e w9 ⟨rfl, hb9⟩; have HB9 := Aside0.mk (below_step HBB.out hb9); clear hb9))
  go_ret
  exact ⟨rfl, HB9.out⟩
end Go.Proofs.YtolaiebjmhieiaaGreatDoor.OScan
end
