/- HeadOnce: for every list of files, every name and every list of places the law answers true, and all read behind the call as before; the listed tables are tied to the text of the program; no condition. Here: parts of its proof. -/
import Derived.Test.YtolaiebjmhieiaaGreatDoorM13
import Derived.Test.YtolaiebjmhieiaaGreatDoorM03
import Derived.BigRegion
import Derived.Deep.RegionLaw
namespace Go.Proofs.YtolaiebjmhieiaaGreatDoor.OScan
open Go.RowKit Go.Proofs.YtolaiebjmhieiaaGreatDoorW.PrintWords Go.Proofs.YtolaiebjmhieiaaGreatDoorW.PrintLast Go.Proofs.YtolaiebjmhieiaaGreatDoorW.PrintMore
set_option linter.unusedVariables false
set_option linter.unusedSimpArgs false
abbrev Gr := List Int × Int × Int × Int
abbrev Ope := Nat × Int × Bool
abbrev kGr : Kd Gr := Kd.pair (Kd.slice 3 (Kd.int .i64)) (Kd.pair (Kd.int .i64) (Kd.pair (Kd.int .i64) (Kd.int .i64)))
def Chain (w : World) (base : Nat) : Nat → Value → List Ope → Prop
  | _, p, [] => p = .pointer none
  | N, p, x :: st => ∃ g q, p = .pointer (some ⟨g, 0, none⟩) ∧ base ≤ g ∧ g < N ∧ w.heap[g]? = some (.cells #[.int .i64 x.1, .int .i64 x.2.1, .bool x.2.2, q] 136 (0, 0)) ∧ Chain w base g q st
theorem Chain.step {w w1 : World} {base : Nat} : ∀ {st : List Ope} {N N' : Nat} {p : Value}, Chain w base N p st → N ≤ N' → (∀ k, base ≤ k → k < N → (∃ c, w.heap[k]? = some (.cells c 136 (0, 0))) → w1.heap[k]? = w.heap[k]?) → Chain w1 base N' p st
  | [], _, _, _, h, _, _ => h
  | x :: st, N, N', p, ⟨g, q, e, h1, h2, h3, h4⟩, hN, hk => ⟨g, q, e, h1, by omega, (hk g h1 h2 ⟨_, h3⟩).trans h3, h4.step (Nat.le_refl _) (fun k a b c => hk k a (by omega) c)⟩
structure FS (base F : Nat) (w : World) (v p : Value) (gs : List Gr) (st : List Ope) : Prop where
  hF : base ≤ F
  hc : w.heap[F]? = some (.cells #[v, p] 131 (0, 0))
  hgs : Kd.S kGr 134 w base (fun _ => True) v gs
  hst : Chain w base w.heap.size p st
  wf : ∀ x ∈ st, x.1 < gs.length
def beginF (at_ : Int) (gs : List Gr) (st : List Ope) : List Gr × List Ope :=
  (gs ++ [([at_], 0, (match st with | [] => -1 | x :: _ => (x.1 : Int)), (match st with | [] => 0 | x :: _ => x.2.1))], (gs.length, 0, false) :: st)
theorem line_own {w : World} {base L : Nat} {a : Int} (h : w.heap[L]? = some (.cells #[Value.int IntKind.i64 a] 3 (0, 0))) (hb : base ≤ L) :
    Kd.R (Kd.int .i64) 3 w base (fun k => k = L) (.slice (some ⟨L, 0, none⟩) 1 1) [a] := by
  exact Kd.R_of_own (enc := Value.int .i64) (h1 := fun _ => rfl) ⟨rfl, .inr ⟨L, 1, #[Value.int IntKind.i64 a], rfl, hb, h, Nat.le_refl _, by decide, rfl, rfl⟩⟩ (fun k hk => by simpa [Value.ownBlock] using hk.symm)
theorem begin_end {base F O : Nat} {w W3 w6 : World} {v p v1 : Value} {gs : List Gr} {st : List Ope} {x : Gr} (HF : FS base F w v p gs st)
    (hF3 : W3.heap[F]? = some (.cells #[v, .pointer (some ⟨O, 0, none⟩)] 131 (0, 0))) (hO3 : W3.heap[O]? = some (.cells #[.int .i64 gs.length, .int .i64 0, .bool false, p] 136 (0, 0)))
    (hO : w.heap.size ≤ O) (hk3 : ∀ k, k < w.heap.size → k ≠ F → W3.heap[k]? = w.heap[k]?) (hs3 : w.heap.size ≤ W3.heap.size)
    (ho : Kd.S kGr 134 w6 base (fun _ => True) v1 (gs ++ [x])) (hg : World.grownBy W3.drew w6 v.ownBlock) :
    FS base F (w6.setCell ⟨F, 0, none⟩ v1) v1 (.pointer (some ⟨O, 0, none⟩)) (gs ++ [x]) ((gs.length, 0, false) :: st) := by
  have hFF := HF.hc
  have hFl := blk_lt hFF
  have hnF : some F ≠ v.ownBlock := Kd.S_ne HF.hgs hFF (by decide)
  have hF6 : w6.heap[F]? = some (.cells #[v, .pointer (some ⟨O, 0, none⟩)] 131 (0, 0)) := (hg.block F (blk_lt hF3) hnF).trans hF3
  have hlt : ∀ k, v.ownBlock = some k → k < w.heap.size := Kd.S_lt HF.hgs
  have hty : ∀ k, v.ownBlock = some k → ∃ cells, w.heap[k]? = some (.cells cells 134 (0, 0)) := Kd.S_typed HF.hgs
  have hO6 : w6.heap[O]? = some (.cells #[.int .i64 gs.length, .int .i64 0, .bool false, p] 136 (0, 0)) := (hg.block O (blk_lt hO3) (fun e => by have := hlt O e.symm; omega)).trans hO3
  refine ⟨HF.hF, blk_put hF6 0 _ rfl, Kd.S_set ho hF6 (by decide) 0 _, ⟨O, p, rfl, by have := HF.hF; omega, by have := blk_lt hO6; simpa using this, blk_far hO6 (by show O ≠ F; omega) _, ?_⟩, ?_⟩
  · refine HF.hst.step hO (fun k h1 h2 h3 => ?_)
    obtain ⟨c, h3⟩ := h3
    have hkF : k ≠ F := by
      rintro rfl
      rw [hFF] at h3
      injection h3 with h3
      injection h3 with _ h3
      exact absurd h3 (by decide)
    have hkv : some k ≠ v.ownBlock := fun e => by
      obtain ⟨c', h4⟩ := hty k e.symm
      rw [h4] at h3
      injection h3 with h3
      injection h3 with _ h3
      exact absurd h3 (by decide)
    exact (Below.heap_setCell w6 ⟨F, 0, none⟩ _ k hkF).trans ((hg.block k (show k < W3.heap.size by omega) hkv).trans (hk3 k h2 hkF))
  · intro y hy
    rw [List.length_append, List.length_singleton]
    rcases List.mem_cons.1 hy with rfl | hy
    · show gs.length < _; omega
    · have := HF.wf y hy; omega
set_option maxHeartbeats 1000000 in
set_option maxRecDepth 100000 in
theorem begin_nil (at_ : Int) (base F : Nat) (w0 w : World) (v : Value) (gs : List Gr) (HF : FS base F w v (.pointer none) gs []) (HB : Below base w0 w) (hl : gs.length ≤ 1000000) :
    Calls Tryz.prog 125 #[.pointer (some ⟨F, 0, none⟩), .int .i64 at_] w fun e w' => e = .returned (.tuple #[]) ∧ ∃ v' p', FS base F w' v' p' (beginF at_ gs []).1 (beginF at_ gs []).2 ∧ Below base w0 w' := by
  have hFF := HF.hc
  have hFl := blk_lt hFF
  have hg0 : w.cell? ⟨F, 0, none⟩ = some v := by have := cell_of_row w F 0 _ _ _ hFF; simpa using this
  have hg1 : w.cell? ⟨F, 1, none⟩ = some (.pointer none) := by have := cell_of_row w F 1 _ _ _ hFF; simpa using this
  obtain ⟨A0, c0, rfl⟩ := Kd.S_slice HF.hgs
  go_enter Tryz.func125, Tryz.ntmps125
  go_wp2
  obtain ⟨W1, hW1⟩ : ∃ W1, W1 = ((w.alloc (Obj.cells #[Value.int IntKind.i64 at_] 3)).alloc (Obj.cells #[Value.slice (some { block := w.heap.size, off := 0 }) 1 1, Value.int IntKind.i64 0, Value.int IntKind.i64 (-1), Value.int IntKind.i64 0] 134)) := ⟨_, rfl⟩
  rw [← hW1]
  have hB1 : Below w.heap.size w W1 := by rw [hW1]; exact below_alloc (below_alloc (Below.refl _ _) _) _
  have hs1 : W1.heap.size = w.heap.size + 2 := by rw [hW1, alloc_size, alloc_size]
  obtain ⟨G, hG⟩ : ∃ G, G = w.heap.size + 1 := ⟨_, rfl⟩
  rw [← hG]
  have hGc : W1.heap[G]? = some (.cells #[Value.slice (some { block := w.heap.size, off := 0 }) 1 1, Value.int IntKind.i64 0, Value.int IntKind.i64 (-1), Value.int IntKind.i64 0] 134 (0, 0)) := by
    rw [hW1, hG, ← alloc_size w (Obj.cells #[Value.int IntKind.i64 at_] 3)]
    exact blk_new _ _
  have hLc : W1.heap[w.heap.size]? = some (.cells #[Value.int IntKind.i64 at_] 3 (0, 0)) := by
    rw [hW1, Below.heap_alloc _ _ _ (by rw [alloc_size]; omega)]
    exact blk_new _ _
  clear hW1
  have HG_ := Aside0.mk hG
  have HS1 := Aside0.mk hs1
  clear hG
  have k0 : W1.cell? ⟨F, 0, none⟩ = some (.slice A0 gs.length c0) := (hB1.cell hFl).trans hg0
  have k1 : W1.cell? ⟨F, 1, none⟩ = some (.pointer none) := (hB1.cell hFl).trans hg1
  have o1 : (W1.alloc (Obj.cells #[Value.int IntKind.i64 (gs.length : Int), Value.int IntKind.i64 0, Value.bool false, Value.pointer none] 136)).heap[F]? = some (.cells #[.slice A0 gs.length c0, .pointer none] 131 (0, 0)) := blk_alloc ((hB1.block F hFl).trans hFF) _
  have q1 : (W1.alloc (Obj.cells #[Value.int IntKind.i64 (gs.length : Int), Value.int IntKind.i64 0, Value.bool false, Value.pointer none] 136)).cell? ⟨F, 1, none⟩ = some (.pointer none) := by have := cell_of_row _ F 1 _ _ _ o1; simpa using this
  have q2 := blk_frozen o1 1
  go_region
  obtain ⟨W2, hW2⟩ : ∃ W2, W2 = W1.alloc (Obj.cells #[Value.int IntKind.i64 (gs.length : Int), Value.int IntKind.i64 0, Value.bool false, Value.pointer none] 136) := ⟨_, rfl⟩
  rw [← hW2]
  have hO2 : W2.heap[w.heap.size + 2]? = some (.cells #[Value.int IntKind.i64 (gs.length : Int), Value.int IntKind.i64 0, Value.bool false, Value.pointer none] 136 (0, 0)) := by rw [hW2, ← hs1]; exact blk_new _ _
  obtain ⟨O, hO⟩ : ∃ O, O = w.heap.size + 2 := ⟨_, rfl⟩
  rw [← hO] at hO2 ⊢
  have HO_ := Aside0.mk hO
  clear hO
  have hF2 : W2.heap[F]? = some (.cells #[.slice A0 gs.length c0, .pointer none] 131 (0, 0)) := by rw [hW2]; exact o1
  have hG2 := blk_alloc hGc (Obj.cells #[Value.int IntKind.i64 (gs.length : Int), Value.int IntKind.i64 0, Value.bool false, Value.pointer none] 136)
  have hL2 := blk_alloc hLc (Obj.cells #[Value.int IntKind.i64 (gs.length : Int), Value.int IntKind.i64 0, Value.bool false, Value.pointer none] 136)
  rw [← hW2] at hG2 hL2
  have hB2 : Below w.heap.size w W2 := by rw [hW2]; exact below_alloc hB1 _
  have hs2 : W2.heap.size = w.heap.size + 3 := by rw [hW2, alloc_size, hs1]
  have hS2 : Kd.S kGr 134 W2 base (fun k => True ∧ ¬ k = w.heap.size) (.slice A0 gs.length c0) gs := Kd.S_below (Kd.S_mono (Kd.S_bound HF.hgs) (fun k hk => ⟨trivial, by have := hk.2.2.1; omega⟩)) hB2
  clear o1 q1 q2 hW2 k0 k1
  obtain ⟨W3, hW3⟩ : ∃ W3, W3 = (W2.setCell ⟨F, 1, none⟩ (.pointer (some ⟨O, 0, none⟩))).drew := ⟨_, rfl⟩
  rw [← hW3]
  have hF3 : W3.heap[F]? = some (.cells #[.slice A0 gs.length c0, .pointer (some ⟨O, 0, none⟩)] 131 (0, 0)) := by rw [hW3]; exact blk_drew (blk_put hF2 1 _ rfl)
  have hO3 : W3.heap[O]? = some (.cells #[Value.int IntKind.i64 (gs.length : Int), Value.int IntKind.i64 0, Value.bool false, Value.pointer none] 136 (0, 0)) := by rw [hW3]; exact blk_drew (blk_far hO2 (by show O ≠ F; have := HO_.out; omega) _)
  have hG3 := blk_drew (blk_far (p := ⟨F, 1, none⟩) hG2 (by show G ≠ F; have := HG_.out; omega) (.pointer (some ⟨O, 0, none⟩)))
  have hL3 := blk_drew (blk_far (p := ⟨F, 1, none⟩) hL2 (by show w.heap.size ≠ F; omega) (.pointer (some ⟨O, 0, none⟩)))
  rw [← hW3] at hG3 hL3
  have hS3 : Kd.S kGr 134 W3 base (fun k => True ∧ ¬ k = w.heap.size) (.slice A0 gs.length c0) gs := by
    rw [hW3]; exact Kd.S_drew (Kd.S_set hS2 hF2 (by decide) 1 _)
  have hs3 : W3.heap.size = w.heap.size + 3 := by rw [hW3]; show (W2.setCell _ _).heap.size = _; simp; exact hs2
  have hB3 : Below base w0 W3 := by rw [hW3]; exact below_drew ((HB.trans ⟨hB2.os, hB2.tape, hB2.output, hB2.size, fun k hk => hB2.block k (by have := HF.hF; omega)⟩).setCell HF.hF _)
  have hk3 : ∀ k, k < w.heap.size → k ≠ F → W3.heap[k]? = w.heap[k]? := fun k hk hn => by rw [hW3]; exact (Below.heap_setCell W2 ⟨F, 1, none⟩ _ k hn).trans (hB2.block k hk)
  have HS3 := Aside0.mk hs3
  have HS_3 := Aside0.mk hS3
  have HK3 := Aside0.mk hk3
  have HB3 := Aside0.mk hB3
  clear hW3 hs3 hs1 HS1 hS3 hk3 hB3 hS2 hL2 hG2 hO2 hF2 hB2 hs2
  have g0 : W3.drew.cell? ⟨F, 0, none⟩ = some (.slice A0 gs.length c0) := by have := cell_of_row _ F 0 _ _ _ (blk_drew hF3); simpa using this
  have g2 : W3.drew.cell? ⟨G, 0, none⟩ = some (Value.slice (some { block := w.heap.size, off := 0 }) 1 1) := by have := cell_of_row _ G 0 _ _ _ (blk_drew hG3); simpa using this
  have g3 : W3.drew.cell? ⟨G, 1, none⟩ = some (.int .i64 0) := by have := cell_of_row _ G 1 _ _ _ (blk_drew hG3); simpa using this
  have g4 : W3.drew.cell? ⟨G, 2, none⟩ = some (.int .i64 (-1)) := by have := cell_of_row _ G 2 _ _ _ (blk_drew hG3); simpa using this
  have g5 : W3.drew.cell? ⟨G, 3, none⟩ = some (.int .i64 0) := by have := cell_of_row _ G 3 _ _ _ (blk_drew hG3); simpa using this
  have g6 : (W3.alloc (Obj.cells #[Value.slice (some { block := w.heap.size, off := 0 }) 1 1, Value.int IntKind.i64 0, Value.int IntKind.i64 (-1), Value.int IntKind.i64 0] 134)).cell? ⟨F, 0, none⟩ = some (.slice A0 gs.length c0) := by have := cell_of_row _ F 0 _ _ _ (blk_alloc hF3 (Obj.cells #[Value.slice (some { block := w.heap.size, off := 0 }) 1 1, Value.int IntKind.i64 0, Value.int IntKind.i64 (-1), Value.int IntKind.i64 0] 134)); simpa using this
  have HNE : Aside0 ((Value.slice A0 gs.length c0).ownBlock ≠ some w.heap.size) := ⟨fun e => by have := Kd.S_lt HF.hgs _ e; omega⟩
  have hty : ∀ k, (Value.slice A0 gs.length c0).ownBlock = some k → ∃ cells, w.heap[k]? = some (.cells cells 134 (0, 0)) := Kd.S_typed HF.hgs
  have hnF : some F ≠ (Value.slice A0 gs.length c0).ownBlock := Kd.S_ne HF.hgs hFF (by decide)
  have HCF : Aside0 (∀ w6, World.grownBy W3.drew w6 (Value.slice A0 gs.length c0).ownBlock → w6.cell? ⟨F, 0, none⟩ = some (.slice A0 gs.length c0) ∧ w6.frozen? ⟨F, 0, none⟩ = false) := ⟨fun w6 hg => by
    have h6 : w6.heap[F]? = some (.cells #[.slice A0 gs.length c0, .pointer (some ⟨O, 0, none⟩)] 131 (0, 0)) := (hg.block F (blk_lt hF3) hnF).trans hF3
    exact ⟨by have := cell_of_row _ F 0 _ _ _ h6; simpa using this, blk_frozen h6 0⟩⟩
  have HSZ : Aside0 (base ≤ W3.drew.heap.size) := ⟨by show base ≤ W3.heap.size; rw [HS3.out]; have := HF.hF; omega⟩
  have HP : Aside0 (kGr.M W3.drew base (fun k => k = w.heap.size) ([at_], 0, -1, 0) [Value.slice (some { block := w.heap.size, off := 0 }) 1 1, .int .i64 0, .int .i64 (-1), .int .i64 0]) :=
    ⟨⟨[Value.slice (some { block := w.heap.size, off := 0 }) 1 1], _, rfl, ⟨_, rfl, line_own (blk_drew hL3) (by have := HF.hF; omega)⟩, ⟨[.int .i64 0], _, rfl, rfl, ⟨[.int .i64 (-1)], _, rfl, rfl, rfl⟩⟩⟩⟩
  go_wp2
  go_region_law ((first | refine Kd.S_append_step kGr (w0 := w0) (W := W3.drew) base (by rfl) (.tmp 47) (.tmp 49) 91 134 (.agg #[(.slice none 0 0), (.int .i64 0), (.int .i64 0), (.int .i64 0)]) 48 ?aH Tryz.underlying91 (by kernel_rfl) rfl (by decide) (by omega) (.slice A0 gs.length c0) gs ([at_], 0, -1, 0) [Value.slice (some { block := w.heap.size, off := 0 }) 1 1, .int .i64 0, .int .i64 (-1), .int .i64 0] (fun _ => True) (fun k => k = w.heap.size) ?aV ?aX ?aP ?aK (fun _ _ => trivial) ?aO ?aB ?aS ?aL ?_); (case aH => rfl); (case aV => rfl); (case aX => rfl); (case aO => exact Kd.S_drew HS_3.out); (case aB => exact below_drew1 HB3.out); (case aL => show (gs.length + 1) * 48 ≤ _; omega); (case aS => exact HSZ.out); (case aK => rintro k rfl; exact ⟨trivial, fun e => HNE.out e.symm⟩); (case aP => exact HP.out); intro v1 w6 ho hb hg hat; obtain ⟨A1, c1, rfl⟩ := Kd.S_slice ho; clear HS_3 HB3 HP; have r0 : w6.cell? ⟨F, 0, none⟩ = some (.slice A0 gs.length c0) := (HCF.out w6 hg).1; have r1 := (HCF.out w6 hg).2; have HO6 := Aside0.mk ho; have HB6 := Aside0.mk hb; have HG6 := Aside0.mk hg; clear ho hb hg hat)
  all_goals go_end0
  all_goals
    have h6 : Kd.S kGr 134 w6 base (fun _ => True) (.slice A1 (gs.length + 1) c1) (gs ++ [([at_], 0, -1, 0)]) := by have := HO6.out; rwa [List.length_append, List.length_singleton] at this
    exact ⟨rfl, _, _, begin_end HF hF3 hO3 (by have := HO_.out; omega) HK3.out (by have := HS3.out; omega) h6 HG6.out, HB6.out.setCell HF.hF _⟩
set_option maxHeartbeats 1000000 in
set_option maxRecDepth 100000 in
theorem begin_cons (at_ : Int) (base F : Nat) (w0 w : World) (v p : Value) (gs : List Gr) (n : Nat) (br : Int) (hs_ : Bool) (st : List Ope) (HF : FS base F w v p gs ((n, br, hs_) :: st)) (HB : Below base w0 w) (hl : gs.length ≤ 1000000) :
    Calls Tryz.prog 125 #[.pointer (some ⟨F, 0, none⟩), .int .i64 at_] w fun e w' => e = .returned (.tuple #[]) ∧ ∃ v' p', FS base F w' v' p' (beginF at_ gs ((n, br, hs_) :: st)).1 (beginF at_ gs ((n, br, hs_) :: st)).2 ∧ Below base w0 w' := by
  have hFF := HF.hc
  have hFl := blk_lt hFF
  have hg0 : w.cell? ⟨F, 0, none⟩ = some v := by have := cell_of_row w F 0 _ _ _ hFF; simpa using this
  obtain ⟨P, q0, rfl, hP0, hP1, hP2, hP3⟩ := HF.hst
  simp only at hP2
  have hg1 : w.cell? ⟨F, 1, none⟩ = some (.pointer (some ⟨P, 0, none⟩)) := by have := cell_of_row w F 1 _ _ _ hFF; simpa using this
  obtain ⟨A0, c0, rfl⟩ := Kd.S_slice HF.hgs
  go_enter Tryz.func125, Tryz.ntmps125
  go_wp2
  obtain ⟨Wa, hWa⟩ : ∃ Wa, Wa = ((w.alloc (Obj.cells #[Value.int IntKind.i64 at_] 3)).alloc (Obj.cells #[Value.slice (some { block := w.heap.size, off := 0 }) 1 1, Value.int IntKind.i64 0, Value.int IntKind.i64 (-1), Value.int IntKind.i64 0] 134)) := ⟨_, rfl⟩
  rw [← hWa]
  have hBa : Below w.heap.size w Wa := by rw [hWa]; exact below_alloc (below_alloc (Below.refl _ _) _) _
  have hsa : Wa.heap.size = w.heap.size + 2 := by rw [hWa, alloc_size, alloc_size]
  obtain ⟨G, hG⟩ : ∃ G, G = w.heap.size + 1 := ⟨_, rfl⟩
  rw [← hG]
  have hGa : Wa.heap[G]? = some (.cells #[Value.slice (some { block := w.heap.size, off := 0 }) 1 1, Value.int IntKind.i64 0, Value.int IntKind.i64 (-1), Value.int IntKind.i64 0] 134 (0, 0)) := by
    rw [hWa, hG, ← alloc_size w (Obj.cells #[Value.int IntKind.i64 at_] 3)]
    exact blk_new _ _
  have hLa : Wa.heap[w.heap.size]? = some (.cells #[Value.int IntKind.i64 at_] 3 (0, 0)) := by
    rw [hWa, Below.heap_alloc _ _ _ (by rw [alloc_size]; omega)]
    exact blk_new _ _
  clear hWa
  have HG_ := Aside0.mk hG
  have HSa := Aside0.mk hsa
  clear hG
  have z1 : Wa.cell? ⟨F, 1, none⟩ = some (.pointer (some ⟨P, 0, none⟩)) := (hBa.cell hFl).trans hg1
  have z2 : Wa.cell? ⟨P, 0, none⟩ = some (.int .i64 n) := (hBa.cell hP1).trans (by have := cell_of_row w P 0 _ _ _ hP2; simpa using this)
  have z3 : Wa.cell? ⟨P, 1, none⟩ = some (.int .i64 br) := (hBa.cell hP1).trans (by have := cell_of_row w P 1 _ _ _ hP2; simpa using this)
  have z4 : Wa.cell? ⟨G, 2, none⟩ = some (.int .i64 (-1)) := by have := cell_of_row Wa G 2 _ _ _ hGa; simpa using this
  have z5 : Wa.cell? ⟨G, 3, none⟩ = some (.int .i64 0) := by have := cell_of_row Wa G 3 _ _ _ hGa; simpa using this
  have z6 := blk_frozen hGa 2
  have z7 := blk_frozen hGa 3
  go_region
  obtain ⟨W1, hW1⟩ : ∃ W1, W1 = ((Wa.setCell ⟨G, 2, none⟩ (.int .i64 n)).setCell ⟨G, 3, none⟩ (.int .i64 br)).drew := ⟨_, rfl⟩
  rw [← hW1]
  have hwG : w.heap.size ≤ G := by have := HG_.out; omega
  have hB1 : Below w.heap.size w W1 := by rw [hW1]; exact below_drew1 ((hBa.setCell hwG _).setCell hwG _)
  have hs1 : W1.heap.size = w.heap.size + 2 := by rw [hW1]; show ((Wa.setCell _ _).setCell _ _).heap.size = _; simp; exact HSa.out
  have hGc : W1.heap[G]? = some (.cells #[Value.slice (some { block := w.heap.size, off := 0 }) 1 1, Value.int IntKind.i64 0, Value.int IntKind.i64 n, Value.int IntKind.i64 br] 134 (0, 0)) := by rw [hW1]; exact blk_drew (blk_put (blk_put hGa 2 _ rfl) 3 _ rfl)
  have hLc : W1.heap[w.heap.size]? = some (.cells #[Value.int IntKind.i64 at_] 3 (0, 0)) := by rw [hW1]; exact blk_drew (blk_far (blk_far hLa (by show w.heap.size ≠ G; have := HG_.out; omega) _) (by show w.heap.size ≠ G; have := HG_.out; omega) _)
  have HS1 := Aside0.mk hs1
  clear hW1 z1 z2 z3 z4 z5 z6 z7 hsa HSa
  go_wp2
  have k0 : W1.cell? ⟨F, 0, none⟩ = some (.slice A0 gs.length c0) := (hB1.cell hFl).trans hg0
  have k1 : W1.cell? ⟨F, 1, none⟩ = some (.pointer (some ⟨P, 0, none⟩)) := (hB1.cell hFl).trans hg1
  have o1 : (W1.alloc (Obj.cells #[Value.int IntKind.i64 (gs.length : Int), Value.int IntKind.i64 0, Value.bool false, Value.pointer (some ⟨P, 0, none⟩)] 136)).heap[F]? = some (.cells #[.slice A0 gs.length c0, .pointer (some ⟨P, 0, none⟩)] 131 (0, 0)) := blk_alloc ((hB1.block F hFl).trans hFF) _
  have q1 : (W1.alloc (Obj.cells #[Value.int IntKind.i64 (gs.length : Int), Value.int IntKind.i64 0, Value.bool false, Value.pointer (some ⟨P, 0, none⟩)] 136)).cell? ⟨F, 1, none⟩ = some (.pointer (some ⟨P, 0, none⟩)) := by have := cell_of_row _ F 1 _ _ _ o1; simpa using this
  have q2 := blk_frozen o1 1
  go_region
  obtain ⟨W2, hW2⟩ : ∃ W2, W2 = W1.alloc (Obj.cells #[Value.int IntKind.i64 (gs.length : Int), Value.int IntKind.i64 0, Value.bool false, Value.pointer (some ⟨P, 0, none⟩)] 136) := ⟨_, rfl⟩
  rw [← hW2]
  have hO2 : W2.heap[w.heap.size + 2]? = some (.cells #[Value.int IntKind.i64 (gs.length : Int), Value.int IntKind.i64 0, Value.bool false, Value.pointer (some ⟨P, 0, none⟩)] 136 (0, 0)) := by rw [hW2, ← hs1]; exact blk_new _ _
  obtain ⟨O, hO⟩ : ∃ O, O = w.heap.size + 2 := ⟨_, rfl⟩
  rw [← hO] at hO2 ⊢
  have HO_ := Aside0.mk hO
  clear hO
  have hF2 : W2.heap[F]? = some (.cells #[.slice A0 gs.length c0, .pointer (some ⟨P, 0, none⟩)] 131 (0, 0)) := by rw [hW2]; exact o1
  have hG2 := blk_alloc hGc (Obj.cells #[Value.int IntKind.i64 (gs.length : Int), Value.int IntKind.i64 0, Value.bool false, Value.pointer (some ⟨P, 0, none⟩)] 136)
  have hL2 := blk_alloc hLc (Obj.cells #[Value.int IntKind.i64 (gs.length : Int), Value.int IntKind.i64 0, Value.bool false, Value.pointer (some ⟨P, 0, none⟩)] 136)
  rw [← hW2] at hG2 hL2
  have hB2 : Below w.heap.size w W2 := by rw [hW2]; exact below_alloc hB1 _
  have hs2 : W2.heap.size = w.heap.size + 3 := by rw [hW2, alloc_size, hs1]
  have hS2 : Kd.S kGr 134 W2 base (fun k => True ∧ ¬ k = w.heap.size) (.slice A0 gs.length c0) gs := Kd.S_below (Kd.S_mono (Kd.S_bound HF.hgs) (fun k hk => ⟨trivial, by have := hk.2.2.1; omega⟩)) hB2
  clear o1 q1 q2 hW2 k0 k1
  obtain ⟨W3, hW3⟩ : ∃ W3, W3 = (W2.setCell ⟨F, 1, none⟩ (.pointer (some ⟨O, 0, none⟩))).drew := ⟨_, rfl⟩
  rw [← hW3]
  have hF3 : W3.heap[F]? = some (.cells #[.slice A0 gs.length c0, .pointer (some ⟨O, 0, none⟩)] 131 (0, 0)) := by rw [hW3]; exact blk_drew (blk_put hF2 1 _ rfl)
  have hO3 : W3.heap[O]? = some (.cells #[Value.int IntKind.i64 (gs.length : Int), Value.int IntKind.i64 0, Value.bool false, Value.pointer (some ⟨P, 0, none⟩)] 136 (0, 0)) := by rw [hW3]; exact blk_drew (blk_far hO2 (by show O ≠ F; have := HO_.out; omega) _)
  have hG3 := blk_drew (blk_far (p := ⟨F, 1, none⟩) hG2 (by show G ≠ F; have := HG_.out; omega) (.pointer (some ⟨O, 0, none⟩)))
  have hL3 := blk_drew (blk_far (p := ⟨F, 1, none⟩) hL2 (by show w.heap.size ≠ F; omega) (.pointer (some ⟨O, 0, none⟩)))
  rw [← hW3] at hG3 hL3
  have hS3 : Kd.S kGr 134 W3 base (fun k => True ∧ ¬ k = w.heap.size) (.slice A0 gs.length c0) gs := by
    rw [hW3]; exact Kd.S_drew (Kd.S_set hS2 hF2 (by decide) 1 _)
  have hs3 : W3.heap.size = w.heap.size + 3 := by rw [hW3]; show (W2.setCell _ _).heap.size = _; simp; exact hs2
  have hB3 : Below base w0 W3 := by rw [hW3]; exact below_drew ((HB.trans ⟨hB2.os, hB2.tape, hB2.output, hB2.size, fun k hk => hB2.block k (by have := HF.hF; omega)⟩).setCell HF.hF _)
  have hk3 : ∀ k, k < w.heap.size → k ≠ F → W3.heap[k]? = w.heap[k]? := fun k hk hn => by rw [hW3]; exact (Below.heap_setCell W2 ⟨F, 1, none⟩ _ k hn).trans (hB2.block k hk)
  have HS3 := Aside0.mk hs3
  have HS_3 := Aside0.mk hS3
  have HK3 := Aside0.mk hk3
  have HB3 := Aside0.mk hB3
  clear hW3 hs3 hs1 HS1 hS3 hk3 hB3 hS2 hL2 hG2 hO2 hF2 hB2 hs2
  have g0 : W3.drew.cell? ⟨F, 0, none⟩ = some (.slice A0 gs.length c0) := by have := cell_of_row _ F 0 _ _ _ (blk_drew hF3); simpa using this
  have g2 : W3.drew.cell? ⟨G, 0, none⟩ = some (Value.slice (some { block := w.heap.size, off := 0 }) 1 1) := by have := cell_of_row _ G 0 _ _ _ (blk_drew hG3); simpa using this
  have g3 : W3.drew.cell? ⟨G, 1, none⟩ = some (.int .i64 0) := by have := cell_of_row _ G 1 _ _ _ (blk_drew hG3); simpa using this
  have g4 : W3.drew.cell? ⟨G, 2, none⟩ = some (.int .i64 n) := by have := cell_of_row _ G 2 _ _ _ (blk_drew hG3); simpa using this
  have g5 : W3.drew.cell? ⟨G, 3, none⟩ = some (.int .i64 br) := by have := cell_of_row _ G 3 _ _ _ (blk_drew hG3); simpa using this
  have g6 : (W3.alloc (Obj.cells #[Value.slice (some { block := w.heap.size, off := 0 }) 1 1, Value.int IntKind.i64 0, Value.int IntKind.i64 n, Value.int IntKind.i64 br] 134)).cell? ⟨F, 0, none⟩ = some (.slice A0 gs.length c0) := by have := cell_of_row _ F 0 _ _ _ (blk_alloc hF3 (Obj.cells #[Value.slice (some { block := w.heap.size, off := 0 }) 1 1, Value.int IntKind.i64 0, Value.int IntKind.i64 n, Value.int IntKind.i64 br] 134)); simpa using this
  have HNE : Aside0 ((Value.slice A0 gs.length c0).ownBlock ≠ some w.heap.size) := ⟨fun e => by have := Kd.S_lt HF.hgs _ e; omega⟩
  have hty : ∀ k, (Value.slice A0 gs.length c0).ownBlock = some k → ∃ cells, w.heap[k]? = some (.cells cells 134 (0, 0)) := Kd.S_typed HF.hgs
  have hnF : some F ≠ (Value.slice A0 gs.length c0).ownBlock := Kd.S_ne HF.hgs hFF (by decide)
  have HCF : Aside0 (∀ w6, World.grownBy W3.drew w6 (Value.slice A0 gs.length c0).ownBlock → w6.cell? ⟨F, 0, none⟩ = some (.slice A0 gs.length c0) ∧ w6.frozen? ⟨F, 0, none⟩ = false) := ⟨fun w6 hg => by
    have h6 : w6.heap[F]? = some (.cells #[.slice A0 gs.length c0, .pointer (some ⟨O, 0, none⟩)] 131 (0, 0)) := (hg.block F (blk_lt hF3) hnF).trans hF3
    exact ⟨by have := cell_of_row _ F 0 _ _ _ h6; simpa using this, blk_frozen h6 0⟩⟩
  have HSZ : Aside0 (base ≤ W3.drew.heap.size) := ⟨by show base ≤ W3.heap.size; rw [HS3.out]; have := HF.hF; omega⟩
  have HP : Aside0 (kGr.M W3.drew base (fun k => k = w.heap.size) ([at_], 0, (n : Int), br) [Value.slice (some { block := w.heap.size, off := 0 }) 1 1, .int .i64 0, .int .i64 n, .int .i64 br]) :=
    ⟨⟨[Value.slice (some { block := w.heap.size, off := 0 }) 1 1], _, rfl, ⟨_, rfl, line_own (blk_drew hL3) (by have := HF.hF; omega)⟩, ⟨[.int .i64 0], _, rfl, rfl, ⟨[.int .i64 n], _, rfl, rfl, rfl⟩⟩⟩⟩
  go_wp2
  go_region_law ((first | refine Kd.S_append_step kGr (w0 := w0) (W := W3.drew) base (by rfl) (.tmp 47) (.tmp 49) 91 134 (.agg #[(.slice none 0 0), (.int .i64 0), (.int .i64 0), (.int .i64 0)]) 48 ?aH Tryz.underlying91 (by kernel_rfl) rfl (by decide) (by omega) (.slice A0 gs.length c0) gs ([at_], 0, (n : Int), br) [Value.slice (some { block := w.heap.size, off := 0 }) 1 1, .int .i64 0, .int .i64 n, .int .i64 br] (fun _ => True) (fun k => k = w.heap.size) ?aV ?aX ?aP ?aK (fun _ _ => trivial) ?aO ?aB ?aS ?aL ?_); (case aH => rfl); (case aV => rfl); (case aX => rfl); (case aO => exact Kd.S_drew HS_3.out); (case aB => exact below_drew1 HB3.out); (case aL => show (gs.length + 1) * 48 ≤ _; omega); (case aS => exact HSZ.out); (case aK => rintro k rfl; exact ⟨trivial, fun e => HNE.out e.symm⟩); (case aP => exact HP.out); intro v1 w6 ho hb hg hat; obtain ⟨A1, c1, rfl⟩ := Kd.S_slice ho; clear HS_3 HB3 HP; have r0 : w6.cell? ⟨F, 0, none⟩ = some (.slice A0 gs.length c0) := (HCF.out w6 hg).1; have r1 := (HCF.out w6 hg).2; have HO6 := Aside0.mk ho; have HB6 := Aside0.mk hb; have HG6 := Aside0.mk hg; clear ho hb hg hat)
  all_goals go_end0
  all_goals
    have h6 : Kd.S kGr 134 w6 base (fun _ => True) (.slice A1 (gs.length + 1) c1) (gs ++ [([at_], 0, (n : Int), br)]) := by have := HO6.out; rwa [List.length_append, List.length_singleton] at this
    exact ⟨rfl, _, _, begin_end HF hF3 hO3 (by have := HO_.out; omega) HK3.out (by have := HS3.out; omega) h6 HG6.out, HB6.out.setCell HF.hF _⟩
theorem begin_any (at_ : Int) (base F : Nat) (w0 w : World) (v p : Value) (gs : List Gr) (st : List Ope) (HF : FS base F w v p gs st) (HB : Below base w0 w) (hl : gs.length ≤ 1000000) :
    Calls Tryz.prog 125 #[.pointer (some ⟨F, 0, none⟩), .int .i64 at_] w fun e w' => e = .returned (.tuple #[]) ∧ ∃ v' p', FS base F w' v' p' (beginF at_ gs st).1 (beginF at_ gs st).2 ∧ Below base w0 w' := by
  cases st with
  | nil =>
    obtain rfl : p = .pointer none := HF.hst
    exact begin_nil at_ base F w0 w v gs HF HB hl
  | cons x st => exact begin_cons at_ base F w0 w v p gs x.1 x.2.1 x.2.2 st HF HB hl
end Go.Proofs.YtolaiebjmhieiaaGreatDoor.OScan
