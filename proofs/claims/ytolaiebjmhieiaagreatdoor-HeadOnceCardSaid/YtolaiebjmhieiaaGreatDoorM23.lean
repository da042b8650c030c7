/- HeadOnce: for every list of files, every name and every list of places the law answers true, and all read behind the call as before; the listed tables are tied to the text of the program; no condition. Here: parts of its proof. -/
import Derived.Test.YtolaiebjmhieiaaGreatDoorM22
import Derived.ChangeKeysEq
import Derived.Laws.StructEq
import Derived.Lib.SliceRun
import Derived.Shelf.SlSortCmp.NoneTotal
section
namespace Go.Proofs.YtolaiebjmhieiaaGreatDoor.OScan
open Go.RowKit Go.Proofs.YtolaiebjmhieiaaGreatDoorW.PrintWords Go.Proofs.YtolaiebjmhieiaaGreatDoorW.PrintLast Go.Proofs.YtolaiebjmhieiaaGreatDoorW.PrintMore
set_option linter.unusedVariables false
set_option linter.unusedSimpArgs false
theorem part9 (xs : Array Value) (i : Nat) (v : Value) (w : World) (h : xs[i]? = some v) : (part 9 xs i).run Tryz.prog w = .ok v w := by
  simp [part, Tryz.isAgg9, h]
theorem equalIn9 (d : Nat) (a b : ByteArray) (w : World) : (Op.equalIn (d + 1) 9 (.string a) (.string b)).run Tryz.prog w = .ok (a.toList == b.toList) w := by
  simp [Op.equalIn, run_underlying Tryz.underlying9, ByteArray.toList_eq]
  rfl
theorem eqItems43 (d : Nat) (x1 x2 y1 y2 : ByteArray) (w : World) : (Op.eqItems (d + 1) 9 1 #[.string x1, .string x2] #[.string y1, .string y2] [0, 1]).run Tryz.prog w = .ok (x1.toList == y1.toList && x2.toList == y2.toList) w := by
  have p1 := part9 #[.string x1, .string x2] (0 * 1) (.string x1) w rfl
  have p2 := part9 #[.string y1, .string y2] (0 * 1) (.string y1) w rfl
  have p3 := part9 #[.string x1, .string x2] (1 * 1) (.string x2) w rfl
  have p4 := part9 #[.string y1, .string y2] (1 * 1) (.string y2) w rfl
  have e1 := equalIn9 d x1 y1 w
  have e2 := equalIn9 d x2 y2 w
  simp only [Op.eqItems, Sem.run_bind, p1, p2, e1, Result.andThen_ok]
  cases x1.toList == y1.toList
  · simp
  · simp only [Bool.not_true, Bool.false_eq_true, if_false, Sem.run_bind, p3, p4, e2, Result.andThen_ok]
    cases x2.toList == y2.toList <;> simp
theorem eq43 (x1 x2 y1 y2 : ByteArray) (w : World) : (binOp BinOp.eql 43 (.agg #[.string x1, .string x2]) (.agg #[.string y1, .string y2])).run Tryz.prog w = .ok (.bool (x1.toList == y1.toList && x2.toList == y2.toList)) w := by
  rw [run_eql_struct]
  obtain ⟨i, hi⟩ : ∃ i, Tryz.prog.info? 9 = some i := by
    obtain ⟨i, hi, _⟩ := Option.map_eq_some_iff.1 info9
    exact ⟨i, hi⟩
  have h := run_equalIn_array (P := Tryz.prog) (w := w) 9999 (t := 43) (n := 2) #[.string x1, .string x2] #[.string y1, .string y2] Tryz.underlying43 hi
  have hc : Tryz.prog.cellsOf 9 = 1 := by kernel_rfl
  rw [hc] at h
  have h2 := eqItems43 9998 x1 x2 y1 y2 w
  rw [show List.range 2 = [0, 1] from rfl] at h
  rw [h, h2]
  rfl
theorem ne43 (x1 x2 y1 y2 : ByteArray) (w : World) : (binOp BinOp.neq 43 (.agg #[.string x1, .string x2]) (.agg #[.string y1, .string y2])).run Tryz.prog w = .ok (.bool (!(x1.toList == y1.toList && x2.toList == y2.toList))) w := by
  rw [run_neq_struct]
  obtain ⟨i, hi⟩ : ∃ i, Tryz.prog.info? 9 = some i := by
    obtain ⟨i, hi, _⟩ := Option.map_eq_some_iff.1 info9
    exact ⟨i, hi⟩
  have h := run_equalIn_array (P := Tryz.prog) (w := w) 9999 (t := 43) (n := 2) #[.string x1, .string x2] #[.string y1, .string y2] Tryz.underlying43 hi
  have hc : Tryz.prog.cellsOf 9 = 1 := by kernel_rfl
  rw [hc] at h
  have h2 := eqItems43 9998 x1 x2 y1 y2 w
  rw [show List.range 2 = [0, 1] from rfl] at h
  rw [h, h2]
  rfl
theorem zero43 (n : Nat) : (Builtin.zeroCells (Value.agg #[.string ⟨#[]⟩, .string ⟨#[]⟩]).cells n).toList = List.replicate (n * 2) (Value.string ⟨#[]⟩) := by
  simp [Builtin.zeroCells, Value.cells]
  apply List.ext_getElem
  · simp
  · intro i h1 h2
    simp
    have : i % 2 = 0 ∨ i % 2 = 1 := by omega
    rcases this with h | h <;> simp [h]
theorem clear43 (w : World) (ty : TypeId) (b o n c : Nat) (hn : 0 < n) (hc : ∀ j, j < n * 2 → (w.cell? ⟨b, o + j, none⟩).isSome = true) (hf : ∀ j, j < n * 2 → w.frozen? ⟨b, o + j, none⟩ = false) :
    (Builtin.clear_ #[40] ty #[.slice (some ⟨b, o, none⟩) n c]).run Tryz.prog w = .ok (.tuple #[]) (w.setCells b o (List.replicate (n * 2) (.string ⟨#[]⟩))) := by
  have hst := run_storeCells_cells (P := Tryz.prog) b o (List.replicate (n * 2) (Value.string ⟨#[]⟩)) 0 w (by simpa using hc) (by simpa using hf) (by intro v hv'; rw [List.eq_of_mem_replicate hv']; rfl)
  simp only [Nat.add_zero] at hst
  have hz := zero43 n
  obtain ⟨m, rfl⟩ : ∃ m, n = m + 1 := ⟨n - 1, by omega⟩
  simp [Builtin.clear_, run_underlying Tryz.underlying40, Tryz.zeroValue43, hz, hst]
def Rows43 (w : World) (g C : Nat) (dk : List Pr) : Prop := ∃ cells, w.heap[g]? = some (.cells cells 43 (0, 0)) ∧ cells.size = C ∧ ∀ (j : Nat) (x : Pr), dk[j]? = some x → cells[j * 2]? = some (.string x.1) ∧ cells[j * 2 + 1]? = some (.string x.2)
theorem Rows43.cell {w : World} {g C : Nat} {dk : List Pr} (h : Rows43 w g C dk) {j : Nat} {x : Pr} (hx : dk[j]? = some x) : w.cell? ⟨g, j * 2, none⟩ = some (.string x.1) ∧ w.cell? ⟨g, j * 2 + 1, none⟩ = some (.string x.2) := by
  obtain ⟨cells, h1, _, h3⟩ := h
  obtain ⟨h4, h5⟩ := h3 j x hx
  exact ⟨by rw [cell_of_row w g _ _ _ _ h1]; exact h4, by rw [cell_of_row w g _ _ _ _ h1]; exact h5⟩
theorem Rows43.frozen {w : World} {g C : Nat} {dk : List Pr} (h : Rows43 w g C dk) (j : Nat) : w.frozen? ⟨g, j, none⟩ = false := by
  obtain ⟨cells, h1, _⟩ := h
  exact blk_frozen h1 j
theorem onlyAt_drewN {w w' : World} {g : Nat} (h : OnlyAt w w' g) (q : Nat) : OnlyAt w (w'.drewN q) g := ⟨h.os, h.tape, h.output, h.size, h.block⟩
theorem onlyAt_setCell {w w' : World} {g : Nat} (h : OnlyAt w w' g) (o : Nat) (u : Value) : OnlyAt w (w'.setCell ⟨g, o, none⟩ u) g :=
  ⟨h.os, h.tape, h.output, by have := h.size; simpa using this, fun i hi => (Below.heap_setCell _ ⟨g, o, none⟩ _ i hi).trans (h.block i hi)⟩
theorem onlyAt_setCells {w : World} {g : Nat} : ∀ {w' : World}, OnlyAt w w' g → ∀ (o : Nat) (vs : List Value), OnlyAt w (w'.setCells g o vs) g
  | w', h, o, [] => h
  | w', h, o, v :: vs => onlyAt_setCells (onlyAt_setCell h o v) (o + 1) vs
structure CI (ys : List Pr) (k k2 kk : Nat) (dk : List Pr) : Prop where
  len : dk.length = ys.length
  lt : kk + 1 ≤ k + k2
  pos : 1 ≤ kk
  cov : ∀ (j : Nat) (x : Pr), j < k + k2 → ys[j]? = some x → x ∈ dk.take kk
  high : ∀ j, k + k2 ≤ j + 1 → dk[j]? = ys[j]?
theorem CI.start {ys : List Pr} {k : Nat} (hk : 1 ≤ k) (hn : k < ys.length) (hd : ys[k]? = ys[k - 1]?) : CI ys k 1 k ys := by
  refine ⟨rfl, by omega, hk, fun j x hj hx => ?_, fun _ _ => rfl⟩
  have key : ∀ j, j < k → ys[j]? = some x → x ∈ ys.take k := fun j hj hx => by
    refine List.mem_of_getElem? (i := j) ?_
    rw [List.getElem?_take, if_pos hj]; exact hx
  by_cases hjk : j = k
  · subst hjk
    exact key (j - 1) (by omega) (by rw [← hd]; exact hx)
  · exact key j (by omega) hx
theorem CI.skip {ys dk : List Pr} {k k2 kk : Nat} (h : CI ys k k2 kk dk) (hk : 1 ≤ k + k2) (hd : ys[k + k2]? = ys[k + k2 - 1]?) : CI ys k (k2 + 1) kk dk := by
  refine ⟨h.len, by have := h.lt; omega, h.pos, fun j x hj hx => ?_, fun j hj => h.high j (by omega)⟩
  by_cases hjk : j = k + k2
  · subst hjk
    exact h.cov (k + k2 - 1) x (by omega) (by rw [← hd]; exact hx)
  · exact h.cov j x (by omega) hx
theorem CI.keep {ys dk : List Pr} {k k2 kk : Nat} (h : CI ys k k2 kk dk) {x : Pr} (hx : ys[k + k2]? = some x) (hkk : kk < dk.length) : CI ys k (k2 + 1) (kk + 1) (dk.set kk x) := by
  refine ⟨by rw [List.length_set]; exact h.len, by have := h.lt; omega, by omega, fun j y hj hy => ?_, fun j hj => ?_⟩
  · have ht : (dk.set kk x).take (kk + 1) = dk.take kk ++ [x] := by
      rw [List.take_add_one, List.take_set_of_le (Nat.le_refl _)]
      rw [List.getElem?_set_self hkk]; rfl
    rw [ht]
    by_cases hjk : j = k + k2
    · subst hjk
      rw [hx] at hy
      obtain rfl := Option.some.inj hy
      exact List.mem_append_right _ (List.mem_singleton.2 rfl)
    · exact List.mem_append_left _ (h.cov j y (by omega) hy)
  · have := h.lt
    rw [List.getElem?_set_ne (by omega)]
    exact h.high j (by omega)
theorem Rows43.set {w : World} {g C : Nat} {dk : List Pr} (h : Rows43 w g C dk) (kk : Nat) (x : Pr) : Rows43 ((w.setCell ⟨g, kk * 2, none⟩ (.string x.1)).setCell ⟨g, kk * 2 + 1, none⟩ (.string x.2)) g C (dk.set kk x) := by
  obtain ⟨cells, h1, h2, h3⟩ := h
  refine ⟨_, blk_put (blk_put h1 (kk * 2) (.string x.1) rfl) (kk * 2 + 1) (.string x.2) rfl, by simp [h2], fun j y hy => ?_⟩
  rw [List.getElem?_set] at hy
  by_cases hj : kk = j
  · subst hj
    rw [if_pos rfl] at hy
    split at hy
    · rename_i hlt
      obtain rfl := Option.some.inj hy
      obtain ⟨q0, q1⟩ := h3 kk _ (List.getElem?_eq_getElem hlt)
      have s0 := (Array.getElem?_eq_some_iff.1 q0).1
      have s1 := (Array.getElem?_eq_some_iff.1 q1).1
      exact ⟨by rw [Array.getElem?_setIfInBounds_ne (by omega), Array.getElem?_setIfInBounds_self_of_lt s0], by rw [Array.getElem?_setIfInBounds_self_of_lt (by simpa using s1)]⟩
    · cases hy
  · rw [if_neg hj] at hy
    obtain ⟨q0, q1⟩ := h3 j y hy
    exact ⟨by rw [Array.getElem?_setIfInBounds_ne (by omega), Array.getElem?_setIfInBounds_ne (by omega)]; exact q0, by rw [Array.getElem?_setIfInBounds_ne (by omega), Array.getElem?_setIfInBounds_ne (by omega)]; exact q1⟩
set_option maxHeartbeats 4000000 in
set_option maxRecDepth 100000 in
theorem compact_row (ys : List Pr) (g C cap : Nat) (w : World) (hR : Rows43 w g C ys) (hC : ys.length * 2 ≤ C) (hcap : ys.length ≤ cap) (hl : ys.length ≤ 1000000) :
    Calls Tryz.prog 36 #[.slice (some ⟨g, 0, none⟩) ys.length cap] w fun e w' => ∃ zs : List Pr, e = .returned (.slice (some ⟨g, 0, none⟩) zs.length cap) ∧ Rows43 w' g C zs ∧ (∀ x ∈ ys, x ∈ zs) ∧ zs.length ≤ ys.length ∧ OnlyAt w w' g := by
  have HR := Aside0.mk hR
  have HC := Aside0.mk hC
  obtain ⟨n, hn⟩ : ∃ n, n = ys.length := ⟨_, rfl⟩
  rw [← hn] at hcap hl ⊢
  have HN := Aside0.mk hn
  clear hR hC hn
  by_cases h2 : n < 2
  · have hd : decide ((n : Int) < 2) = true := decide_eq_true (by omega)
    go_enter Tryz.func36, Tryz.ntmps36
    go_wp2_with (fail)
    go_ret
    exact ⟨ys, by rw [← HN.out]; rfl, HR.out, fun _ h => h, by rw [HN.out]; exact Nat.le_refl _, OnlyAt.refl _ _⟩
  · have hd : decide ((n : Int) < 2) = false := decide_eq_false (by omega)
    go_enter Tryz.func36, Tryz.ntmps36
    go_wp2_with (fail)
    go_loopg [3] (n - 1) (fun kq v3 wr => ∃ k : Nat, v3 = .int .i64 k ∧ 1 ≤ k ∧ Aside0 (kq + k = n) ∧ Aside0 (Rows43 wr g C ys) ∧ Aside0 (OnlyAt w wr g))
    case atStart => exact ⟨1, rfl, Nat.le_refl _, ⟨by omega⟩, HR, ⟨OnlyAt.refl _ _⟩⟩
    case round =>
      obtain ⟨k, rfl, hk1, hki, hRr, hO⟩ := hrel
      have hki' := hki.out
      cases gk with
      | zero =>
        have hlt : decide ((k : Int) < (n : Int)) = false := decide_eq_false (by omega)
        go_wp2
        go_ret
        exact ⟨ys, by rw [← HN.out]; rfl, hRr.out, fun _ h => h, by rw [HN.out]; exact Nat.le_refl _, hO.out⟩
      | succ g1 =>
        have hlt : decide ((k : Int) < (n : Int)) = true := decide_eq_true (by omega)
        obtain ⟨x, hx⟩ : ∃ x, ys[k]? = some x := ⟨_, List.getElem?_eq_getElem (by rw [← HN.out]; omega)⟩
        obtain ⟨y, hy⟩ : ∃ y, ys[k - 1]? = some y := ⟨_, List.getElem?_eq_getElem (by rw [← HN.out]; omega)⟩
        obtain ⟨cx0, cx1⟩ := hRr.out.cell hx
        obtain ⟨cy0, cy1⟩ := hRr.out.cell hy
        have HX := Aside0.mk (And.intro hx hy)
        clear hx hy
        obtain ⟨x1, x2⟩ := x
        obtain ⟨y1, y2⟩ := y
        simp only at cx0 cx1 cy0 cy1
        obtain ⟨p, hp⟩ : ∃ p, p = k - 1 := ⟨_, rfl⟩
        rw [← hp] at cy0 cy1 HX
        have w1 : IntKind.i64.wrap ((k : Int) - 1) = (p : Int) := by rw [IntWalk.i64_in _ (by omega)]; omega
        have w2 : wrap64 ((k : Int) - 1) = (p : Int) := (OScan.wr (by omega) (by omega)).trans (by omega)
        have i0 : (0 : Int) ≤ (k : Int) := by omega
        have i1 : (0 : Int) ≤ (p : Int) := by omega
        have i2 : p < n := by omega
        have i3 : k < n := by omega
        have heq := fun w => eq43 x1 x2 y1 y2 w
        have HP := Aside0.mk hp
        clear hp
        by_cases he : (x1.toList == y1.toList && x2.toList == y2.toList) = true
        · rw [he] at heq
          have hdup : Aside0 ((x1, x2) = (y1, y2)) := ⟨by
            simp only [Bool.and_eq_true, beq_iff_eq, ByteArray.toList_eq] at he
            rw [Go.WideShapes.bytes_inj he.1, Go.WideShapes.bytes_inj he.2]⟩
          clear he
          go_wp2_with (fail)
          go_quiet (fail)
          have HRn : Aside0 (Rows43 (wr.drewN nq) g C ys ∧ OnlyAt w (wr.drewN nq) g) := ⟨hRr.out, onlyAt_drewN hO.out _⟩
          clear heq cx0 cx1 cy0 cy1
          generalize wr.drewN nq = W1 at *
          go_wp2_with (fail)
          obtain ⟨m, hm⟩ : ∃ m, m = n - k := ⟨_, rfl⟩
          obtain ⟨cm, hcm⟩ : ∃ cm, cm = cap - k := ⟨_, rfl⟩
          rw [← hm, ← hcm]
          have hm' : m + k = n := by omega
          have HM := Aside0.mk hm'
          have HCM := Aside0.mk hcm
          have hm1 : 1 ≤ m := by omega
          have hmc : m ≤ cm := by omega
          have hkn := i3
          have HST : Aside0 (CI ys k 1 k ys) := ⟨CI.start hk1 (by rw [← HN.out]; exact i3) (by rw [HX.out.1, hdup.out, ← HX.out.2, HP.out])⟩
          clear hm hcm hm' w1 w2 i1 i2 hlt HP HX hdup
          go_loopg [3, 5] (m - 1) (fun kq v3 v5 wr => ∃ (kk k2 : Nat) (dk : List Pr), v3 = .int .i64 kk ∧ v5 = .int .i64 k2 ∧ 1 ≤ k2 ∧ Aside0 (kq + k2 = m) ∧ Aside0 (Rows43 wr g C dk) ∧ Aside0 (OnlyAt w wr g) ∧ Aside0 (CI ys k k2 kk dk))
          case atStart => exact ⟨k, 1, ys, rfl, rfl, Nat.le_refl _, ⟨by omega⟩, ⟨HRn.out.1⟩, ⟨HRn.out.2⟩, HST⟩
          case round =>
            clear hki' hki
            obtain ⟨kk, k2, dk, rfl, rfl, hk2, hki2, hR2, hO2, hI⟩ := hrel
            have hki2' := hki2.out
            have hkm := HM.out
            have hlt2 := hI.out.lt
            have hp2 := hI.out.pos
            have hlen := hI.out.len
            rw [← HN.out] at hlen
            have HLEN := Aside0.mk hlen
            clear hlen
            cases gk with
            | zero =>
              have hlt : decide ((k2 : Int) < (m : Int)) = false := decide_eq_false (by omega)
              obtain ⟨cells, hb0, hb1, hb2⟩ := hR2.out
              have hkkn : kk < n := by omega
              have hC2 := HC.out
              rw [← HN.out] at hC2
              have hcl : ∀ ty, (Builtin.clear_ #[40] ty #[.slice (some ⟨g, kk * 2, none⟩) (n - kk) (cap - kk)]).run Tryz.prog wr = .ok (.tuple #[]) (wr.setCells g (kk * 2) (List.replicate ((n - kk) * 2) (.string ⟨#[]⟩))) := fun ty => clear43 wr ty g (kk * 2) (n - kk) (cap - kk) (by omega) (fun j hj => by rw [cell_of_row wr g _ _ _ _ hb0, Array.getElem?_eq_getElem (by omega)]; rfl) (fun j _ => blk_frozen hb0 _)
              obtain ⟨c1, q1, q2, q3⟩ := setCells_row (List.replicate ((n - kk) * 2) (Value.string ⟨#[]⟩)) (kk * 2) wr cells hb0 (by simp; omega)
              have hof : OnlyAt w (wr.setCells g (kk * 2) (List.replicate ((n - kk) * 2) (Value.string ⟨#[]⟩))) g := onlyAt_setCells hO2.out _ _
              obtain ⟨W3, hW3⟩ : ∃ W3, W3 = wr.setCells g (kk * 2) (List.replicate ((n - kk) * 2) (Value.string ⟨#[]⟩)) := ⟨_, rfl⟩
              rw [← hW3] at hof q1 hcl
              have HFIN : Aside0 (Rows43 W3 g C (dk.take kk) ∧ OnlyAt w W3 g) := ⟨⟨c1, q1, by rw [q2]; exact hb1, fun j x hx => by
                rw [List.getElem?_take] at hx
                split at hx
                · rename_i hj
                  obtain ⟨r0, r1⟩ := hb2 j x hx
                  have key : ∀ i, i < kk * 2 → c1[i]? = cells[i]? := fun i hi => by
                    rw [← Array.getElem?_toList, q3, List.append_assoc, List.getElem?_append_left (by rw [List.length_take, Array.length_toList]; omega), List.getElem?_take, if_pos hi, Array.getElem?_toList]
                  exact ⟨by rw [key _ (by omega)]; exact r0, by rw [key _ (by omega)]; exact r1⟩
                · cases hx⟩, hof⟩
              have i6 : (0 : Int) ≤ (kk : Int) := by omega
              have i7 : kk ≤ n := by omega
              have i8 : kk ≤ cap := by omega
              clear hW3 hb0 hb1 hb2 q1 q2 q3 hof hC2
              go_wp2_with (fail)
              go_ret
              have hlk : (dk.take kk).length = kk := by rw [List.length_take, HLEN.out]; omega
              refine ⟨dk.take kk, by rw [hlk]; rfl, HFIN.out.1, fun x hx => ?_, by rw [hlk]; omega, HFIN.out.2⟩
              obtain ⟨j, hj⟩ := List.getElem?_of_mem hx
              have hjl : j < ys.length := by
                rcases Nat.lt_or_ge j ys.length with h | h
                · exact h
                · rw [List.getElem?_eq_none h] at hj; cases hj
              exact hI.out.cov j x (by have := HN.out; omega) hj
            | succ g2 =>
              have hlt : decide ((k2 : Int) < (m : Int)) = true := decide_eq_true (by omega)
              obtain ⟨x, hx⟩ : ∃ x, ys[k + k2]? = some x := ⟨_, List.getElem?_eq_getElem (by rw [← HN.out]; omega)⟩
              obtain ⟨y, hy⟩ : ∃ y, ys[k + k2 - 1]? = some y := ⟨_, List.getElem?_eq_getElem (by rw [← HN.out]; omega)⟩
              obtain ⟨cx0, cx1⟩ := hR2.out.cell ((hI.out.high (k + k2) (by omega)).trans hx)
              obtain ⟨cy0, cy1⟩ := hR2.out.cell ((hI.out.high (k + k2 - 1) (by omega)).trans hy)
              obtain ⟨z, hz⟩ : ∃ z, dk[kk]? = some z := ⟨_, List.getElem?_eq_getElem (by rw [HLEN.out]; omega)⟩
              obtain ⟨cz0, cz1⟩ := hR2.out.cell hz
              have fz0 := hR2.out.frozen (kk * 2)
              have fz1 := hR2.out.frozen (kk * 2 + 1)
              have HX := Aside0.mk (And.intro hx hy)
              clear hx hy hz
              obtain ⟨x1, x2⟩ := x
              obtain ⟨y1, y2⟩ := y
              simp only at cx0 cx1 cy0 cy1
              obtain ⟨p, hp⟩ : ∃ p, p = k2 - 1 := ⟨_, rfl⟩
              rw [show (k + k2) * 2 = k * 2 + k2 * 2 by omega] at cx0 cx1
              rw [show (k + k2 - 1) * 2 = k * 2 + p * 2 by omega] at cy0 cy1
              have w1 : IntKind.i64.wrap ((k2 : Int) - 1) = (p : Int) := by rw [IntWalk.i64_in _ (by omega)]; omega
              have w2 : wrap64 ((k2 : Int) - 1) = (p : Int) := (OScan.wr (by omega) (by omega)).trans (by omega)
              have j0 : (0 : Int) ≤ (k2 : Int) := by omega
              have j1 : (0 : Int) ≤ (p : Int) := by omega
              have j2 : p < m := by omega
              have j3 : k2 < m := by omega
              have j4 : kk < n := by omega
              have j5 : (0 : Int) ≤ (kk : Int) := by omega
              have heq := fun w => ne43 x1 x2 y1 y2 w
              have HP := Aside0.mk hp
              clear hp
              by_cases he : (x1.toList == y1.toList && x2.toList == y2.toList) = true
              · rw [he] at heq
                have hdup : Aside0 ((x1, x2) = (y1, y2)) := ⟨by
                  simp only [Bool.and_eq_true, beq_iff_eq, ByteArray.toList_eq] at he
                  rw [Go.WideShapes.bytes_inj he.1, Go.WideShapes.bytes_inj he.2]⟩
                simp only [Bool.not_true] at heq
                clear he
                go_wp2_with (fail)
                go_quiet (fail)
                have HRn : Aside0 (Rows43 (wr.drewN nq) g C dk ∧ OnlyAt w (wr.drewN nq) g) := ⟨hR2.out, onlyAt_drewN hO2.out _⟩
                clear heq cx0 cx1 cy0 cy1 cz0 cz1 fz0 fz1
                generalize wr.drewN nq = W2 at *
                go_wp2_with (fail)
                go_roundg g2
                case measure => omega
                case rel => exact ⟨kk, k2 + 1, dk, (by (try simp)), (by (try simp)), by omega, ⟨by omega⟩, ⟨HRn.out.1⟩, ⟨HRn.out.2⟩, ⟨hI.out.skip (by omega) (by rw [HX.out.1, HX.out.2, hdup.out])⟩⟩
              · have he' : (x1.toList == y1.toList && x2.toList == y2.toList) = false := by simpa using he
                rw [he'] at heq
                simp only [Bool.not_false] at heq
                clear he he'
                go_wp2_with (fail)
                go_quiet (fail)
                have HRn : Aside0 (Rows43 (wr.drewN nq) g C dk ∧ OnlyAt w (wr.drewN nq) g) := ⟨hR2.out, onlyAt_drewN hO2.out _⟩
                have cx0' : (wr.drewN nq).cell? ⟨g, k * 2 + k2 * 2, none⟩ = some (.string x1) := cx0
                have cx1' : (wr.drewN nq).cell? ⟨g, k * 2 + k2 * 2 + 1, none⟩ = some (.string x2) := cx1
                have cz0' : (wr.drewN nq).cell? ⟨g, kk * 2, none⟩ = some (.string z.1) := cz0
                have cz1' : (wr.drewN nq).cell? ⟨g, kk * 2 + 1, none⟩ = some (.string z.2) := cz1
                have fz0' : (wr.drewN nq).frozen? ⟨g, kk * 2, none⟩ = false := fz0
                have fz1' : (wr.drewN nq).frozen? ⟨g, kk * 2 + 1, none⟩ = false := fz1
                clear heq cx0 cx1 cy0 cy1 cz0 cz1 fz0 fz1
                generalize wr.drewN nq = W2 at *
                go_wp2_with (fail)
                go_roundg g2
                case measure => omega
                case rel => exact ⟨kk + 1, k2 + 1, dk.set kk (x1, x2), (by (try simp)), (by (try simp)), by omega, ⟨by omega⟩, ⟨HRn.out.1.set kk (x1, x2)⟩, ⟨onlyAt_setCell (onlyAt_setCell HRn.out.2 _ _) _ _⟩, ⟨hI.out.keep HX.out.1 (by rw [HLEN.out]; omega)⟩⟩
        · have he' : (x1.toList == y1.toList && x2.toList == y2.toList) = false := by simpa using he
          rw [he'] at heq
          clear he he'
          go_wp2_with (fail)
          go_quiet (fail)
          have HRn : Aside0 (Rows43 (wr.drewN nq) g C ys ∧ OnlyAt w (wr.drewN nq) g) := ⟨hRr.out, onlyAt_drewN hO.out _⟩
          clear heq cx0 cx1 cy0 cy1
          generalize wr.drewN nq = W1 at *
          go_wp2_with (fail)
          go_roundg g1
          case measure => omega
          case rel => exact ⟨k + 1, by (try simp), by omega, ⟨by omega⟩, ⟨HRn.out.1⟩, ⟨HRn.out.2⟩⟩
end Go.Proofs.YtolaiebjmhieiaaGreatDoor.OScan
end
section
namespace Go.Proofs.YtolaiebjmhieiaaGreatDoor.OScan
open Go.RowKit Go.Proofs.YtolaiebjmhieiaaGreatDoorW.PrintWords Go.Proofs.YtolaiebjmhieiaaGreatDoorW.PrintLast Go.Proofs.YtolaiebjmhieiaaGreatDoorW.PrintMore
open Go.Sort (ltStr SWO PermIn swo_ltStr HoldsK flatK size_flatK get_flatK)
set_option linter.unusedVariables false
set_option linter.unusedSimpArgs false
def lessB (x y : ByteArray) : Bool := ltStr x.toList y.toList
theorem swo_less : SWO lessB := ⟨fun x => swo_ltStr.irrefl _, fun x y z h1 h2 => swo_ltStr.trans _ _ _ h1 h2, fun x y z h1 h2 => swo_ltStr.ntrans _ _ _ h1 h2⟩
theorem ltOf_pair : ltOf cmpP = fun x y : Pr => lessB x.1 y.1 || (!lessB y.1 x.1 && lessB x.2 y.2) := by
  funext x y
  unfold ltOf cmpP cmpB
  show decide _ = _
  unfold lessB
  generalize ltStr x.1.toList y.1.toList = a
  generalize ltStr y.1.toList x.1.toList = b
  generalize ltStr x.2.toList y.2.toList = c
  generalize ltStr y.2.toList x.2.toList = d
  cases a <;> cases b <;> cases c <;> cases d <;> decide
theorem swo_pair : SWO (ltOf cmpP) := by rw [ltOf_pair]; exact swo_lex lessB swo_less
def encP (x : Pr) : List Value := [.string x.1, .string x.2]
theorem sortP_any (xs : List Pr) (g C cap : Nat) (w : World) (hR : Rows43 w g C xs) (hC : xs.length * 2 ≤ C) (hl : xs.length ≤ 1000000) :
    Calls Tryz.prog 32 #[.slice (some ⟨g, 0, none⟩) xs.length cap, .func (.func 33) #[] #[]] w fun e w' => e = .returned (.tuple #[]) ∧ ∃ ys : List Pr, ys.Perm xs ∧ Rows43 w' g C ys ∧ w.heap.size ≤ w'.heap.size ∧ (∀ k, k < w.heap.size → k ≠ g → w'.heap[k]? = w.heap[k]?) ∧ w'.os = w.os ∧ w'.tape = w.tape ∧ w'.output = w.output := by
  have hR' := hR
  obtain ⟨cells, h1, h2, h3⟩ := hR
  have eg : ∀ args w, (callFunc 33 args).run Tryz.prog w = .ok (.enter 33 args) w := enters_of Tryz.func33 (by kernel_rfl) rfl
  have hH : HoldsK encP 2 w g 0 xs.toArray := fun t ht => by
    rw [size_flatK] at ht
    simp only [List.size_toArray] at ht
    refine ⟨?_, blk_frozen h1 _⟩
    rw [Nat.zero_add, get_flatK encP 2 xs.toArray t (by simpa using ht), cell_of_row w g _ _ _ _ h1]
    have hj : t / 2 < xs.length := by omega
    obtain ⟨q0, q1⟩ := h3 (t / 2) _ (List.getElem?_eq_getElem hj)
    have hx : xs.toArray[t / 2]! = xs[t / 2] := by rw [getElem!_pos _ _ (by simpa using hj)]; rfl
    rw [hx]
    rcases (show t % 2 = 0 ∨ t % 2 = 1 by omega) with h | h
    · rw [h]
      rw [show t / 2 * 2 = t by omega] at q0
      rw [q0]; rfl
    · rw [h]
      rw [show t / 2 * 2 + 1 = t by omega] at q1
      rw [q1]; rfl
  have H := AnyQ.slices_SortFunc Tryz.sortPairs 2 Tryz.isAgg43 Tryz.sizeOf43 encP (fun _ => rfl) (fun x v hv => by simp [encP] at hv; rcases hv with rfl | rfl <;> rfl) cmpP swo_pair 33 #[] g 0 cap xs.toArray w eg (fun _ _ _ _ x y => pair_any x y _) hH (blk_lt h1) (by simp; omega)
  change Calls Tryz.prog 32 _ _ _ at H
  simp only [List.size_toArray] at H
  refine H.mono ?_
  rintro e w' ⟨rfl, d', m, os, hp, _, rfl⟩
  have hds : d'.size = xs.length := by have := hp.1; simpa using this
  have hperm : d'.toList.Perm xs := by
    have := hp.2.2
    rw [← hds, Array.extract_size] at this
    have e : (xs.toArray.extract 0 d'.size) = xs.toArray := by rw [hds]; simp
    rw [e] at this
    simpa using this
  obtain ⟨⟨cur', q1, q2, q3⟩, q4, q5, q6, q7, q8⟩ := put_own id w g 43 cells h1 (flatK encP 2 d') m os (by rw [size_flatK, hds, h2]; exact hC)
  refine ⟨rfl, d'.toList, hperm, ⟨cur', q1, by rw [q2]; exact h2, fun j x hx => ?_⟩, q5, q4, q6, q7, q8⟩
  have hj : j < d'.size := by
    rcases Nat.lt_or_ge j d'.toList.length with h | h
    · simpa using h
    · rw [List.getElem?_eq_none h] at hx; cases hx
  have hxj : d'[j]! = x := by
    rw [getElem!_pos d' j hj]
    rw [List.getElem?_eq_getElem (by simpa using hj)] at hx
    simpa using hx
  have key : ∀ t, t < d'.size * 2 → cur'[t]? = some ((encP d'[t / 2]!)[t % 2]!) := fun t ht => by
    have h9 : (cur'.toList.take (flatK encP 2 d').size)[t]? = ((flatK encP 2 d').toList.map id)[t]? := by rw [q3]
    rw [List.getElem?_take, if_pos (by rw [size_flatK]; exact ht), List.map_id, Array.getElem?_toList, Array.getElem?_toList] at h9
    rw [h9, ← get_flatK encP 2 d' t ht, getElem!_pos _ _ (by rw [size_flatK]; exact ht)]
    exact Array.getElem?_eq_getElem _
  refine ⟨?_, ?_⟩
  · rw [key _ (by omega), show j * 2 / 2 = j by omega, hxj, show j * 2 % 2 = 0 by omega]; rfl
  · rw [key _ (by omega), show (j * 2 + 1) / 2 = j by omega, hxj, show (j * 2 + 1) % 2 = 1 by omega]; rfl
def OwnP (w : World) (base : Nat) (v : Value) (xs : List Pr) : Prop := (v = .slice none 0 0 ∧ xs = []) ∨ ∃ g cap C, v = .slice (some ⟨g, 0, none⟩) xs.length cap ∧ base ≤ g ∧ Rows43 w g C xs ∧ xs.length * 2 ≤ C ∧ xs.length ≤ cap
theorem ownP_of_R {w : World} {base : Nat} {v : Value} {xs : List Pr} (h : Kd.R kFl 43 w base (fun _ => True) v xs) : OwnP w base v xs := by
  obtain ⟨h0, inner, ho, hr⟩ := h
  rcases ho with ⟨ho1, ⟨rfl, hn⟩ | ⟨g, cap, cur, rfl, hb, hh, hc1, hc2, hc3, hc4⟩⟩
  · exact .inl ⟨rfl, List.eq_nil_of_length_eq_zero hn⟩
  · have hc3' : cur.size = cap * 2 := hc3
    refine .inr ⟨g, cap, cap * 2, rfl, hb, ⟨cur, hh, hc3', fun j x hx => ?_⟩, by omega, hc1⟩
    have hj : j < xs.length := by
      rcases Nat.lt_or_ge j xs.length with h | h
      · exact h
      · rw [List.getElem?_eq_none h] at hx; cases hx
    have h3 := hr.2 j x hx
    have h4 : (inner.drop (j * 2)).take 2 = [Value.string x.1, Value.string x.2] := by
      obtain ⟨_, _, h5, rfl, h6⟩ := h3
      exact h5.trans (by rw [show _ = [Value.string x.2] from h6]; rfl)
    have hget : ∀ t, t < xs.length * 2 → inner[t]? = cur[t]? := fun t ht => by
      rw [← hc4]
      show (cur.toList.take (xs.length * 2))[t]? = _
      rw [List.getElem?_take, if_pos ht, Array.getElem?_toList]
    have a0 := congrArg (fun l : List Value => l[0]?) h4
    have a1 := congrArg (fun l : List Value => l[1]?) h4
    simp only [List.getElem?_take, List.getElem?_drop] at a0 a1
    rw [if_pos (by omega), hget _ (by omega)] at a0
    rw [if_pos (by omega), hget _ (by omega)] at a1
    exact ⟨a0, a1⟩
structure FrP (w w' : World) (base : Nat) : Prop where
  size : w.heap.size ≤ w'.heap.size
  keep : ∀ k, k < w.heap.size → k < base → w'.heap[k]? = w.heap[k]?
  os : w'.os = w.os
  tape : w'.tape = w.tape
  output : w'.output = w.output
theorem FrP.below {w0 w w' : World} (hb : Below w0.heap.size w0 w) (h : FrP w w' w0.heap.size) : Below w0.heap.size w0 w' :=
  ⟨h.os.trans hb.os, h.tape.trans hb.tape, h.output.trans hb.output, Nat.le_trans hb.size h.size, fun k hk => (h.keep k (by have := hb.size; omega) hk).trans (hb.block k hk)⟩
theorem sortP_own (xs : List Pr) (base : Nat) (v : Value) (w : World) (h : OwnP w base v xs) (hl : xs.length ≤ 1000000) :
    Calls Tryz.prog 32 #[v, .func (.func 33) #[] #[]] w fun e w' => e = .returned (.tuple #[]) ∧ ∃ ys : List Pr, ys.Perm xs ∧ OwnP w' base v ys ∧ FrP w w' base := by
  rcases h with ⟨rfl, rfl⟩ | ⟨g, cap, C, rfl, hb, hR, hC, hcap⟩
  · have H := AnyF.slices_SortFunc_none Tryz.sortPairs none 0 (.func (.func 33) #[] #[]) w
    change Calls Tryz.prog 32 _ _ _ at H
    refine H.mono ?_
    rintro e w' ⟨rfl, rfl⟩
    exact ⟨rfl, [], .nil, .inl ⟨rfl, rfl⟩, Nat.le_refl _, fun _ _ _ => rfl, rfl, rfl, rfl⟩
  · refine (sortP_any xs g C cap w hR hC hl).mono ?_
    rintro e w' ⟨rfl, ys, hp, h1, h2, h3, h4, h5, h6⟩
    have hlen := hp.length_eq
    exact ⟨rfl, ys, hp, .inr ⟨g, cap, C, by rw [hlen], hb, h1, by omega, by omega⟩, h2, fun k hk1 hk2 => h3 k hk1 (by omega), h4, h5, h6⟩
theorem compact_nil (w : World) : Calls Tryz.prog 36 #[.slice none 0 0] w fun e w' => e = .returned (.slice none 0 0) ∧ w' = w := by
  go_enter Tryz.func36, Tryz.ntmps36
  go_wp2_with (fail)
  go_ret
  exact ⟨rfl, rfl⟩
theorem compactP_own (xs : List Pr) (base : Nat) (v : Value) (w : World) (h : OwnP w base v xs) (hl : xs.length ≤ 1000000) :
    Calls Tryz.prog 36 #[v] w fun e w' => ∃ (A : Option Addr) (c : Nat) (zs : List Pr), e = .returned (.slice A zs.length c) ∧ Kd.C kFl w' A zs.length zs ∧ zs.length ≤ c ∧ zs.length ≤ xs.length ∧ (∀ x ∈ xs, x ∈ zs) ∧ FrP w w' base := by
  rcases h with ⟨rfl, rfl⟩ | ⟨g, cap, C, rfl, hb, hR, hC, hcap⟩
  · refine (compact_nil w).mono ?_
    rintro e w' ⟨rfl, rfl⟩
    exact ⟨none, 0, [], rfl, Kd.C_nil _ _, Nat.le_refl _, Nat.le_refl _, fun _ h => h, Nat.le_refl _, fun _ _ _ => rfl, rfl, rfl, rfl⟩
  · refine (compact_row xs g C cap w hR hC hcap hl).mono ?_
    rintro e w' ⟨zs, rfl, h1, h2, h3, ho⟩
    refine ⟨some ⟨g, 0, none⟩, cap, zs, rfl, ?_, by omega, h3, h2, by rw [ho.size]; exact Nat.le_refl _, fun k hk1 hk2 => ho.block k (by omega), ho.os, ho.tape, ho.output⟩
    refine ⟨rfl, by omega, fun _ => ⟨⟨g, 0, none⟩, rfl, fun j p hj => ⟨[.string p.1, .string p.2], rfl, ⟨[.string p.1], [.string p.2], rfl, rfl, rfl⟩, fun i u hu => ?_⟩⟩⟩
    obtain ⟨q0, q1⟩ := h1.cell hj
    rw [add_plain]
    match i with
    | 0 => obtain rfl := Option.some.inj hu; exact q0
    | 1 => obtain rfl := Option.some.inj hu; exact q1
    | i + 2 => simp at hu
end Go.Proofs.YtolaiebjmhieiaaGreatDoor.OScan
end
section
namespace Go.Proofs.YtolaiebjmhieiaaGreatDoor.OScan
open Go.RowKit Go.Proofs.YtolaiebjmhieiaaGreatDoorW.PrintWords Go.Proofs.YtolaiebjmhieiaaGreatDoorW.PrintLast Go.Proofs.YtolaiebjmhieiaaGreatDoorW.PrintMore
set_option linter.unusedVariables false
set_option linter.unusedSimpArgs false
theorem info43 : (Tryz.prog.info? 43).map (fun i => (i.zero, i.size, i.bytes)) = some (some (.agg #[(.string ⟨#[]⟩), (.string ⟨#[]⟩)]), 2, 32) := by kernel_rfl
theorem usR_len (m : AL) (ps : List ByteArray) (n : ByteArray) (h : (txtOf m n).size ≤ 4000) : (usR m ps n).length ≤ 4001 := by
  unfold usR usT
  split
  · simp
  · have h1 := usF_len (incsR (txtOf m n)) (filesR m ps n (txtOf m n)) (grR (txtOf m n)) (scanR (txtOf m n)).1.length
    have h2 : (scanR (txtOf m n)).1.length ≤ 4001 := by
      unfold scanR
      rw [if_neg (by omega)]
      split
      · simp
      · have := toksD_len (txtOf m n) (by omega) ((txtOf m n).size + 1) 0 true (by omega) (by omega)
        simp only; omega
    omega
structure CW (us : ByteArray → List Us) (er : ByteArray → Int) (g : ByteArray → List ByteArray) (W : World) (m : AL) (pv : Value) (PB fm cm mp : Nat) (al : AL) (fs : List Fl) (w : World) : Prop where
  ps : PS us er W m pv PB fm cm w
  map : MapIs w mp al
  mb : W.heap.size ≤ mp
  mf : mp ≠ fm
  mc : mp ≠ cm
  rows : ∀ f ∈ fs, er f.1 = 0 ∧ ∃ (out : List ByteArray) (v : Value), alGet al f.1 = some v ∧ Graph.Found er g f.1 out ∧ Kd.R Kd.string 9 w W.heap.size (fun _ => True) v out ∧ out.length ≤ 1000
section
variable {us : ByteArray → List Us} {er : ByteArray → Int} {g : ByteArray → List ByteArray} {W : World} {m : AL} {pv : Value} {PB fm cm mp : Nat} {al : AL} {fs : List Fl}
theorem CW.kept {w w' : World} (h : CW us er g W m pv PB fm cm mp al fs w) (hP : PS us er W m pv PB fm cm w') (hm : w'.heap[mp]? = w.heap[mp]?) (hk : ∀ (k : Nat) (cs : Array Value), w.heap[k]? = some (Obj.cells cs 9 (0, 0)) → w'.heap[k]? = w.heap[k]?) : CW us er g W m pv PB fm cm mp al fs w' :=
  ⟨hP, h.map.same hm, h.mb, h.mf, h.mc, fun f hf => by
    obtain ⟨h0, out, v, h1, h2, h3, h4⟩ := h.rows f hf
    exact ⟨h0, out, v, h1, h2, R_far9 h3 hk, h4⟩⟩
theorem CW.step {w w' : World} (h : CW us er g W m pv PB fm cm mp al fs w) (hb : Below w.heap.size w w') : CW us er g W m pv PB fm cm mp al fs w' :=
  h.kept (h.ps.step hb) (hb.block _ h.map.lt) (fun k cs hc => hb.block k (blk_lt hc))
theorem CW.read {w w' : World} (h : CW us er g W m pv PB fm cm mp al fs w) (hP : PS us er W m pv PB fm cm w') (hk : ∀ k, k < w.heap.size → k ≠ cm → w'.heap[k]? = w.heap[k]?) : CW us er g W m pv PB fm cm mp al fs w' :=
  h.kept hP (hk _ h.map.lt h.mc) (fun k cs hc => hk k (blk_lt hc) (h.ps.cell_ne hc (by decide)).2.2)
theorem CW.put {w w' : World} (h : CW us er g W m pv PB fm cm mp al fs w) (f : Fl) (he : er f.1 = 0) (out : List ByteArray) (v : Value) (hM : MapIs w' mp (alPut al f.1 v)) (hO : OnlyAt w w' mp) (hF : Graph.Found er g f.1 out) (hR : Kd.R Kd.string 9 w W.heap.size (fun _ => True) v out) (hl : out.length ≤ 1000) : CW us er g W m pv PB fm cm mp (alPut al f.1 v) (fs ++ [f]) w' := by
  obtain ⟨es, cl, hm0, _⟩ := h.map
  have hne : ∀ {k t : Nat} {cs : Array Value}, w.heap[k]? = some (.cells cs t (0, 0)) → k ≠ mp := by
    rintro k t cs h' rfl
    rw [hm0] at h'
    cases h'
  obtain ⟨c, hP, _⟩ := h.ps.prj
  have hk9 : ∀ (k : Nat) (cs : Array Value), w.heap[k]? = some (Obj.cells cs 9 (0, 0)) → w'.heap[k]? = w.heap[k]? := fun k cs hc => hO.block k (hne hc)
  refine ⟨h.ps.kept (hO.below h.ps.below h.mb) (fun k hk => hO.block k ?_), hM, h.mb, h.mf, h.mc, fun f' hf' => ?_⟩
  · rcases hk with rfl | rfl | rfl | ⟨cs, h' | h'⟩
    · exact hne hP.hP
    · exact Ne.symm h.mf
    · exact Ne.symm h.mc
    · exact hne h'
    · exact hne h'
  · by_cases he' : f'.1 = f.1
    · rw [he']
      exact ⟨he, out, v, by rw [alGet_put, if_pos ((MapKept.bytes_beq _ _).2 rfl)], hF, R_far9 hR hk9, hl⟩
    · rcases List.mem_append.1 hf' with hf' | hf'
      · obtain ⟨h0, out', v', h1, h2, h3, h4⟩ := h.rows f' hf'
        exact ⟨h0, out', v', by rw [alGet_put, if_neg (fun e => he' ((MapKept.bytes_beq _ _).1 e))]; exact h1, h2, R_far9 h3 hk9, h4⟩
      · rw [List.mem_singleton.1 hf'] at he'
        exact absurd rfl he'
theorem CW.step43 {w w' : World} (h : CW us er g W m pv PB fm cm mp al fs w) (hb : Below W.heap.size W w') (hk : ∀ k, k < w.heap.size → (∀ cs : Array Value, w.heap[k]? ≠ some (Obj.cells cs 43 (0, 0))) → w'.heap[k]? = w.heap[k]?) : CW us er g W m pv PB fm cm mp al fs w' := by
  have hcell : ∀ {k t : Nat} {cs : Array Value}, w.heap[k]? = some (.cells cs t (0, 0)) → t ≠ 43 → w'.heap[k]? = w.heap[k]? := fun {k t cs} hc ht => hk k (blk_lt hc) (fun cs' e => by
    rw [hc] at e
    injection e with e
    injection e with _ e
    exact ht e)
  have hmap : ∀ {k : Nat} {es : Array MapEntry} {cl : Nat}, w.heap[k]? = some (.map es cl) → w'.heap[k]? = w.heap[k]? := fun {k es cl} hc => hk k (heap_lt hc) (fun cs' e => by rw [hc] at e; cases e)
  obtain ⟨c, hP, _⟩ := h.ps.prj
  refine h.kept (h.ps.kept hb (fun k hk' => ?_)) ?_ (fun k cs hc => hcell hc (by decide))
  · rcases hk' with rfl | rfl | rfl | ⟨cs, h' | h'⟩
    · exact hcell hP.hP (by decide)
    · obtain ⟨es, cl, h', _⟩ := hP.hm; exact hmap h'
    · obtain ⟨es, cl, h', _⟩ := hP.hc; exact hmap h'
    · exact hcell h' (by decide)
    · exact hcell h' (by decide)
  · obtain ⟨es, cl, h', _⟩ := h.map; exact hmap h'
end
end Go.Proofs.YtolaiebjmhieiaaGreatDoor.OScan
end
