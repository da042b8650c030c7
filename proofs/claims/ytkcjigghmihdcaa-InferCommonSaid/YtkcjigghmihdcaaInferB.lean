/- The common type of any two types is the reference's, and so is what is known: the law's pure statement; no condition beside the printed functions. -/
import Derived.Test.YtkcjigghmihdcaaInferA
namespace Go.Proofs.Ytkcjigghmihdcaa.InferA
open Go.RowKit Go.Proofs.Ytkcjigghmihdcaa.PInferCommon Go.Proofs.YtkcjigghmihdcaaW.PrintWords Go.Proofs.YtkcjigghmihdcaaW.PrintLast
set_option linter.unusedVariables false
set_option linter.unusedSimpArgs false

theorem prom (i : Nat) (h : i < 9) : infer_promoted.f (NL.getD i ByteArray.empty) = some (NL.getD (max i 5) ByteArray.empty) := by
  have : i = 0 ∨ i = 1 ∨ i = 2 ∨ i = 3 ∨ i = 4 ∨ i = 5 ∨ i = 6 ∨ i = 7 ∨ i = 8 := by omega
  rcases this with rfl | rfl | rfl | rfl | rfl | rfl | rfl | rfl | rfl <;>
    simp [infer_promoted.f, NL, N0, N1, N2, N3, N4, N5, N6, N7, N8, ByteArray.toList_eq]

theorem has_at (p : Nat) (h : 5 ≤ p) (h' : p < 9) (k : Nat) (hk : 12 ≤ k) : smockingref00_Has.f k NL (NL.getD p ByteArray.empty) = some (p : Int) := by
  rcases idx_names (NL.getD p ByteArray.empty) with h1 | ⟨i, hi, e, h1⟩
  · exfalso
    have h2 := (h1 12 (by omega)).2
    have : p = 5 ∨ p = 6 ∨ p = 7 ∨ p = 8 := by omega
    revert h2
    rcases this with rfl | rfl | rfl | rfl <;>
      simp [smockingref00_Has.f, smockingref00_Has.l0, NL, N0, N1, N2, N3, N4, N5, N6, N7, N8, ByteArray.toList_eq, rdOf, wrap64]
  · rw [(h1 k (by omega)).2]
    have : i = 0 ∨ i = 1 ∨ i = 2 ∨ i = 3 ∨ i = 4 ∨ i = 5 ∨ i = 6 ∨ i = 7 ∨ i = 8 := by omega
    have hp : p = 5 ∨ p = 6 ∨ p = 7 ∨ p = 8 := by omega
    revert e
    rcases this with rfl | rfl | rfl | rfl | rfl | rfl | rfl | rfl | rfl <;> rcases hp with rfl | rfl | rfl | rfl <;>
      simp [NL, N0, N1, N2, N3, N4, N5, N6, N7, N8]

theorem inter_has (p : ByteArray) (q : ByteArray) (s : ByteArray) (k : Nat) (hk : 5 ≤ k) : slices_Contains_string_string.f k [p, q] s = some (decide (s.toList = p.toList) || decide (s.toList = q.toList)) := by
  obtain ⟨k, rfl⟩ : ∃ m, k = m + 3 := ⟨k - 3, by omega⟩
  by_cases h1 : s.toList = p.toList
  · simp [slices_Contains_string_string.f, slices_Index_string_string.f, slices_Index_string_string.l0, rdOf, h1]
  · by_cases h2 : s.toList = q.toList
    · have h3 : ¬ q.toList = p.toList := by rw [← h2]; exact h1
      simp [slices_Contains_string_string.f, slices_Index_string_string.f, slices_Index_string_string.l0, rdOf, h2, h3, wrap64]
    · simp [slices_Contains_string_string.f, slices_Index_string_string.f, slices_Index_string_string.l0, rdOf, h1, h2, wrap64]

theorem common_at (i j : Nat) (hi : i < 9) (hj : j < 9) (k : Nat) (hk : 20 ≤ k) :
    infer_Common.j0 k (NL.getD i ByteArray.empty) (NL.getD j ByteArray.empty) false = some (NL.getD (max (max i 5) (max j 5)) ByteArray.empty, 0, []) := by
  obtain ⟨k, rfl⟩ : ∃ m, k = m + 5 := ⟨k - 5, by omega⟩
  simp only [infer_Common.j0, Bool.false_eq_true, if_false, prom i hi, prom j hj, Option.bind_some]
  have hp : max i 5 = 5 ∨ max i 5 = 6 ∨ max i 5 = 7 ∨ max i 5 = 8 := by omega
  have hq : max j 5 = 5 ∨ max j 5 = 6 ∨ max j 5 = 7 ∨ max j 5 = 8 := by omega
  generalize max i 5 = p at *
  generalize max j 5 = q at *
  have e0 : ∀ m, 5 ≤ m → ∀ a b s : ByteArray, slices_Contains_string_string.f m [a, b] s = some (decide (s.toList = a.toList) || decide (s.toList = b.toList)) := fun m hm a b s => inter_has a b s m hm
  simp only [infer_Common.l0, e0 (k + 3) (by omega), e0 (k + 2) (by omega), e0 (k + 1) (by omega)]
  rcases hp with rfl | rfl | rfl | rfl <;> rcases hq with rfl | rfl | rfl | rfl <;>
    simp [NL, N0, N1, N2, N3, N4, N5, N6, N7, N8, ByteArray.toList_eq, rdOf, wrap64]

theorem ref_at (i j : Nat) (hi : i < 9) (hj : j < 9) (k : Nat) (hk : 20 ≤ k) :
    smockingref08_Common.j0 k (NL.getD (max i 5) ByteArray.empty) (NL.getD (max j 5) ByteArray.empty) false = some (NL.getD (max (max i 5) (max j 5)) ByteArray.empty, 0, []) := by
  obtain ⟨k, rfl⟩ : ∃ m, k = m + 1 := ⟨k - 1, by omega⟩
  simp only [smockingref08_Common.j0, Bool.false_eq_true, if_false, numbers_, Option.bind_some, has_at (max i 5) (by omega) (by omega) k (by omega), has_at (max j 5) (by omega) (by omega) k (by omega), mxx]
  have c1 : (0 : Int) ≤ ((max (max i 5) (max j 5) : Nat) : Int) := by omega
  have c2 : ((max (max i 5) (max j 5) : Nat) : Int) < ((NL.length : Nat) : Int) := by
    have : NL.length = 9 := rfl
    rw [this]; omega
  simp only [c1, c2, if_true, rdNL]

theorem unk_of (k : Nat) (hk : 1 ≤ k) (x y : ByteArray) : infer_Common.j0 k x y true = some ((⟨#[63]⟩ : ByteArray), 0, []) ∧ smockingref08_Common.j0 k x y true = some ((⟨#[63]⟩ : ByteArray), 0, []) := by
  obtain ⟨k, rfl⟩ : ∃ m, k = m + 1 := ⟨k - 1, by omega⟩
  constructor
  · simp only [infer_Common.j0, if_true]; rfl
  · simp only [smockingref08_Common.j0, if_true]; rfl

theorem same (a : ByteArray) (n : Int) (l : List Int) (b : ByteArray) (m : Int) (q : List Int) (k : Nat) (hk : 30 ≤ k) :
    ∃ s, infer_Common.f k a n l b m q = some (s, 0, []) ∧ smockingref08_Common.f k a n l b m q = some (s, 0, []) := by
  simp only [infer_Common.f, smockingref08_Common.f]
  rcases cls a n l k (by omega) with ⟨x, h1, y, h2⟩ | ⟨i, hi, h1, h2⟩ <;> rcases cls b m q k (by omega) with ⟨x', h3, y', h4⟩ | ⟨j, hj, h3, h4⟩
  · simp only [h1, h2, h3, h4, Option.bind_some, Bool.false_eq_true, if_false, (unk_of k (by omega) _ _).1, (unk_of k (by omega) _ _).2]
    exact ⟨_, rfl, rfl⟩
  · simp only [h1, h2, h3, h4, Option.bind_some, Bool.false_eq_true, if_false, (unk_of k (by omega) _ _).1, (unk_of k (by omega) _ _).2]
    exact ⟨_, rfl, rfl⟩
  · simp only [h1, h2, h3, h4, Option.bind_some, if_true, Bool.not_false, (unk_of k (by omega) _ _).1, (unk_of k (by omega) _ _).2]
    exact ⟨_, rfl, rfl⟩
  · simp only [h1, h2, h3, h4, Option.bind_some, if_true, Bool.not_true, common_at i j hi hj k (by omega), ref_at i j hi hj k (by omega)]
    exact ⟨_, rfl, rfl⟩

theorem awake_ : smockinglaw08_awake.f 30 = some true := by
  have h : infer_Common.f 30 (⟨#[99, 104, 97, 114]⟩ : ByteArray) 0 ([] : List Int) (⟨#[115, 104, 111, 114, 116]⟩ : ByteArray) 0 ([] : List Int) = some (N5, 0, []) := by
    simp only [infer_Common.f]
    have h0 : infer_number.f 30 (⟨#[99, 104, 97, 114]⟩ : ByteArray) 0 ([] : List Int) = some (NL.getD 0 ByteArray.empty, true) := by
      simp [infer_number.f, infer_number.j0, prefix_some, slices_Contains_string_string.f, slices_Index_string_string.f, slices_Index_string_string.l0, rdOf, ByteArray.toList_eq, NL, N0]
    have h3 : infer_number.f 30 (⟨#[115, 104, 111, 114, 116]⟩ : ByteArray) 0 ([] : List Int) = some (NL.getD 3 ByteArray.empty, true) := by
      simp [infer_number.f, infer_number.j0, prefix_some, slices_Contains_string_string.f, slices_Index_string_string.f, slices_Index_string_string.l0, rdOf, ByteArray.toList_eq, NL, N3, wrap64]
    rw [h0, h3]
    simp only [Option.bind_some, if_true, Bool.not_true, common_at 0 3 (by omega) (by omega) 30 (by omega)]
    rfl
  simp only [smockinglaw08_awake.f, h, Option.bind_some, infer_Known.f, N5]
  simp [ByteArray.toList_eq]

theorem pure (a : ByteArray) (n : Int) (l : List Int) (b : ByteArray) (m : Int) (q : List Int) : smockinglaw08_InferCommon.f 30 a n l b m q = some true := by
  obtain ⟨s, h1, h2⟩ := same a n l b m q 30 (by omega)
  simp [smockinglaw08_InferCommon.f, h1, h2, smockingref00_EqType.f, smockingref00_EqInts.f, smockingref00_EqInts.l0, infer_Known.f, smockingref08_Known.f, awake_]

end Go.Proofs.Ytkcjigghmihdcaa.InferA
