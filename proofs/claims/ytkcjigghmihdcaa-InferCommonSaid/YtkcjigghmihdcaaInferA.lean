/- The common type of any two types is the reference's, as a statement about numbers and lists alone; no condition beside the printed functions. -/
import Derived.Test.YtkcjigghmihdcaaPInferCommonx4
import Derived.Laws.Strings
namespace Go.Proofs.Ytkcjigghmihdcaa.InferA
open Go.RowKit Go.Proofs.Ytkcjigghmihdcaa.PInferCommon Go.Proofs.YtkcjigghmihdcaaW.PrintWords Go.Proofs.YtkcjigghmihdcaaW.PrintLast
set_option linter.unusedVariables false
set_option linter.unusedSimpArgs false

theorem bytes_eq {a b : ByteArray} (h : a.toList = b.toList) : a = b := by
  rw [ByteArray.toList_eq, ByteArray.toList_eq] at h
  cases a; cases b
  simp only at h
  congr
  exact Array.ext' h

def N0 : ByteArray := ⟨#[99, 104, 97, 114]⟩
def N1 : ByteArray := ⟨#[115, 105, 103, 110, 101, 100, 32, 99, 104, 97, 114]⟩
def N2 : ByteArray := ⟨#[117, 110, 115, 105, 103, 110, 101, 100, 32, 99, 104, 97, 114]⟩
def N3 : ByteArray := ⟨#[115, 104, 111, 114, 116]⟩
def N4 : ByteArray := ⟨#[117, 110, 115, 105, 103, 110, 101, 100, 32, 115, 104, 111, 114, 116]⟩
def N5 : ByteArray := ⟨#[105, 110, 116]⟩
def N6 : ByteArray := ⟨#[117, 110, 115, 105, 103, 110, 101, 100, 32, 105, 110, 116]⟩
def N7 : ByteArray := ⟨#[108, 111, 110, 103]⟩
def N8 : ByteArray := ⟨#[117, 110, 115, 105, 103, 110, 101, 100, 32, 108, 111, 110, 103]⟩
def NL : List ByteArray := [N0, N1, N2, N3, N4, N5, N6, N7, N8]

theorem w (i : Nat) (h : i < 100) : wrap64 ((i : Int) + 1) = ((i + 1 : Nat) : Int) := by unfold wrap64; omega

theorem idx_at (l : List ByteArray) (s : ByteArray) : ∀ (d k i : Nat), l.length < 90 → i ≤ l.length → l.length - i = d → d < k →
    slices_Index_string_string.l0 k l s (l.length : Int) (i : Int) = some (match (l.drop i).findIdx? (fun x => s.toList = x.toList) with | some j => ((i + j : Nat) : Int) | none => -1)
    ∧ smockingref00_Has.l0 k l s (i : Int) = some (match (l.drop i).findIdx? (fun x => s.toList = x.toList) with | some j => ((i + j : Nat) : Int) | none => -1) := by
  intro d
  induction d with
  | zero =>
    intro k i hl hi hd hk
    obtain ⟨k, rfl⟩ : ∃ m, k = m + 1 := ⟨k - 1, by omega⟩
    have : i = l.length := by omega
    subst this
    simp only [slices_Index_string_string.l0, smockingref00_Has.l0]
    rw [if_neg (by omega), if_neg (by omega)]
    simp
  | succ d ih =>
    intro k i hl hi hd hk
    obtain ⟨k, rfl⟩ : ∃ m, k = m + 1 := ⟨k - 1, by omega⟩
    have hlt : i < l.length := by omega
    obtain ⟨ih1, ih2⟩ := ih k (i + 1) hl (by omega) (by omega) (by omega)
    have hr : rdOf ByteArray.empty l (i : Int) = l[i] := by simp [rdOf, hlt]
    have c1 : (i : Int) < (l.length : Int) := by omega
    have c2 : (0 : Int) ≤ (i : Int) := by omega
    simp only [slices_Index_string_string.l0, smockingref00_Has.l0, c1, c2, if_true, hr, w i (by omega), ih1, ih2]
    rw [List.drop_eq_getElem_cons hlt, List.findIdx?_cons]
    by_cases e : s.toList = l[i].toList
    · simp [e]
    · simp only [e, Ne.symm e]
      simp only [if_false, decide_false]
      cases h : List.findIdx? (fun x => decide (s.toList = x.toList)) (List.drop (i + 1) l) with
      | none => simp
      | some j =>
        have e2 : i + 1 + j = i + (j + 1) := by omega
        simp only [Option.map_some, e2, and_self, Bool.false_eq_true, if_false]

theorem idx_names (s : ByteArray) :
    (∀ k, 10 ≤ k → slices_Index_string_string.f k NL s = some (-1) ∧ smockingref00_Has.f k NL s = some (-1)) ∨
    ∃ i : Nat, i < 9 ∧ NL.getD i ByteArray.empty = s ∧ ∀ k, 10 ≤ k → slices_Index_string_string.f k NL s = some (i : Int) ∧ smockingref00_Has.f k NL s = some (i : Int) := by
  have h := fun k (hk : 10 ≤ k) => idx_at NL s 9 k 0 (by decide) (by decide) (by decide) (by omega)
  simp only [slices_Index_string_string.f, smockingref00_Has.f]
  simp only [List.drop_zero, Nat.zero_add] at h
  cases hf : List.findIdx? (fun x => decide (s.toList = x.toList)) NL with
  | none =>
    rw [hf] at h
    exact .inl h
  | some j =>
    rw [hf] at h
    have hj := List.findIdx?_eq_some_iff_getElem.1 hf
    obtain ⟨hlt, he, _⟩ := hj
    refine .inr ⟨j, hlt, ?_, h⟩
    have e : s.toList = NL[j].toList := by simpa using he
    rw [List.getD_eq_getElem?_getD, List.getElem?_eq_getElem hlt]
    exact (bytes_eq e).symm

theorem prefix_some (s : ByteArray) : strings_HasPrefix.f s (⟨#[101, 110, 117, 109, 32]⟩ : ByteArray) = some (decide (5 ≤ s.size) && ((s.extract 0 5).toList == ([101, 110, 117, 109, 32] : List UInt8))) := by
  have e0 : ((⟨#[101, 110, 117, 109, 32]⟩ : ByteArray).size : Int) = 5 := rfl
  have e1 : (⟨#[101, 110, 117, 109, 32]⟩ : ByteArray).toList = ([101, 110, 117, 109, 32] : List UInt8) := by rw [ByteArray.toList_eq]
  simp only [strings_HasPrefix.f, stringslite_HasPrefix.f, e0, e1]
  by_cases h : 5 ≤ s.size
  · have h1 : (s.size : Int) ≥ 5 := by omega
    have h2 : (5 : Int) ≤ (s.size : Int) := by omega
    simp [h1, h2, h]
  · have h1 : ¬ (s.size : Int) ≥ 5 := by omega
    simp [h1, h]

/-- What a type counts as: no number, or the number with that place among the nine. -/
def Cls (a : ByteArray) (n : Int) (l : List Int) (k : Nat) : Prop :=
  (∃ x, infer_number.f k a n l = some (x, false) ∧ ∃ y, smockingref08_promoted.f k a n l = some (y, false)) ∨
  ∃ i : Nat, i < 9 ∧ infer_number.f k a n l = some (NL.getD i ByteArray.empty, true) ∧ smockingref08_promoted.f k a n l = some (NL.getD (max i 5) ByteArray.empty, true)

theorem numbers_ : smockingref08_numbers.f = some NL := rfl
theorem max5 (i : Nat) (h : i < 9) : (mx (i : Int) 5) = ((max i 5 : Nat) : Int) := by unfold mx; omega
theorem mxx (i j : Nat) : (mx (i : Int) (j : Int)) = ((max i j : Nat) : Int) := by unfold mx; omega
theorem rdNL (i : Nat) : rdOf ByteArray.empty NL (i : Int) = NL.getD i ByteArray.empty := by simp [rdOf]

theorem eNL : (([(⟨#[99, 104, 97, 114]⟩ : ByteArray), (⟨#[115, 105, 103, 110, 101, 100, 32, 99, 104, 97, 114]⟩ : ByteArray), (⟨#[117, 110, 115, 105, 103, 110, 101, 100, 32, 99, 104, 97, 114]⟩ : ByteArray), (⟨#[115, 104, 111, 114, 116]⟩ : ByteArray), (⟨#[117, 110, 115, 105, 103, 110, 101, 100, 32, 115, 104, 111, 114, 116]⟩ : ByteArray), (⟨#[105, 110, 116]⟩ : ByteArray), (⟨#[117, 110, 115, 105, 103, 110, 101, 100, 32, 105, 110, 116]⟩ : ByteArray), (⟨#[108, 111, 110, 103]⟩ : ByteArray), (⟨#[117, 110, 115, 105, 103, 110, 101, 100, 32, 108, 111, 110, 103]⟩ : ByteArray)] : List ByteArray)) = NL := rfl

theorem j1_false (a : ByteArray) (n : Int) (l : List Int) (k : Nat) (hk : 11 ≤ k) :
    (slices_Contains_string_string.f k NL a = some false ∧ ∃ y, smockingref08_promoted.j1 k false a n l = some (y, false)) ∨
    ∃ i : Nat, i < 9 ∧ NL.getD i ByteArray.empty = a ∧ slices_Contains_string_string.f k NL a = some true ∧ smockingref08_promoted.j1 k false a n l = some (NL.getD (max i 5) ByteArray.empty, true) := by
  obtain ⟨k, rfl⟩ : ∃ m, k = m + 1 := ⟨k - 1, by omega⟩
  simp only [slices_Contains_string_string.f, smockingref08_promoted.j1, Bool.false_eq_true, if_false, numbers_, Option.bind_some]
  rcases idx_names a with h | ⟨i, hi, e, h⟩
  · left
    rw [(h (k + 1) (by omega)).1, (h k (by omega)).2]
    exact ⟨rfl, _, rfl⟩
  · right
    refine ⟨i, hi, e, ?_, ?_⟩
    · rw [(h (k + 1) (by omega)).1]
      simp
    · have c1 : ¬ ((i : Int) < 0) := by omega
      have c2 : (0 : Int) ≤ mx (i : Int) 5 := by rw [max5 i hi]; omega
      have c3 : mx (i : Int) 5 < ((NL.length : Nat) : Int) := by
        rw [max5 i hi]; have : NL.length = 9 := rfl
        rw [this]; omega
      rw [(h k (by omega)).2]
      simp only [Option.bind_some, c1, c2, c3, if_true, if_false]
      rw [max5 i hi, rdNL]

theorem enum_not (a : ByteArray) (hs : a.size = 5) (hp : (a.extract 0 5).toList = ([101, 110, 117, 109, 32] : List UInt8)) (i : Nat) (hi : i < 9) : NL.getD i ByteArray.empty ≠ a := by
  intro e
  rw [← e] at hp hs
  revert hp hs
  have : i = 0 ∨ i = 1 ∨ i = 2 ∨ i = 3 ∨ i = 4 ∨ i = 5 ∨ i = 6 ∨ i = 7 ∨ i = 8 := by omega
  rcases this with rfl | rfl | rfl | rfl | rfl | rfl | rfl | rfl | rfl <;> simp [NL, N0, N1, N2, N3, N4, N5, N6, N7, N8, ByteArray.toList_eq]
  all_goals (first | decide | skip)

theorem cls (a : ByteArray) (n : Int) (l : List Int) (k : Nat) (hk : 20 ≤ k) : Cls a n l k := by
  obtain ⟨k, rfl⟩ : ∃ m, k = m + 1 := ⟨k - 1, by omega⟩
  unfold Cls
  simp only [infer_number.f, smockingref08_promoted.f]
  by_cases hn : n = 0
  · simp only [hn, if_true]
    by_cases hl : (l.length : Int) > 0
    · left
      simp only [infer_number.j0, smockingref08_promoted.j0, hl, decide_true, if_true]
      exact ⟨_, rfl, _, rfl⟩
    · simp only [infer_number.j0, smockingref08_promoted.j0, hl, decide_false, Bool.false_eq_true, if_false, prefix_some, eNL, Option.bind_some]
      by_cases hp : (decide (5 ≤ a.size) && ((a.extract 0 5).toList == ([101, 110, 117, 109, 32] : List UInt8))) = true
      · have hp1 : 5 ≤ a.size ∧ (a.extract 0 5).toList = ([101, 110, 117, 109, 32] : List UInt8) := by simpa using hp
        obtain ⟨h5, hp1⟩ := hp1
        simp only [hp, if_true]
        by_cases h6 : (a.size : Int) > 5
        · right
          have h7 : (5 : Int) ≤ (a.size : Int) := by omega
          have h8 : (0 : Int) ≤ 5 := by omega
          obtain ⟨k, rfl⟩ : ∃ m, k = m + 1 := ⟨k - 1, by omega⟩
          have hb : ((a.extract 0 5).toList == ([101, 110, 117, 109, 32] : List UInt8)) = true := by simpa using hp1
          refine ⟨5, by omega, ?_, ?_⟩
          · simp only [h6, if_true]; rfl
          · simp only [h6, h7, h8, if_true, hb, smockingref08_promoted.j1]; rfl
        · left
          rcases j1_false a 0 l k (by omega) with ⟨h1, y, h2⟩ | ⟨i, hi, e, _⟩
          · simp only [h6, if_false, h1, h2, Option.bind_some]
            exact ⟨_, rfl, _, rfl⟩
          · exact absurd e (enum_not a (by omega) hp1 i hi)
      · have hj : smockingref08_promoted.j0 (k + 1) false a 0 l = smockingref08_promoted.j1 k false a 0 l := by
          simp only [smockingref08_promoted.j0, Bool.false_eq_true, if_false]
          by_cases h6 : (a.size : Int) > 5
          · have h7 : (5 : Int) ≤ (a.size : Int) := by omega
            have h8 : (0 : Int) ≤ 5 := by omega
            have h9 : 5 ≤ a.size := by omega
            simp only [h9, decide_true, Bool.true_and] at hp
            simp only [h6, h7, h8, if_true]
            cases hb : ((a.extract 0 5).toList == ([101, 110, 117, 109, 32] : List UInt8)) with
            | true => exact absurd hb hp
            | false => rfl
          · simp only [h6, if_false]
        simp only [smockingref08_promoted.j0, Bool.false_eq_true, if_false] at hj
        simp only [hp, Bool.false_eq_true, if_false, hj]
        rcases j1_false a 0 l k (by omega) with ⟨h1, y, h2⟩ | ⟨i, hi, e, h1, h2⟩
        · left
          simp only [h1, h2, Option.bind_some]
          exact ⟨_, rfl, _, rfl⟩
        · right
          refine ⟨i, hi, ?_, h2⟩
          rw [h1, e]; rfl
  · simp only [hn, if_false]
    left
    simp only [infer_number.j0, smockingref08_promoted.j0, if_true]
    exact ⟨_, rfl, _, rfl⟩

end Go.Proofs.Ytkcjigghmihdcaa.InferA
