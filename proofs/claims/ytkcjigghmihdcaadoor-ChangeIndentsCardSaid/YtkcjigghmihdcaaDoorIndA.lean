/- Plain laws on texts: the indent of a place and lines by their own indent are what the reference says; no condition beside the texts' lengths. -/
import Derived.Test.YtkcjigghmihdcaaDoorOIndx4
import Derived.Lib.SlTrimSet
import Derived.Laws.Strings
namespace Go.Proofs.YtkcjigghmihdcaaDoor.IndA
open Go.RowKit Go.Proofs.YtkcjigghmihdcaaDoor.OInd Go.Proofs.YtkcjigghmihdcaaDoorW.PrintWords Go.Proofs.YtkcjigghmihdcaaDoorW.PrintLast Go.Proofs.YtkcjigghmihdcaaDoorW.PrintMore
set_option linter.unusedVariables false
set_option linter.unusedSimpArgs false

theorem bytes_ext {a b : ByteArray} (h : a.data.toList = b.data.toList) : a = b := by
  cases a; cases b
  simp only at h
  congr
  exact Array.ext' h
theorem size_len (s : ByteArray) : s.data.toList.length = s.size := by rw [Array.length_toList]; rfl
theorem bt_list (s : ByteArray) (i : Nat) : bt s (i : Int) = ((s.data.toList.getD i 0).toNat : Int) := by
  unfold bt
  simp only [Int.toNat_natCast]
  split
  · rename_i h
    have : i < s.data.toList.length := by rw [size_len]; exact h
    rw [List.getD_eq_getElem?_getD, List.getElem?_eq_getElem this]
    rfl
  · rename_i h
    have : s.data.toList.length ≤ i := by rw [size_len]; omega
    rw [List.getD_eq_getElem?_getD, List.getElem?_eq_none this]
    rfl
theorem extract_list (s : ByteArray) (a b : Nat) : (s.extract a b).data.toList = (s.data.toList.drop a).take (b - a) := by
  rw [ByteArray.data_extract, Array.toList_extract]
theorem size_mk (l : List UInt8) : (⟨l.toArray⟩ : ByteArray).size = l.length := by simp [ByteArray.size]
theorem wrap_in {n : Int} (h0 : -9000000000 ≤ n) (h1 : n ≤ 9000000000) : wrap64 n = n := by unfold wrap64; omega

def bl (c : UInt8) : Bool := ([32, 9] : List UInt8).contains c
def hd (l : List UInt8) : Nat := (l.takeWhile bl).length
theorem bl_iff (c : UInt8) : bl c = (decide ((c.toNat : Int) = 32) || decide ((c.toNat : Int) = 9)) := by
  have e1 : (c = 32) ↔ (c.toNat : Int) = 32 := by
    constructor
    · rintro rfl; rfl
    · intro h; exact UInt8.toNat_inj.1 (by simpa using (by omega : c.toNat = 32))
  have e2 : (c = 9) ↔ (c.toNat : Int) = 9 := by
    constructor
    · rintro rfl; rfl
    · intro h; exact UInt8.toNat_inj.1 (by simpa using (by omega : c.toNat = 9))
  simp only [bl, List.contains_cons, List.contains_nil, Bool.or_false]
  rw [← decide_eq_decide.2 e1, ← decide_eq_decide.2 e2]
  rfl
theorem hd_le (l : List UInt8) : hd l ≤ l.length := (List.takeWhile_sublist _).length_le
theorem hd_cons (c : UInt8) (l : List UInt8) : hd (c :: l) = if bl c then hd l + 1 else 0 := by
  unfold hd
  rw [List.takeWhile_cons]
  split <;> simp
theorem hd_drop (l : List UInt8) : (l.dropWhile bl).length = l.length - hd l := by
  have h := congrArg List.length (List.takeWhile_append_dropWhile (p := bl) (l := l))
  rw [List.length_append] at h
  unfold hd
  omega
theorem blank_some (c : UInt8) : smockingref16_blank.f (c.toNat : Int) = some (bl c) := by
  unfold smockingref16_blank.f
  rw [bl_iff]
  by_cases h : (c.toNat : Int) = 32
  · simp [h]
  · simp only [h, if_false, decide_false, Bool.false_or]
    rfl

theorem ahead_at (s : ByteArray) (hs : s.size ≤ 6000) : ∀ (d k i : Nat), i ≤ s.size → s.size - i = d → d < k →
    smockingref16_ahead.l0 k s (i : Int) = some ((i + hd (s.data.toList.drop i) : Nat) : Int) := by
  intro d
  induction d with
  | zero =>
    intro k i hi hd' hk
    obtain ⟨k, rfl⟩ : ∃ m, k = m + 1 := ⟨k - 1, by omega⟩
    simp only [smockingref16_ahead.l0]
    rw [if_neg (by omega), List.drop_of_length_le (by rw [size_len]; omega)]
    rfl
  | succ d ih =>
    intro k i hi hd' hk
    obtain ⟨k, rfl⟩ : ∃ m, k = m + 1 := ⟨k - 1, by omega⟩
    have hlt : i < s.data.toList.length := by rw [size_len]; omega
    have c1 : (i : Int) < (s.size : Int) := by omega
    have c2 : (0 : Int) ≤ (i : Int) := by omega
    simp only [smockingref16_ahead.l0, c1, c2, if_true, bt_list, blank_some, Option.bind_some]
    rw [List.drop_eq_getElem_cons hlt, hd_cons, List.getD_eq_getElem?_getD, List.getElem?_eq_getElem hlt, Option.getD_some]
    by_cases hb : bl s.data.toList[i] = true
    · rw [wrap_in (by omega) (by omega)]
      simp only [hb, if_true]
      have := ih k (i + 1) (by omega) (by omega) (by omega)
      rw [show ((i : Int) + 1) = ((i + 1 : Nat) : Int) from by omega, this]
      congr 2
      omega
    · simp only [hb, if_false, Bool.false_eq_true]
      rfl
theorem ahead_ (s : ByteArray) (hs : s.size ≤ 6000) (k : Nat) (hk : s.size < k) : smockingref16_ahead.f k s = some (hd s.data.toList : Int) := by
  have := ahead_at s hs s.size k 0 (by omega) (by omega) hk
  simpa [smockingref16_ahead.f] using this

theorem two_ok : (⟨#[32, 9]⟩ : ByteArray).size < 100 ∧ ∀ b ∈ (⟨#[32, 9]⟩ : ByteArray).data.toList, b.toNat < 128 := by
  refine ⟨by decide, fun b hb => ?_⟩
  simp at hb
  rcases hb with rfl | rfl <;> decide
theorem left_ (s : ByteArray) (hs : s.size ≤ 6000) : strings_TrimLeft.f s (⟨#[32, 9]⟩ : ByteArray) = some ⟨(s.data.toList.dropWhile bl).toArray⟩ := by
  unfold strings_TrimLeft.f
  rw [if_pos ⟨⟨by omega, two_ok.1⟩, two_ok.2⟩]
  rfl
def trl (l : List UInt8) : List UInt8 := (l.reverse.dropWhile bl).reverse
def tr (s : ByteArray) : ByteArray := ⟨(trl s.data.toList).toArray⟩
theorem right_ (s : ByteArray) (hs : s.size ≤ 6000) : strings_TrimRight.f s (⟨#[32, 9]⟩ : ByteArray) = some (tr s) := by
  unfold strings_TrimRight.f
  rw [if_pos ⟨⟨by omega, two_ok.1⟩, two_ok.2⟩]
  rfl

/-- The begin of the line of a place. -/
def LS (l : List UInt8) : Nat → Nat
  | 0 => 0
  | n + 1 => if l.getD n 0 = 10 then n + 1 else LS l n
theorem LS_le (l : List UInt8) : ∀ n, LS l n ≤ n
  | 0 => Nat.le_refl _
  | n + 1 => by
    unfold LS
    split
    · exact Nat.le_refl _
    · have := LS_le l n; omega
theorem LS_take (l : List UInt8) (a : Nat) : ∀ n, n ≤ a → LS (l.take a) n = LS l n
  | 0, _ => rfl
  | n + 1, h => by
    unfold LS
    have : (l.take a).getD n 0 = l.getD n 0 := by
      simp [List.getD_eq_getElem?_getD, List.getElem?_take, show n < a by omega]
    rw [this, LS_take l a n (by omega)]
theorem ten (c : UInt8) : ((c.toNat : Int) = 10) ↔ c = 10 := by
  constructor
  · intro h; exact UInt8.toNat_inj.1 (by simpa using (by omega : c.toNat = 10))
  · rintro rfl; rfl

theorem last_at (x : ByteArray) (hx : x.size ≤ 6000) : ∀ (j k : Nat), j ≤ x.size → j < k →
    bytealg_LastIndexByteString.l0 k x 10 ((j : Int) - 1) = some ((LS x.data.toList j : Int) - 1) := by
  intro j
  induction j with
  | zero =>
    intro k _ hk
    obtain ⟨k, rfl⟩ : ∃ m, k = m + 1 := ⟨k - 1, by omega⟩
    simp only [bytealg_LastIndexByteString.l0]
    rw [if_neg (by omega)]
    rfl
  | succ j ih =>
    intro k hj hk
    obtain ⟨k, rfl⟩ : ∃ m, k = m + 1 := ⟨k - 1, by omega⟩
    have e : (((j + 1 : Nat) : Int) - 1) = (j : Int) := by omega
    have c1 : (j : Int) ≥ 0 := by omega
    have c2 : (0 : Int) ≤ (j : Int) := by omega
    have c3 : (j : Int) < (x.size : Int) := by omega
    rw [e]
    simp only [bytealg_LastIndexByteString.l0, c1, c2, c3, if_true, bt_list, ten]
    unfold LS
    by_cases h : x.data.toList.getD j 0 = 10
    · simp only [h, if_true]
      congr 1
      omega
    · simp only [h, if_false]
      rw [wrap_in (by omega) (by omega)]
      exact ih k (by omega) (by omega)
theorem last_ (s : ByteArray) (hs : s.size ≤ 6000) (a : Nat) (ha : a ≤ s.size) (k : Nat) (hk : a < k) :
    strings_LastIndexByte.f k (s.extract 0 a) 10 = some ((LS s.data.toList a : Int) - 1) := by
  have hsz : (s.extract 0 a).size = a := by
    rw [← size_len, extract_list]
    simp [size_len]
    omega
  have := last_at (s.extract 0 a) (by omega) a k (by omega) hk
  simp only [strings_LastIndexByte.f, bytealg_LastIndexByteString.f, hsz]
  rw [wrap_in (by omega) (by omega), this, extract_list]
  simp only [Option.bind_some, List.drop_zero, Nat.sub_zero, LS_take _ a a (Nat.le_refl _)]

/-- The indent of a place. -/
def ind (s : ByteArray) (a : Nat) : ByteArray := s.extract (LS s.data.toList a) (LS s.data.toList a + hd (s.data.toList.drop (LS s.data.toList a)))

theorem indent_prog (s : ByteArray) (hs : s.size ≤ 6000) (a : Nat) (ha : a ≤ s.size) (k : Nat) (hk : 6001 < k) : change_Indent.f k s (a : Int) = some (ind s a) := by
  obtain ⟨k, rfl⟩ : ∃ m, k = m + 1 := ⟨k - 1, by omega⟩
  have c0 : ¬ ((a : Int) < 0) := by omega
  have c1 : decide ((a : Int) > (s.size : Int)) = false := by simp; omega
  have c2 : (0 : Int) ≤ (a : Int) := by omega
  have c3 : (a : Int) ≤ (s.size : Int) := by omega
  have hL := LS_le s.data.toList a
  have e1 : wrap64 ((LS s.data.toList a : Int) - 1 + 1) = (LS s.data.toList a : Int) := by rw [wrap_in (by omega) (by omega)]; omega
  have c4 : (0 : Int) ≤ (LS s.data.toList a : Int) := by omega
  have c5 : (LS s.data.toList a : Int) ≤ (s.size : Int) := by omega
  have h9 := last_ s hs a ha k (by omega)
  simp only [change_Indent.f, change_Indent.j0]
  rw [if_neg c0, c1, if_neg (by simp), if_pos c2, if_pos c3, Int.toNat_natCast, h9, Option.bind_some, e1, if_pos c4, if_pos c5, Int.toNat_natCast]
  unfold ind
  generalize LS s.data.toList a = p at *
  have hx : (s.extract p s.size).data.toList = s.data.toList.drop p := by
    rw [extract_list, List.take_of_length_le (by simp [size_len])]
  have hxs : (s.extract p s.size).size = s.size - p := by rw [← size_len, hx]; simp [size_len]
  have hh := hd_le (s.data.toList.drop p)
  have hdl := hd_drop (s.data.toList.drop p)
  simp only [List.length_drop, size_len] at hh hdl
  have e3 : (⟨((s.extract p s.size).data.toList.dropWhile bl).toArray⟩ : ByteArray).size = s.size - p - hd (s.data.toList.drop p) := by rw [size_mk, hx, hdl]
  have e2 : wrap64 (((s.size - p : Nat) : Int) - (((⟨((s.extract p s.size).data.toList.dropWhile bl).toArray⟩ : ByteArray).size : Nat) : Int)) = (hd (s.data.toList.drop p) : Int) := by
    rw [e3, wrap_in (by omega) (by omega)]
    omega
  have c6 : (0 : Int) ≤ (hd (s.data.toList.drop p) : Int) := by omega
  have c7 : (hd (s.data.toList.drop p) : Int) ≤ ((s.size - p : Nat) : Int) := by omega
  rw [left_ _ (by omega), Option.bind_some, e2, if_pos c6, if_pos c7, Int.toNat_natCast]
  congr 1
  apply bytes_ext
  rw [extract_list, hx, extract_list]
  simp only [List.drop_zero, Nat.sub_zero]
  congr 1
  omega

theorem indent_fin (s : ByteArray) (hs : s.size ≤ 6000) (p k : Nat) (hp : p ≤ s.size) (hk : 6001 < k) (q : Nat) (hq : q = p + hd (s.data.toList.drop p)) :
    (if (0 : Int) ≤ (p : Int) then (if (p : Int) ≤ (s.size : Int) then ((smockingref16_ahead.f k (s.extract ((p : Int) : Int).toNat s.size)).bind fun t129 => (if (p : Int) ≤ (wrap64 ((p : Int) + t129)) then (if (wrap64 ((p : Int) + t129)) ≤ (s.size : Int) then (some (s.extract ((p : Int) : Int).toNat ((wrap64 ((p : Int) + t129)) : Int).toNat)) else (none)) else (none))) else (none)) else (none)) = some (s.extract p q) := by
  have hx : (s.extract p s.size).data.toList = s.data.toList.drop p := by
    rw [extract_list, List.take_of_length_le (by simp [size_len])]
  have hxs : (s.extract p s.size).size = s.size - p := by rw [← size_len, hx]; simp [size_len]
  have hh := hd_le (s.data.toList.drop p)
  simp only [List.length_drop, size_len] at hh
  have c1 : (0 : Int) ≤ (p : Int) := by omega
  have c2 : (p : Int) ≤ (s.size : Int) := by omega
  have h9 := ahead_ (s.extract p s.size) (by omega) k (by omega)
  rw [hx] at h9
  have e4 : wrap64 ((p : Int) + (hd (s.data.toList.drop p) : Int)) = (p : Int) + (hd (s.data.toList.drop p) : Int) := wrap_in (by omega) (by omega)
  rw [if_pos c1, if_pos c2, Int.toNat_natCast, h9, Option.bind_some, e4]
  have c3 : (p : Int) ≤ (p : Int) + (hd (s.data.toList.drop p) : Int) := by omega
  have c4 : (p : Int) + (hd (s.data.toList.drop p) : Int) ≤ (s.size : Int) := by omega
  have e5 : ((p : Int) + (hd (s.data.toList.drop p) : Int)).toNat = q := by omega
  rw [if_pos c3, if_pos c4, e5]

theorem indent_zero (s : ByteArray) (hs : s.size ≤ 6000) (k : Nat) (hk : 6001 < k) : smockingref16_Indent.l0 (k + 1) s ((0 : Nat) : Int) = some (ind s 0) := by
  have c : ¬ (((0 : Nat) : Int) > 0) := by omega
  have h := indent_fin s hs 0 k (by omega) hk _ rfl
  simp only [smockingref16_Indent.l0]
  rw [if_neg c]
  unfold ind
  have hl : LS s.data.toList 0 = 0 := rfl
  rw [hl]
  exact h

theorem indent_here (s : ByteArray) (hs : s.size ≤ 6000) (a k : Nat) (ha : a + 1 ≤ s.size) (hk : 6001 < k) (h : s.data.toList.getD a 0 = 10) : smockingref16_Indent.l0 (k + 1) s ((a + 1 : Nat) : Int) = some (ind s (a + 1)) := by
  have c0 : ((a + 1 : Nat) : Int) > 0 := by omega
  have e1 : wrap64 (((a + 1 : Nat) : Int) - 1) = (a : Int) := by rw [wrap_in (by omega) (by omega)]; omega
  have c1 : (0 : Int) ≤ (a : Int) := by omega
  have c2 : (a : Int) < (s.size : Int) := by omega
  have c3 : bt s (a : Int) = 10 := by rw [bt_list]; exact (ten _).2 h
  have hl : LS s.data.toList (a + 1) = a + 1 := by unfold LS; rw [if_pos h]
  have hf := indent_fin s hs (a + 1) k ha hk _ rfl
  generalize hN : ((a + 1 : Nat) : Int) = N at *
  simp only [smockingref16_Indent.l0]
  rw [if_pos c0, e1, if_pos c1, if_pos c2, if_pos c3]
  unfold ind
  rw [hl]
  exact hf

theorem indent_next (s : ByteArray) (hs : s.size ≤ 6000) (a k : Nat) (ha : a + 1 ≤ s.size) (h : ¬ s.data.toList.getD a 0 = 10) : smockingref16_Indent.l0 (k + 1) s ((a + 1 : Nat) : Int) = smockingref16_Indent.l0 k s (a : Int) ∧ ind s (a + 1) = ind s a := by
  have c0 : ((a + 1 : Nat) : Int) > 0 := by omega
  have e1 : wrap64 (((a + 1 : Nat) : Int) - 1) = (a : Int) := by rw [wrap_in (by omega) (by omega)]; omega
  have c1 : (0 : Int) ≤ (a : Int) := by omega
  have c2 : (a : Int) < (s.size : Int) := by omega
  have c3 : ¬ bt s (a : Int) = 10 := by rw [bt_list]; exact fun e => h ((ten _).1 e)
  have hl : LS s.data.toList (a + 1) = LS s.data.toList a := by conv => lhs; unfold LS; rw [if_neg h]
  constructor
  · generalize hN : ((a + 1 : Nat) : Int) = N at *
    simp only [smockingref16_Indent.l0]
    rw [if_pos c0, e1, if_pos c1, if_pos c2, if_neg c3]
  · unfold ind
    rw [hl]

theorem indent_ref_at (s : ByteArray) (hs : s.size ≤ 6000) : ∀ (a k : Nat), a ≤ s.size → a + 6010 < k → smockingref16_Indent.l0 k s (a : Int) = some (ind s a) := by
  intro a
  induction a with
  | zero =>
    intro k _ hk
    obtain ⟨k, rfl⟩ : ∃ m, k = m + 1 := ⟨k - 1, by omega⟩
    exact indent_zero s hs k (by omega)
  | succ a ih =>
    intro k ha hk
    obtain ⟨k, rfl⟩ : ∃ m, k = m + 1 := ⟨k - 1, by omega⟩
    by_cases h : s.data.toList.getD a 0 = 10
    · exact indent_here s hs a k ha (by omega) h
    · obtain ⟨h1, h2⟩ := indent_next s hs a k ha h
      rw [h1, h2]
      exact ih k (by omega) (by omega)

theorem indent_same (s : ByteArray) (hs : s.size ≤ 6000) (i : Int) (k : Nat) (hk : 13000 < k) : ∃ r, change_Indent.f k s i = some r ∧ smockingref16_Indent.f k s i = some r := by
  by_cases h0 : i < 0
  · obtain ⟨k, rfl⟩ : ∃ m, k = m + 1 := ⟨k - 1, by omega⟩
    exact ⟨⟨#[]⟩, by simp [change_Indent.f, change_Indent.j0, h0], by simp [smockingref16_Indent.f, smockingref16_Indent.j0, h0]⟩
  · by_cases h1 : i > (s.size : Int)
    · obtain ⟨k, rfl⟩ : ∃ m, k = m + 1 := ⟨k - 1, by omega⟩
      exact ⟨⟨#[]⟩, by simp [change_Indent.f, change_Indent.j0, h0, h1], by simp [smockingref16_Indent.f, smockingref16_Indent.j0, h0, h1]⟩
    · obtain ⟨a, rfl⟩ := Int.eq_ofNat_of_zero_le (by omega : 0 ≤ i)
      refine ⟨ind s a, indent_prog s hs a (by omega) k (by omega), ?_⟩
      obtain ⟨k, rfl⟩ : ∃ m, k = m + 1 := ⟨k - 1, by omega⟩
      simp only [smockingref16_Indent.f, smockingref16_Indent.j0, h0, h1, if_false, decide_false, Bool.false_eq_true]
      exact indent_ref_at s hs a k (by omega) (by omega)

/-! Lines. -/
def g (f : Nat) (s : ByteArray) : ByteArray := (tr s).extract (min f (hd (tr s).data.toList)) (tr s).size
def D (l : List ByteArray) : List ByteArray := l.map (g (hd (l.getD 0 ByteArray.empty).data.toList))
theorem tr_list (s : ByteArray) : (tr s).data.toList = trl s.data.toList := rfl
theorem trl_le (l : List UInt8) : (trl l).length ≤ l.length := by
  unfold trl
  rw [List.length_reverse]
  have := (List.dropWhile_sublist bl (l := l.reverse)).length_le
  rwa [List.length_reverse] at this
theorem tr_size (s : ByteArray) : (tr s).size ≤ s.size := by
  rw [← size_len, ← size_len s, tr_list]
  exact trl_le _
theorem trl_concat (l : List UInt8) (c : UInt8) : trl (l ++ [c]) = if bl c then trl l else l ++ [c] := by
  unfold trl
  rw [List.reverse_append, List.reverse_singleton, List.singleton_append, List.dropWhile_cons]
  split
  · rfl
  · simp
theorem mn_nat (a b : Nat) : mn (a : Int) (b : Int) = ((min a b : Nat) : Int) := by unfold mn; omega
theorem rd_nat (l : List ByteArray) (i : Nat) : rdOf ByteArray.empty l (i : Int) = l.getD i ByteArray.empty := rfl
theorem hd_size (s : ByteArray) (hs : s.size ≤ 6000) : wrap64 ((s.size : Int) - (((⟨(s.data.toList.dropWhile bl).toArray⟩ : ByteArray).size : Nat) : Int)) = (hd s.data.toList : Int) := by
  have e3 : (⟨(s.data.toList.dropWhile bl).toArray⟩ : ByteArray).size = s.size - hd s.data.toList := by rw [size_mk, hd_drop, size_len]
  have := hd_le s.data.toList
  rw [size_len] at this
  rw [e3, wrap_in (by omega) (by omega)]
  omega

theorem deeper_prog_at (l : List ByteArray) (hl : l.length ≤ 60) (hs : ∀ s ∈ l, s.size ≤ 6000) : ∀ (d k i : Nat) (out : List ByteArray) (f : Int), i ≤ l.length → l.length - i = d → d < k → out.length = i →
    (0 < i → f = (hd (l.getD 0 ByteArray.empty).data.toList : Int)) →
    change_Deeper.l0 k out f l (l.length : Int) (i : Int) = some (out ++ (l.drop i).map (g (hd (l.getD 0 ByteArray.empty).data.toList))) := by
  intro d
  induction d with
  | zero =>
    intro k i out f hi hd' hk ho hf
    obtain ⟨k, rfl⟩ : ∃ m, k = m + 1 := ⟨k - 1, by omega⟩
    simp only [change_Deeper.l0]
    rw [if_neg (by omega), List.drop_of_length_le (by omega)]
    simp
  | succ d ih =>
    intro k i out f hi hd' hk ho hf
    obtain ⟨k, rfl⟩ : ∃ m, k = m + 1 := ⟨k - 1, by omega⟩
    have hlt : i < l.length := by omega
    have c1 : (i : Int) < (l.length : Int) := by omega
    have c2 : (0 : Int) ≤ (i : Int) := by omega
    have c3 : out.length < 8796093022208 := by omega
    have hm : l.getD i ByteArray.empty ∈ l := by rw [List.getD_eq_getElem?_getD, List.getElem?_eq_getElem hlt]; exact List.getElem_mem hlt
    have hsi := hs _ hm
    have e0 : wrap64 ((i : Int) + 1) = ((i + 1 : Nat) : Int) := by rw [wrap_in (by omega) (by omega)]; omega
    have hdr : l.drop i = l.getD i ByteArray.empty :: l.drop (i + 1) := by rw [List.drop_eq_getElem_cons hlt, List.getD_eq_getElem?_getD, List.getElem?_eq_getElem hlt]; rfl
    have hts := tr_size (l.getD i ByteArray.empty)
    have hh := hd_le (tr (l.getD i ByteArray.empty)).data.toList
    rw [size_len] at hh
    simp only [change_Deeper.l0, c1, c2, if_true, rd_nat, left_ _ hsi, right_ _ hsi, left_ (tr (l.getD i ByteArray.empty)) (by omega), Option.bind_some, hd_size _ hsi, hd_size (tr (l.getD i ByteArray.empty)) (by omega), e0, c3]
    rw [hdr, List.map_cons]
    have c4 : ∀ q : Nat, (0 : Int) ≤ ((min q (hd (tr (l.getD i ByteArray.empty)).data.toList) : Nat) : Int) := fun q => by omega
    have c5 : ∀ q : Nat, ((min q (hd (tr (l.getD i ByteArray.empty)).data.toList) : Nat) : Int) ≤ ((tr (l.getD i ByteArray.empty)).size : Int) := fun q => by omega
    by_cases hz : i = 0
    · subst hz
      simp only [Int.ofNat_zero, if_true, mn_nat, c4, c5, Int.toNat_natCast]
      rw [ih k (0 + 1) _ _ (by omega) (by omega) (by omega) (by simp [ho]) (fun _ => rfl), List.append_assoc]
      rfl
    · have hz' : ¬ ((i : Int) = 0) := by omega
      obtain rfl := hf (by omega)
      simp only [hz', if_false, mn_nat, c4, c5, if_true, Int.toNat_natCast]
      rw [ih k (i + 1) _ _ (by omega) (by omega) (by omega) (by simp [ho]) (fun _ => rfl), List.append_assoc]
      rfl
theorem deeper_prog (l : List ByteArray) (hl : l.length ≤ 60) (hs : ∀ s ∈ l, s.size ≤ 6000) (k : Nat) (hk : 61 < k) : change_Deeper.f k l = some (D l) := by
  have := deeper_prog_at l hl hs l.length k 0 [] 0 (by omega) (by omega) (by omega) rfl (fun h => absurd h (by omega))
  simpa [change_Deeper.f, D] using this

/-- The loop that takes blanks off a line's end, and what stands behind it. -/
theorem deeper_l1 (l : List ByteArray) (hl : l.length ≤ 60) (hs : ∀ s ∈ l, s.size ≤ 6000) (i : Nat) (hi : i < l.length) (out : List ByteArray) (ho : out.length ≤ 60) (R : List ByteArray) (K : Nat)
    (hn : ∀ k, K ≤ k → smockingref16_Deeper.l0 k l (out ++ [g (hd (l.getD 0 ByteArray.empty).data.toList) (l.getD i ByteArray.empty)]) ((i + 1 : Nat) : Int) = some R) :
    ∀ (n k : Nat) (x : ByteArray), x.size = n → n ≤ 6000 → trl x.data.toList = trl (l.getD i ByteArray.empty).data.toList → n + K + 6010 ≤ k → smockingref16_Deeper.l1 k l out (i : Int) x = some R := by
  have hm0 : l.getD 0 ByteArray.empty ∈ l := by rw [List.getD_eq_getElem?_getD, List.getElem?_eq_getElem (show 0 < l.length by omega)]; exact List.getElem_mem _
  have hs0 := hs _ hm0
  have e0 : wrap64 ((i : Int) + 1) = ((i + 1 : Nat) : Int) := by rw [wrap_in (by omega) (by omega)]; omega
  have c9 : (0 : Int) < (l.length : Int) := by omega
  have c8 : out.length < 8796093022208 := by omega
  -- what stands behind the loop, at a line whose end is no blank
  have fin : ∀ (k : Nat) (x : ByteArray), x.size ≤ 6000 → x = tr (l.getD i ByteArray.empty) → K + 6001 ≤ k →
      ((smockingref16_ahead.f k x).bind fun t134 => (if 0 < (l.length : Int) then ((smockingref16_ahead.f k (rdOf ByteArray.empty l 0)).bind fun t136 => (if 0 ≤ (mn t134 t136) then (if (mn t134 t136) ≤ (x.size : Int) then (if out.length < 8796093022208 then (smockingref16_Deeper.l0 k l (out ++ [x.extract ((mn t134 t136) : Int).toNat x.size]) (wrap64 ((i : Int) + 1))) else (none)) else (none)) else (none))) else (none))) = some R := by
    intro k x hx he hk
    have hr0 : rdOf ByteArray.empty l 0 = l.getD 0 ByteArray.empty := rfl
    have hh := hd_le x.data.toList
    rw [size_len] at hh
    have c4 : (0 : Int) ≤ ((min (hd x.data.toList) (hd (l.getD 0 ByteArray.empty).data.toList) : Nat) : Int) := by omega
    have c5 : ((min (hd x.data.toList) (hd (l.getD 0 ByteArray.empty).data.toList) : Nat) : Int) ≤ (x.size : Int) := by omega
    simp only [hr0, ahead_ x hx k (by omega), ahead_ _ hs0 k (by omega), Option.bind_some, c9, c8, if_true, mn_nat, c4, c5, Int.toNat_natCast, e0]
    have := hn k (by omega)
    rw [g, ← he, Nat.min_comm] at this
    exact this
  intro n
  induction n with
  | zero =>
    intro k x hx hn6 ht hk
    obtain ⟨k, rfl⟩ : ∃ m, k = m + 1 := ⟨k - 1, by omega⟩
    simp only [smockingref16_Deeper.l1]
    rw [if_neg (by omega)]
    refine fin k x (by omega) ?_ (by omega)
    apply bytes_ext
    have hx0 : x.data.toList = [] := List.eq_nil_of_length_eq_zero (by rw [size_len]; exact hx)
    rw [tr_list, ← ht, hx0]
    rfl
  | succ n ih =>
    intro k x hx hn6 ht hk
    obtain ⟨k, rfl⟩ : ∃ m, k = m + 1 := ⟨k - 1, by omega⟩
    have c1 : (x.size : Int) > 0 := by omega
    have e1 : wrap64 ((x.size : Int) - 1) = (n : Int) := by rw [wrap_in (by omega) (by omega)]; omega
    have c2 : (0 : Int) ≤ (n : Int) := by omega
    have c3 : (n : Int) < (x.size : Int) := by omega
    have c4 : (n : Int) ≤ (x.size : Int) := by omega
    have hlen : x.data.toList.length = n + 1 := by rw [size_len]; exact hx
    have hsplit : x.data.toList = x.data.toList.take n ++ [x.data.toList.getD n 0] := by
      rw [List.getD_eq_getElem?_getD, List.getElem?_eq_getElem (by omega), Option.getD_some]
      have := List.take_succ_eq_append_getElem (l := x.data.toList) (i := n) (by omega)
      rw [← this, List.take_of_length_le (by omega)]
    simp only [smockingref16_Deeper.l1, c1, if_true, e1, c2, c3, bt_list, blank_some, Option.bind_some, c4, Int.toNat_natCast]
    by_cases hb : bl (x.data.toList.getD n 0) = true
    · simp only [hb, if_true]
      have he : (x.extract 0 n).data.toList = x.data.toList.take n := by rw [extract_list]; simp
      refine ih k (x.extract 0 n) ?_ (by omega) ?_ (by omega)
      · rw [← size_len, he, List.length_take, hlen]; omega
      · rw [he, ← ht]
        conv => rhs; rw [hsplit, trl_concat, if_pos hb]
    · simp only [hb, Bool.false_eq_true, if_false]
      refine fin k x (by omega) ?_ (by omega)
      apply bytes_ext
      rw [tr_list, ← ht, hsplit, trl_concat, if_neg hb]

theorem deeper_ref_at (l : List ByteArray) (hl : l.length ≤ 60) (hs : ∀ s ∈ l, s.size ≤ 6000) : ∀ (d i k : Nat) (out : List ByteArray), i ≤ l.length → l.length - i = d → out.length = i → d * 20000 + 1 ≤ k →
    smockingref16_Deeper.l0 k l out (i : Int) = some (out ++ (l.drop i).map (g (hd (l.getD 0 ByteArray.empty).data.toList))) := by
  intro d
  induction d with
  | zero =>
    intro i k out hi hd' ho hk
    obtain ⟨k, rfl⟩ : ∃ m, k = m + 1 := ⟨k - 1, by omega⟩
    simp only [smockingref16_Deeper.l0]
    rw [if_neg (by omega), List.drop_of_length_le (by omega)]
    simp
  | succ d ih =>
    intro i k out hi hd' ho hk
    obtain ⟨k, rfl⟩ : ∃ m, k = m + 1 := ⟨k - 1, by omega⟩
    have hlt : i < l.length := by omega
    have c1 : (i : Int) < (l.length : Int) := by omega
    have c2 : (0 : Int) ≤ (i : Int) := by omega
    have hm : l.getD i ByteArray.empty ∈ l := by rw [List.getD_eq_getElem?_getD, List.getElem?_eq_getElem hlt]; exact List.getElem_mem hlt
    have hsi := hs _ hm
    have hdr : l.drop i = l.getD i ByteArray.empty :: l.drop (i + 1) := by rw [List.drop_eq_getElem_cons hlt, List.getD_eq_getElem?_getD, List.getElem?_eq_getElem hlt]; rfl
    simp only [smockingref16_Deeper.l0, c1, c2, if_true, rd_nat]
    refine deeper_l1 l hl hs i hlt out (by omega) _ (d * 20000 + 1) (fun k hk => ?_) (l.getD i ByteArray.empty).size k _ rfl (by omega) rfl (by omega)
    rw [ih (i + 1) k _ (by omega) (by omega) (by simp [ho]) hk, hdr, List.map_cons, List.append_assoc]
    rfl
theorem deeper_ref (l : List ByteArray) (hl : l.length ≤ 60) (hs : ∀ s ∈ l, s.size ≤ 6000) (k : Nat) (hk : 2000000 ≤ k) : smockingref16_Deeper.f k l = some (D l) := by
  have := deeper_ref_at l hl hs l.length 0 k [] (by omega) (by omega) rfl (by omega)
  simpa [smockingref16_Deeper.f, D] using this

theorem eq_at (l : List ByteArray) (hl : l.length ≤ 60) : ∀ (d i k : Nat), i ≤ l.length → l.length - i = d → d < k → smockingref00_EqStrings.l0 k l l (i : Int) = some true := by
  intro d
  induction d with
  | zero =>
    intro i k hi hd' hk
    obtain ⟨k, rfl⟩ : ∃ m, k = m + 1 := ⟨k - 1, by omega⟩
    simp only [smockingref00_EqStrings.l0]
    rw [if_neg (by omega)]
  | succ d ih =>
    intro i k hi hd' hk
    obtain ⟨k, rfl⟩ : ∃ m, k = m + 1 := ⟨k - 1, by omega⟩
    have c1 : (i : Int) < (l.length : Int) := by omega
    have c2 : (0 : Int) ≤ (i : Int) := by omega
    have e0 : wrap64 ((i : Int) + 1) = ((i + 1 : Nat) : Int) := by rw [wrap_in (by omega) (by omega)]; omega
    simp only [smockingref00_EqStrings.l0, c1, c2, if_true, e0]
    exact ih (i + 1) k (by omega) (by omega) (by omega)
theorem eq_ (l : List ByteArray) (hl : l.length ≤ 60) (k : Nat) (hk : 61 < k) : smockingref00_EqStrings.f k l l = some true := by
  simp only [smockingref00_EqStrings.f, if_true]
  exact eq_at l hl l.length 0 k (by omega) (by omega) (by omega)

theorem awake_ (k : Nat) (hk : 2000000 ≤ k) : smockinglaw16_awake.f k = some true := by
  have h1 := deeper_prog [(⟨#[32, 32, 97, 32, 32]⟩ : ByteArray), (⟨#[32, 32, 32, 32, 98]⟩ : ByteArray), (⟨#[32, 99]⟩ : ByteArray)] (by decide) (by intro s hs; simp at hs; rcases hs with rfl | rfl | rfl <;> decide) k (by omega)
  have h2 : change_Indent.f k (⟨#[120, 10, 9, 32, 121]⟩ : ByteArray) 4 = some (ind (⟨#[120, 10, 9, 32, 121]⟩ : ByteArray) 4) := indent_prog (⟨#[120, 10, 9, 32, 121]⟩ : ByteArray) (by decide) 4 (by decide) k (by omega)
  have h3 : D [(⟨#[32, 32, 97, 32, 32]⟩ : ByteArray), (⟨#[32, 32, 32, 32, 98]⟩ : ByteArray), (⟨#[32, 99]⟩ : ByteArray)] = [⟨#[97]⟩, ⟨#[32, 32, 98]⟩, ⟨#[99]⟩] := by decide
  have h4 : ind (⟨#[120, 10, 9, 32, 121]⟩ : ByteArray) 4 = ⟨#[9, 32]⟩ := by decide
  simp only [smockinglaw16_awake.f, h1, h2, h3, h4, Option.bind_some]
  simp [rdOf, ByteArray.toList_eq]

theorem law_at (s : ByteArray) (hs : s.size ≤ 5000) (a : Int) (l : List ByteArray) (hl : l.length ≤ 50) (k : Nat) : ∀ (d i : Nat), i ≤ l.length → l.length - i = d → 2000001 ≤ k → (∀ j, j < i → (l.getD j ByteArray.empty).size ≤ 1000) →
    smockinglaw16_ChangeIndents.l0 (k + d) s a l (i : Int) = some true := by
  intro d
  induction d with
  | zero =>
    intro i hi hd' hk hb
    obtain ⟨k, rfl⟩ : ∃ m, k = m + 1 := ⟨k - 1, by omega⟩
    have hsz : ∀ x ∈ l, x.size ≤ 6000 := by
      intro x hx
      obtain ⟨j, hj, rfl⟩ := List.getElem_of_mem hx
      have := hb j (by omega)
      rw [List.getD_eq_getElem?_getD, List.getElem?_eq_getElem hj] at this
      simp only [Option.getD_some] at this
      omega
    obtain ⟨r, h1, h2⟩ := indent_same s (by omega) a k (by omega)
    simp only [smockinglaw16_ChangeIndents.l0, Nat.add_zero]
    rw [if_neg (by omega)]
    simp only [h1, h2, Option.bind_some, if_true, deeper_prog l (by omega) hsz k (by omega), deeper_ref l (by omega) hsz k (by omega), eq_ (D l) (by simp [D]; omega) k (by omega), awake_ k (by omega)]
  | succ d ih =>
    intro i hi hd' hk hb
    have c1 : (i : Int) < (l.length : Int) := by omega
    have c2 : (0 : Int) ≤ (i : Int) := by omega
    have e0 : wrap64 ((i : Int) + 1) = ((i + 1 : Nat) : Int) := by rw [wrap_in (by omega) (by omega)]; omega
    rw [show k + (d + 1) = (k + d) + 1 from rfl]
    simp only [smockinglaw16_ChangeIndents.l0, c1, c2, if_true, rd_nat, e0]
    by_cases hz : ((l.getD i ByteArray.empty).size : Int) > 1000
    · simp only [hz, if_true, awake_ (k + d) (by omega), Option.bind_some]
    · simp only [hz, if_false]
      refine ih (i + 1) (by omega) (by omega) hk (fun j hj => ?_)
      rcases Nat.lt_or_ge j i with h | h
      · exact hb j h
      · obtain rfl : j = i := by omega
        omega

theorem law (s : ByteArray) (a : Int) (l : List ByteArray) : smockinglaw16_ChangeIndents.f 2000200 s a l = some true := by
  simp only [smockinglaw16_ChangeIndents.f]
  by_cases h1 : (s.size : Int) > 5000
  · simp only [h1, if_true, smockinglaw16_ChangeIndents.j0, awake_ 2000199 (by omega), Option.bind_some]
  · by_cases h2 : (l.length : Int) > 50
    · simp only [h1, h2, if_false, if_true, decide_true, smockinglaw16_ChangeIndents.j0, awake_ 2000199 (by omega), Option.bind_some]
    · simp only [h1, h2, if_false, decide_false, Bool.false_eq_true, smockinglaw16_ChangeIndents.j0]
      have := law_at s (by omega) a l (by omega) (2000199 - l.length) l.length 0 (by omega) (by omega) (by omega) (fun j hj => absurd hj (by omega))
      rw [show 2000199 - l.length + l.length = 2000199 from by omega] at this
      exact this
end Go.Proofs.YtkcjigghmihdcaaDoor.IndA
