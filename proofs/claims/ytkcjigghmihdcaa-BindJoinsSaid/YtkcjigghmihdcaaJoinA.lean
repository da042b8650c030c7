/- Two environments put together, and the value of a name, are what the reference says: the pure statement of BindJoins; no condition beside the printed functions. -/
import Derived.Test.YtkcjigghmihdcaaOJoinx4
import Derived.Laws.Strings
namespace Go.Proofs.Ytkcjigghmihdcaa.JoinA
open Go.RowKit Go.Proofs.Ytkcjigghmihdcaa.OJoin Go.Proofs.YtkcjigghmihdcaaW.PrintWords Go.Proofs.YtkcjigghmihdcaaW.PrintLast Go.Proofs.YtkcjigghmihdcaaW.PrintMore
set_option linter.unusedVariables false
set_option linter.unusedSimpArgs false

theorem bytes_eq {a b : ByteArray} (h : a.toList = b.toList) : a = b := by
  rw [ByteArray.toList_eq, ByteArray.toList_eq] at h
  cases a; cases b
  simp only at h
  congr
  exact Array.ext' h
theorem nx (i : Nat) (h : i < 1000000) : wrap64 ((i : Int) + 1) = ((i + 1 : Nat) : Int) := by unfold wrap64; omega

/-- The value of a name, or nothing. -/
def getL : List S45 → ByteArray → Option ByteArray
  | [], _ => none
  | x :: r, n => if x.f0.toList = n.toList then some x.f1 else getL r n
def told : Option ByteArray → ByteArray × Bool
  | some v => (v, true)
  | none => ((⟨#[]⟩ : ByteArray), false)
theorem rd_at (l : List S45) (i : Nat) (h : i < l.length) : rd_T45 l (i : Int) = l[i] := by simp [rd_T45, h]

theorem get_at (l : List S45) (n : ByteArray) (hl : l.length < 100000) : ∀ (d k i : Nat), i ≤ l.length → l.length - i = d → d < k →
    api_Pair_31.l0 k n l (l.length : Int) (i : Int) = some (told (getL (l.drop i) n)) ∧ smockingref12_Get.l0 k l n (i : Int) = some (told (getL (l.drop i) n)) := by
  intro d
  induction d with
  | zero =>
    intro k i hi hd hk
    obtain ⟨k, rfl⟩ : ∃ m, k = m + 1 := ⟨k - 1, by omega⟩
    have c1 : ¬ ((i : Int) < (l.length : Int)) := by omega
    simp only [api_Pair_31.l0, smockingref12_Get.l0]
    rw [if_neg c1, if_neg c1, List.drop_of_length_le (by omega)]
    exact ⟨rfl, rfl⟩
  | succ d ih =>
    intro k i hi hd hk
    obtain ⟨k, rfl⟩ : ∃ m, k = m + 1 := ⟨k - 1, by omega⟩
    have hlt : i < l.length := by omega
    have c1 : (i : Int) < (l.length : Int) := by omega
    have c2 : (0 : Int) ≤ (i : Int) := by omega
    obtain ⟨h1, h2⟩ := ih k (i + 1) (by omega) (by omega) (by omega)
    simp only [api_Pair_31.l0, smockingref12_Get.l0]
    rw [if_pos c1, if_pos c2, if_pos c1, if_pos c1, if_pos c2, rd_at l i hlt, nx i (by omega), h1, h2, List.drop_eq_getElem_cons hlt]
    by_cases e : (l[i].f0).toList = n.toList
    · rw [if_pos e]
      have e2 : getL (l[i] :: l.drop (i + 1)) n = some l[i].f1 := by unfold getL; rw [if_pos e]
      rw [e2]
      exact ⟨rfl, rfl⟩
    · rw [if_neg e]
      have e2 : getL (l[i] :: l.drop (i + 1)) n = getL (l.drop (i + 1)) n := by conv => lhs; unfold getL; rw [if_neg e]
      rw [e2]
      exact ⟨rfl, rfl⟩
theorem get_ (l : List S45) (n : ByteArray) (hl : l.length < 100000) (k : Nat) (hk : l.length < k) :
    bind_Get.f k l n = some (told (getL l n)) ∧ smockingref12_Get.f k l n = some (told (getL l n)) := by
  obtain ⟨h1, h2⟩ := get_at l n hl l.length k 0 (by omega) (by omega) hk
  simp only [bind_Get.f, api_Pair_31.f, smockingref12_Get.f]
  rw [Int.natCast_zero] at h1 h2
  rw [h1, h2]
  exact ⟨rfl, rfl⟩

/-! Sorted environments. -/
def Lt (a b : S45) : Prop := a.f0.toList < b.f0.toList
theorem Lt.trans {a b c : S45} (h : Lt a b) (k : Lt b c) : Lt a c := List.lt_trans h k
theorem Lt.irrefl (a : S45) : ¬ Lt a a := List.lt_irrefl _
def ltB (p x : S45) : Bool := decide (x.f0.toList < p.f0.toList)
def putL (R : List S45) (p : S45) : List S45 := R.takeWhile (ltB p) ++ p :: R.dropWhile (ltB p)
theorem putL_perm (R : List S45) (p : S45) : (putL R p).Perm (p :: R) := by
  unfold putL
  have := List.perm_middle (a := p) (l₁ := R.takeWhile (ltB p)) (l₂ := R.dropWhile (ltB p))
  rwa [List.takeWhile_append_dropWhile] at this
theorem drop_above (R : List S45) (p : S45) (hs : R.Pairwise Lt) (hn : ∀ x ∈ R, x.f0.toList ≠ p.f0.toList) : ∀ x ∈ R.dropWhile (ltB p), Lt p x := by
  induction R with
  | nil => intro x hx; simp at hx
  | cons y R ih =>
    intro x hx
    rw [List.dropWhile_cons] at hx
    by_cases h : ltB p y = true
    · rw [if_pos h] at hx
      exact ih (List.Pairwise.of_cons hs) (fun z hz => hn z (List.mem_cons_of_mem _ hz)) x hx
    · rw [if_neg h] at hx
      have hy : Lt p y := by
        have h1 : ¬ y.f0.toList < p.f0.toList := by simpa [ltB] using h
        exact Std.lt_of_le_of_ne (List.not_lt.1 h1) (Ne.symm (hn y List.mem_cons_self))
      rcases List.mem_cons.1 hx with rfl | hx
      · exact hy
      · exact hy.trans (List.rel_of_pairwise_cons hs hx)
theorem take_below (R : List S45) (p : S45) : ∀ x ∈ R.takeWhile (ltB p), Lt x p := by
  induction R with
  | nil => intro x hx; simp at hx
  | cons y R ih =>
    intro x hx
    rw [List.takeWhile_cons] at hx
    by_cases h : ltB p y = true
    · rw [if_pos h] at hx
      rcases List.mem_cons.1 hx with rfl | hx
      · simpa [ltB, Lt] using h
      · exact ih x hx
    · rw [if_neg h] at hx
      simp at hx
theorem putL_sorted (R : List S45) (p : S45) (hs : R.Pairwise Lt) (hn : ∀ x ∈ R, x.f0.toList ≠ p.f0.toList) : (putL R p).Pairwise Lt := by
  unfold putL
  have hd := drop_above R p hs hn
  have ht := take_below R p
  rw [List.pairwise_append]
  refine ⟨hs.sublist (List.takeWhile_sublist _), List.Pairwise.cons hd (hs.sublist (List.dropWhile_sublist _)), fun a ha b hb => ?_⟩
  rcases List.mem_cons.1 hb with rfl | hb
  · exact ht a ha
  · exact (ht a ha).trans (hd b hb)

theorem putL_at (R : List S45) (p : S45) (hR : R.length < 100000) : ∀ (d k i : Nat), i ≤ R.length → R.length - i = d → d < k →
    (∀ x ∈ R.take i, ltB p x = true) → smockingref12_put.l0 k R (i : Int) p.f0 p.f1 = some (putL R p) := by
  have split : ∀ i, (∀ x ∈ R.take i, ltB p x = true) → (∀ h : i < R.length, ltB p R[i] = false) → i ≤ R.length → R.take i = R.takeWhile (ltB p) ∧ R.drop i = R.dropWhile (ltB p) := by
    intro i h1 h2 hi
    have e : R = R.take i ++ R.drop i := (List.take_append_drop i R).symm
    have h3 : (R.drop i).takeWhile (ltB p) = [] ∧ (R.drop i).dropWhile (ltB p) = R.drop i := by
      by_cases hlt : i < R.length
      · rw [List.drop_eq_getElem_cons hlt, List.takeWhile_cons, List.dropWhile_cons, h2 hlt]
        exact ⟨rfl, rfl⟩
      · rw [List.drop_of_length_le (by omega)]
        exact ⟨rfl, rfl⟩
    constructor
    · conv => rhs; rw [e, List.takeWhile_append_of_pos h1, h3.1, List.append_nil]
    · conv => rhs; rw [e, List.dropWhile_append_of_pos h1, h3.2]
  intro d
  induction d with
  | zero =>
    intro k i hi hd hk ha
    obtain ⟨k, rfl⟩ : ∃ m, k = m + 1 := ⟨k - 1, by omega⟩
    obtain ⟨s1, s2⟩ := split i ha (fun h => absurd h (by omega)) hi
    have c1 : ¬ ((i : Int) < (R.length : Int)) := by omega
    have c2 : (0 : Int) ≤ (i : Int) := by omega
    have c3 : (i : Int) ≤ (R.length : Int) := by omega
    simp only [smockingref12_put.l0]
    rw [if_neg c1, Option.bind_some, if_pos c2, if_pos c3, Int.toNat_natCast, s1, s2, Option.bind_some]
    have hl1 : (R.takeWhile (ltB p)).length ≤ R.length := (List.takeWhile_sublist _).length_le
    have hl2 : (R.dropWhile (ltB p)).length ≤ R.length := (List.dropWhile_sublist _).length_le
    simp only [List.nil_append, List.length_nil]
    rw [if_pos (by omega), Option.bind_some, if_pos (by omega), Option.bind_some, Option.bind_some, if_pos (by simp; omega)]
    simp [putL]
  | succ d ih =>
    intro k i hi hd hk ha
    obtain ⟨k, rfl⟩ : ∃ m, k = m + 1 := ⟨k - 1, by omega⟩
    have hlt : i < R.length := by omega
    have c1 : (i : Int) < (R.length : Int) := by omega
    have c2 : (0 : Int) ≤ (i : Int) := by omega
    have c3 : (i : Int) ≤ (R.length : Int) := by omega
    simp only [smockingref12_put.l0]
    rw [if_pos c1, if_pos c2, rd_at R i hlt]
    by_cases hb : Op.bytesLess (R[i].f0).toList p.f0.toList = true
    · rw [if_pos hb, nx i (by omega)]
      have hb' : ltB p R[i] = true := by
        rw [Go.Proofs.bytesLess_eq] at hb
        simpa [ltB] using hb
      have ha' : ∀ x ∈ R.take (i + 1), ltB p x = true := by
        intro x hx
        rw [List.take_succ_eq_append_getElem hlt] at hx
        rcases List.mem_append.1 hx with hx | hx
        · exact ha x hx
        · rw [List.mem_singleton.1 hx]; exact hb'
      exact ih k (i + 1) (by omega) (by omega) (by omega) ha'
    · have hb2 : ltB p R[i] = false := by
        rw [Go.Proofs.bytesLess_eq] at hb
        simpa [ltB] using hb
      obtain ⟨s1, s2⟩ := split i ha (fun _ => hb2) hi
      have hl1 : (R.takeWhile (ltB p)).length ≤ R.length := (List.takeWhile_sublist _).length_le
      have hl2 : (R.dropWhile (ltB p)).length ≤ R.length := (List.dropWhile_sublist _).length_le
      rw [if_neg hb, Option.bind_some, if_pos c3, Int.toNat_natCast, s1, s2, Option.bind_some]
      simp only [List.nil_append, List.length_nil]
      rw [if_pos (by omega), Option.bind_some, if_pos (by omega), Option.bind_some, Option.bind_some, if_pos (by simp; omega)]
      simp [putL]
theorem put_ (R : List S45) (p : S45) (hR : R.length < 100000) (k : Nat) (hk : R.length < k) : smockingref12_put.f k R p.f0 p.f1 = some (putL R p) := by
  have := putL_at R p hR R.length k 0 (by omega) (by omega) hk (by simp)
  simpa [smockingref12_put.f] using this

/-! A value does not hang on the order, where names are apart. -/
theorem getL_some {l : List S45} {n v : ByteArray} : getL l n = some v → ∃ x ∈ l, x.f0.toList = n.toList ∧ x.f1 = v := by
  induction l with
  | nil => intro h; simp [getL] at h
  | cons y l ih =>
    intro h
    unfold getL at h
    by_cases e : y.f0.toList = n.toList
    · rw [if_pos e] at h
      exact ⟨y, List.mem_cons_self, e, by injection h⟩
    · rw [if_neg e] at h
      obtain ⟨x, hx, h1⟩ := ih h
      exact ⟨x, List.mem_cons_of_mem _ hx, h1⟩
theorem getL_none {l : List S45} {n : ByteArray} : getL l n = none → ∀ x ∈ l, x.f0.toList ≠ n.toList := by
  induction l with
  | nil => intro _ x hx; simp at hx
  | cons y l ih =>
    intro h x hx
    unfold getL at h
    by_cases e : y.f0.toList = n.toList
    · rw [if_pos e] at h; cases h
    · rw [if_neg e] at h
      rcases List.mem_cons.1 hx with rfl | hx
      · exact e
      · exact ih h x hx
theorem getL_perm {P R : List S45} (hp : R.Perm P) (hs : R.Pairwise Lt) (n : ByteArray) : getL P n = getL R n := by
  have apart : ∀ x ∈ R, ∀ y ∈ R, x.f0.toList = y.f0.toList → x = y := by
    intro x hx y hy e
    obtain ⟨i, hi, rfl⟩ := List.getElem_of_mem hx
    obtain ⟨j, hj, rfl⟩ := List.getElem_of_mem hy
    rcases Nat.lt_trichotomy i j with h | h | h
    · have := List.pairwise_iff_getElem.1 hs i j hi hj h
      unfold Lt at this
      rw [e] at this
      exact absurd this (List.lt_irrefl _)
    · subst h; rfl
    · have := List.pairwise_iff_getElem.1 hs j i hj hi h
      unfold Lt at this
      rw [e] at this
      exact absurd this (List.lt_irrefl _)
  cases h1 : getL P n with
  | none =>
    cases h2 : getL R n with
    | none => rfl
    | some v =>
      obtain ⟨x, hx, e, _⟩ := getL_some h2
      exact absurd e (getL_none h1 x (hp.mem_iff.1 hx))
  | some v =>
    obtain ⟨x, hx, e, ev⟩ := getL_some h1
    cases h2 : getL R n with
    | none => exact absurd e (getL_none h2 x (hp.mem_iff.2 hx))
    | some u =>
      obtain ⟨y, hy, e2, eu⟩ := getL_some h2
      have := apart x (hp.mem_iff.2 hx) y hy (e.trans e2.symm)
      rw [← ev, ← eu, this]

theorem sort_is (P R : List S45) (hp : R.Perm P) (hs : R.Pairwise Lt) (hl : P.length ≤ 100000) : api_Pair_27.f P = some R := by
  unfold api_Pair_27.f
  rw [if_pos (by omega)]
  congr 1
  have hq := Go.Sort.pdq_sorts (Go.Proofs.ltOf fun x y : S45 => cmpB x.f0 y.f0) swo45 P.toArray 0 P.length (Lib.bitLen P.length) true true (Nat.zero_le _) (by simp) (Or.inl rfl)
  generalize Go.Sort.pdq (Go.Proofs.ltOf fun x y : S45 => cmpB x.f0 y.f0) P.toArray 0 P.length (Lib.bitLen P.length) true true = Q at hq
  obtain ⟨⟨hsz, _, hperm⟩, hsort⟩ := hq
  have hsz' : Q.size = P.length := by simpa using hsz
  have hperm' : Q.toList.Perm P := by
    have e1 : Q.extract 0 P.length = Q := by rw [← hsz']; simp
    have e2 : P.toArray.extract 0 P.length = P.toArray := by simp
    rw [e1, e2] at hperm
    simpa using hperm
  have hpq : Q.toList.Perm R := hperm'.trans hp.symm
  refine List.Perm.eq_of_pairwise (le := fun a b => ¬ Lt b a) ?_ ?_ ?_ hpq
  · intro a b ha hb h1 h2
    have ha' := hpq.mem_iff.1 ha
    obtain ⟨i, hi, rfl⟩ := List.getElem_of_mem ha'
    obtain ⟨j, hj, rfl⟩ := List.getElem_of_mem hb
    rcases Nat.lt_trichotomy i j with h | h | h
    · exact absurd (List.pairwise_iff_getElem.1 hs i j hi hj h) h2
    · subst h; rfl
    · exact absurd (List.pairwise_iff_getElem.1 hs j i hj hi h) h1
  · rw [List.pairwise_iff_getElem]
    intro i j hi hj hij
    have hj' : j < Q.size := by simpa using hj
    have hi' : i < Q.size := by simpa using hi
    have := hsort i j (Nat.zero_le _) hij (by omega)
    rw [getElem!_pos Q j hj', getElem!_pos Q i hi', lt45] at this
    simpa [Lt] using this
  · exact List.Pairwise.imp (fun {a b} (h : Lt a b) (hba : Lt b a) => Lt.irrefl a (h.trans hba)) hs

/-- The two joins go side by side. -/
theorem joins (c : List S45) (hc : c.length ≤ 1000) : ∀ (d i : Nat) (P R : List S45), i ≤ c.length → c.length - i = d → P.length ≤ i → R.Perm P → R.Pairwise Lt →
    ∃ r b, ∀ k, 2 * d + 1100 < k → bind_Join.l0 k P c (c.length : Int) (i : Int) = some (r, b) ∧ smockingref12_Join.l0 k R c (i : Int) = some (r, b) := by
  intro d
  induction d with
  | zero =>
    intro i P R hi hd hP hp hs
    refine ⟨R, true, fun k hk => ?_⟩
    obtain ⟨k, rfl⟩ : ∃ m, k = m + 1 := ⟨k - 1, by omega⟩
    have c1 : ¬ ((i : Int) < (c.length : Int)) := by omega
    simp only [bind_Join.l0, smockingref12_Join.l0]
    rw [if_neg c1, if_neg c1, sort_is P R hp hs (by omega)]
    exact ⟨rfl, rfl⟩
  | succ d ih =>
    intro i P R hi hd hP hp hs
    have hlt : i < c.length := by omega
    have c1 : (i : Int) < (c.length : Int) := by omega
    have c2 : (0 : Int) ≤ (i : Int) := by omega
    have hR : R.length = P.length := hp.length_eq
    have hg := getL_perm hp hs c[i].f0
    cases h1 : getL R c[i].f0 with
    | some v =>
      rw [h1] at hg
      by_cases hv : v.toList = c[i].f1.toList
      · obtain ⟨r, b, hrb⟩ := ih (i + 1) P R (by omega) (by omega) (by omega) hp hs
        refine ⟨r, b, fun k hk => ?_⟩
        obtain ⟨k, rfl⟩ : ∃ m, k = m + 2 := ⟨k - 2, by omega⟩
        obtain ⟨k1, k2⟩ := hrb k (by omega)
        have g1 := (get_ P c[i].f0 (by omega) (k + 1) (by omega)).1
        have g2 := (get_ R c[i].f0 (by omega) (k + 1) (by omega)).2
        rw [hg] at g1
        rw [h1] at g2
        have hne : (v.toList != c[i].f1.toList) = false := by simp [hv]
        rw [show k + 2 = (k + 1) + 1 from rfl]
        simp only [bind_Join.l0, smockingref12_Join.l0]
        rw [if_pos c1, if_pos c2, if_pos c1, if_pos c1, if_pos c2, rd_at c i hlt, g1, g2]
        simp only [told, Option.bind_some, if_true, hne, bind_Join.j1, smockingref12_Join.j1, Bool.false_eq_true, if_false]
        rw [nx i (by omega)]
        exact ⟨k1, k2⟩
      · refine ⟨[], false, fun k hk => ?_⟩
        obtain ⟨k, rfl⟩ : ∃ m, k = m + 2 := ⟨k - 2, by omega⟩
        have g1 := (get_ P c[i].f0 (by omega) (k + 1) (by omega)).1
        have g2 := (get_ R c[i].f0 (by omega) (k + 1) (by omega)).2
        rw [hg] at g1
        rw [h1] at g2
        have hne : (v.toList != c[i].f1.toList) = true := by simp [hv]
        rw [show k + 2 = (k + 1) + 1 from rfl]
        simp only [bind_Join.l0, smockingref12_Join.l0]
        rw [if_pos c1, if_pos c2, if_pos c1, if_pos c1, if_pos c2, rd_at c i hlt, g1, g2]
        simp only [told, Option.bind_some, if_true, hne, bind_Join.j1, smockingref12_Join.j1, and_self]
    | none =>
      rw [h1] at hg
      have hn := getL_none h1
      have hp' : (putL R c[i]).Perm (P ++ [c[i]]) := (putL_perm R c[i]).trans ((hp.cons _).trans (List.perm_append_comm (l₁ := [c[i]]) (l₂ := P)))
      obtain ⟨r, b, hrb⟩ := ih (i + 1) (P ++ [c[i]]) (putL R c[i]) (by omega) (by omega) (by simp; omega) hp' (putL_sorted R c[i] hs hn)
      refine ⟨r, b, fun k hk => ?_⟩
      obtain ⟨k, rfl⟩ : ∃ m, k = m + 2 := ⟨k - 2, by omega⟩
      obtain ⟨k1, k2⟩ := hrb k (by omega)
      have g1 := (get_ P c[i].f0 (by omega) (k + 1) (by omega)).1
      have g2 := (get_ R c[i].f0 (by omega) (k + 1) (by omega)).2
      rw [hg] at g1
      rw [h1] at g2
      have hput := put_ R c[i] (by omega) k (by omega)
      have c3 : P.length < 4398046511104 := by omega
      rw [show k + 2 = (k + 1) + 1 from rfl]
      simp only [bind_Join.l0, smockingref12_Join.l0]
      rw [if_pos c1, if_pos c2, if_pos c1, if_pos c1, if_pos c2, rd_at c i hlt, g1, g2]
      simp only [told, Option.bind_some, bind_Join.j1, smockingref12_Join.j1, Bool.false_eq_true, if_false]
      rw [if_pos c3, if_pos c2, if_pos c1, rd_at c i hlt, hput, Option.bind_some, nx i (by omega)]
      exact ⟨k1, k2⟩

theorem concat_ (a b : List S45) (ha : a.length ≤ 100) (hb : b.length ≤ 100) (k : Nat) (hk : 20 < k) : api_Pair_26.f k [a, b] = some (a ++ b) := by
  obtain ⟨k, rfl⟩ : ∃ m, k = m + 6 := ⟨k - 6, by omega⟩
  have w1 : wrap64 (0 + (a.length : Int)) = (a.length : Int) := by unfold wrap64; omega
  have w2 : wrap64 ((a.length : Int) + (b.length : Int)) = ((a.length + b.length : Nat) : Int) := by unfold wrap64; omega
  have w3 : wrap64 ((0 : Int) + 1) = 1 := by simp [wrap64]
  have w4 : wrap64 ((1 : Int) + 1) = 2 := by simp [wrap64]
  have r0 : rd_L3 [a, b] 0 = a := rfl
  have r1 : rd_L3 [a, b] 1 = b := rfl
  have hG : api_Pair_34.f ((a.length + b.length : Nat) : Int) = some [] := by
    unfold api_Pair_34.f
    rw [if_pos ⟨by omega, by omega⟩]
  have n1 : ¬ ((a.length : Int) < 0) := by omega
  have n2 : ¬ (((a.length + b.length : Nat) : Int) < 0) := by omega
  have l1 : ([] : List S45).length + a.length < 4398046511104 := by simp; omega
  have l2 : a.length + b.length < 4398046511104 := by omega
  have len2 : (([a, b] : List (List S45)).length : Int) = 2 := rfl
  simp only [api_Pair_26.f, api_Pair_26.l0, len2, r0, w1, w3, w4]
  rw [if_pos (by simp), if_pos (by simp), if_pos (by simp), if_neg n1, if_pos (by simp), if_pos (by simp), if_pos (by simp), r1, w2, if_neg n2, if_neg (by simp), hG]
  simp only [Option.bind_some, api_Pair_26.l1, r0, r1, w3, w4]
  rw [if_pos (by simp), if_pos (by simp), if_pos (by simp), if_pos l1, if_pos (by simp), if_pos (by simp), if_pos (by simp), List.nil_append, if_pos l2, if_neg (by simp)]

theorem join_same (a b : List S45) (ha : a.length ≤ 100) (hb : b.length ≤ 100) : ∃ r q, ∀ k, 2000 < k → bind_Join.f k a b = some (r, q) ∧ smockingref12_Join.f k a b = some (r, q) := by
  obtain ⟨r, q, h⟩ := joins (a ++ b) (by simp; omega) (a ++ b).length 0 [] [] (by omega) (by omega) (by simp) (List.Perm.refl _) List.Pairwise.nil
  refine ⟨r, q, fun k hk => ?_⟩
  have hl : (a ++ b).length ≤ 200 := by simp; omega
  obtain ⟨h1, h2⟩ := h k (by omega)
  have l1 : ([] : List S45).length + a.length < 4398046511104 := by simp; omega
  have l2 : ([] ++ a).length + b.length < 4398046511104 := by simp; omega
  simp only [bind_Join.f, smockingref12_Join.f, concat_ a b ha hb k (by omega), Option.bind_some]
  rw [if_pos l1, if_pos l2, List.nil_append]
  rw [Int.natCast_zero] at h1 h2
  exact ⟨h1, h2⟩

theorem eq_at (l : List S45) (hl : l.length < 100000) : ∀ (d i k : Nat), i ≤ l.length → l.length - i = d → d < k → smockingref00_EqPairs.l0 k l l (i : Int) = some true := by
  intro d
  induction d with
  | zero =>
    intro i k hi hd hk
    obtain ⟨k, rfl⟩ : ∃ m, k = m + 1 := ⟨k - 1, by omega⟩
    have c1 : ¬ ((i : Int) < (l.length : Int)) := by omega
    simp only [smockingref00_EqPairs.l0]
    rw [if_neg c1]
  | succ d ih =>
    intro i k hi hd hk
    obtain ⟨k, rfl⟩ : ∃ m, k = m + 1 := ⟨k - 1, by omega⟩
    have c1 : (i : Int) < (l.length : Int) := by omega
    have c2 : (0 : Int) ≤ (i : Int) := by omega
    simp only [smockingref00_EqPairs.l0]
    rw [if_pos c1, if_pos c2, if_pos c1, nx i (by omega), if_neg (by simp)]
    exact ih (i + 1) k (by omega) (by omega) (by omega)
theorem eq_ (l : List S45) (hl : l.length < 100000) (k : Nat) (hk : l.length < k) : smockingref00_EqPairs.f k l l = some true := by
  simp only [smockingref00_EqPairs.f, if_true]
  exact eq_at l hl l.length 0 k (by omega) (by omega) hk

theorem ref_end (c R : List S45) (k : Nat) (i : Nat) (hi : c.length = i) : smockingref12_Join.l0 (k + 1) R c (i : Int) = some (R, true) := by
  have c1 : ¬ ((i : Int) < (c.length : Int)) := by omega
  simp only [smockingref12_Join.l0]
  rw [if_neg c1]
theorem ref_new (c R : List S45) (k i : Nat) (hlt : i < c.length) (hc : c.length ≤ 1000) (hR : R.length ≤ 1000) (hk : 1000 < k) (h : getL R c[i].f0 = none) : smockingref12_Join.l0 (k + 2) R c (i : Int) = smockingref12_Join.l0 k (putL R c[i]) c ((i + 1 : Nat) : Int) := by
  have c1 : (i : Int) < (c.length : Int) := by omega
  have c2 : (0 : Int) ≤ (i : Int) := by omega
  have g2 := (get_ R c[i].f0 (by omega) (k + 1) (by omega)).2
  rw [show k + 2 = (k + 1) + 1 from rfl]
  simp only [smockingref12_Join.l0]
  rw [if_pos c1, if_pos c2, rd_at c i hlt, g2, Option.bind_some, h]
  simp only [told, Bool.false_eq_true, if_false, smockingref12_Join.j1]
  rw [if_pos c2, if_pos c1, rd_at c i hlt, put_ R c[i] (by omega) k (by omega), Option.bind_some, nx i (by omega)]
theorem ref_ne (c R : List S45) (k i : Nat) (v : ByteArray) (hlt : i < c.length) (hc : c.length ≤ 1000) (hR : R.length ≤ 1000) (hk : 1000 < k) (h : getL R c[i].f0 = some v) (hv : (v.toList != c[i].f1.toList) = true) : smockingref12_Join.l0 (k + 2) R c (i : Int) = some ([], false) := by
  have c1 : (i : Int) < (c.length : Int) := by omega
  have c2 : (0 : Int) ≤ (i : Int) := by omega
  have g2 := (get_ R c[i].f0 (by omega) (k + 1) (by omega)).2
  rw [show k + 2 = (k + 1) + 1 from rfl]
  simp only [smockingref12_Join.l0]
  rw [if_pos c1, if_pos c2, rd_at c i hlt, g2, Option.bind_some, h]
  simp only [told, if_true, smockingref12_Join.j1, hv]
theorem ref_f (k : Nat) (a b : List S45) (ha : a.length ≤ 100) (hb : b.length ≤ 100) : smockingref12_Join.f k a b = smockingref12_Join.l0 k [] (a ++ b) 0 := by
  have l1 : ([] : List S45).length + a.length < 4398046511104 := by simp; omega
  have l2 : ([] ++ a).length + b.length < 4398046511104 := by simp; omega
  simp only [smockingref12_Join.f, Option.bind_some]
  rw [if_pos l1, if_pos l2, List.nil_append]

def A1 : S45 := ⟨⟨#[97]⟩, ⟨#[49]⟩⟩
def A2 : S45 := ⟨⟨#[97]⟩, ⟨#[50]⟩⟩
def B2 : S45 := ⟨⟨#[98]⟩, ⟨#[50]⟩⟩
theorem awake_ (k : Nat) (hk : 2000 < k) : smockinglaw12_awake.f k = some true := by
  obtain ⟨r1, q1, h1⟩ := join_same [B2] [A1] (by simp) (by simp)
  obtain ⟨r2, q2, h2⟩ := join_same [A2] [A1] (by simp) (by simp)
  have g1 : getL (putL [] B2) A1.f0 = none := by simp [putL, getL, A1, B2, ByteArray.toList_eq]
  have g2 : getL (putL [] A2) A1.f0 = some A2.f1 := by simp [putL, getL, A1, A2, ByteArray.toList_eq]
  have p1 : putL (putL [] B2) A1 = [A1, B2] := by
    have : ltB A1 B2 = false := by simp [ltB, A1, B2, ByteArray.toList_eq]; decide
    simp [putL, this]
  have e1 : smockingref12_Join.f 2005 [B2] [A1] = some ([A1, B2], true) := by
    rw [ref_f _ _ _ (by simp) (by simp)]
    have s1 := ref_new [B2, A1] [] 2003 0 (by simp) (by simp) (by simp) (by omega) rfl
    have s2 := ref_new [B2, A1] (putL [] B2) 2001 1 (by simp) (by simp) (by simp [putL]) (by omega) g1
    have s3 := ref_end [B2, A1] (putL (putL [] B2) A1) 2000 2 rfl
    rw [p1] at s3
    exact s1.trans (s2.trans ((congrArg (fun l => smockingref12_Join.l0 2001 l [B2, A1] ((2 : Nat) : Int)) p1).trans s3))
  have e2 : smockingref12_Join.f 2005 [A2] [A1] = some ([], false) := by
    rw [ref_f _ _ _ (by simp) (by simp)]
    have s1 := ref_new [A2, A1] [] 2003 0 (by simp) (by simp) (by simp) (by omega) rfl
    have s2 := ref_ne [A2, A1] (putL [] A2) 2001 1 A2.f1 (by simp) (by simp) (by simp [putL]) (by omega) g2 (by simp [A1, A2, ByteArray.toList_eq])
    exact s1.trans s2
  have f1 := (h1 2005 (by omega)).2.symm.trans e1
  have f2 := (h2 2005 (by omega)).2.symm.trans e2
  simp only [Option.some.injEq, Prod.mk.injEq] at f1 f2
  obtain ⟨rfl, rfl⟩ := f1
  obtain ⟨rfl, rfl⟩ := f2
  have k1 := (h1 k hk).1
  have k2 := (h2 k hk).1
  unfold smockinglaw12_awake.f
  have k1' : bind_Join.f k (([(⟨(⟨#[98]⟩ : ByteArray), (⟨#[50]⟩ : ByteArray)⟩ : S45)] : List (S45))) (([(⟨(⟨#[97]⟩ : ByteArray), (⟨#[49]⟩ : ByteArray)⟩ : S45)] : List (S45))) = some ([A1, B2], true) := k1
  have k2' : bind_Join.f k (([(⟨(⟨#[97]⟩ : ByteArray), (⟨#[50]⟩ : ByteArray)⟩ : S45)] : List (S45))) (([(⟨(⟨#[97]⟩ : ByteArray), (⟨#[49]⟩ : ByteArray)⟩ : S45)] : List (S45))) = some ([], false) := k2
  rw [k1', k2', Option.bind_some, Option.bind_some]
  simp [rd_T45, A1, ByteArray.toList_eq]

theorem joins_len (c : List S45) (hc : c.length ≤ 1000) : ∀ (d i k : Nat) (R r : List S45) (q : Bool), i ≤ c.length → c.length - i = d → R.length ≤ i → smockingref12_Join.l0 k R c (i : Int) = some (r, q) → 2 * d + 1100 < k → r.length ≤ 1000 := by
  intro d
  induction d with
  | zero =>
    intro i k R r q hi hd hR h hk
    obtain ⟨k, rfl⟩ : ∃ m, k = m + 1 := ⟨k - 1, by omega⟩
    have c1 : ¬ ((i : Int) < (c.length : Int)) := by omega
    simp only [smockingref12_Join.l0] at h
    rw [if_neg c1] at h
    simp only [Option.some.injEq, Prod.mk.injEq] at h
    obtain ⟨rfl, _⟩ := h
    omega
  | succ d ih =>
    intro i k R r q hi hd hR h hk
    obtain ⟨k, rfl⟩ : ∃ m, k = m + 2 := ⟨k - 2, by omega⟩
    have hlt : i < c.length := by omega
    have c1 : (i : Int) < (c.length : Int) := by omega
    have c2 : (0 : Int) ≤ (i : Int) := by omega
    have g2 := (get_ R c[i].f0 (by omega) (k + 1) (by omega)).2
    rw [show k + 2 = (k + 1) + 1 from rfl] at h
    simp only [smockingref12_Join.l0] at h
    rw [if_pos c1, if_pos c2, rd_at c i hlt, g2, Option.bind_some] at h
    cases hg : getL R c[i].f0 with
    | none =>
      rw [hg] at h
      simp only [told, Bool.false_eq_true, if_false, smockingref12_Join.j1] at h
      rw [if_pos c2, if_pos c1, rd_at c i hlt, put_ R c[i] (by omega) k (by omega), Option.bind_some, nx i (by omega)] at h
      refine ih (i + 1) k _ r q (by omega) (by omega) ?_ h (by omega)
      have := (putL_perm R c[i]).length_eq
      simp at this
      omega
    | some v =>
      rw [hg] at h
      simp only [told, if_true, smockingref12_Join.j1] at h
      by_cases hv : (v.toList != c[i].f1.toList) = true
      · rw [if_pos hv] at h
        simp only [Option.some.injEq, Prod.mk.injEq] at h
        obtain ⟨rfl, _⟩ := h
        simp
      · rw [if_neg hv, nx i (by omega)] at h
        exact ih (i + 1) k R r q (by omega) (by omega) (by omega) h (by omega)

theorem law (a b : List S45) (n : ByteArray) : smockinglaw12_BindJoins.f 3001 a b n = some true := by
  simp only [smockinglaw12_BindJoins.f]
  by_cases h1 : (a.length : Int) > 100
  · rw [if_pos h1]
    simp only [smockinglaw12_BindJoins.j0, if_true, awake_ 3000 (by omega), Option.bind_some]
  · rw [if_neg h1]
    by_cases h2 : (b.length : Int) > 100
    · simp only [h2, decide_true, smockinglaw12_BindJoins.j0, if_true, awake_ 3000 (by omega), Option.bind_some]
    · obtain ⟨r, q, h⟩ := join_same a b (by omega) (by omega)
      obtain ⟨j1, j2⟩ := h 3000 (by omega)
      have hr : r.length ≤ 1000 := by
        have l1 : ([] : List S45).length + a.length < 4398046511104 := by simp; omega
        have l2 : ([] ++ a).length + b.length < 4398046511104 := by simp; omega
        have j3 := j2
        simp only [smockingref12_Join.f, Option.bind_some] at j3
        rw [if_pos l1, if_pos l2, List.nil_append] at j3
        exact joins_len (a ++ b) (by simp; omega) (a ++ b).length 0 3000 [] r q (by omega) (by omega) (by simp) (by rw [Int.natCast_zero]; exact j3) (by simp; omega)
      obtain ⟨g1, g2⟩ := get_ a n (by omega) 3000 (by omega)
      simp only [h2, decide_false, smockinglaw12_BindJoins.j0, Bool.false_eq_true, if_false, j1, j2, g1, g2, Option.bind_some, eq_ r (by omega) 3000 (by omega), if_true, beq_self_eq_true, awake_ 3000 (by omega)]
end Go.Proofs.Ytkcjigghmihdcaa.JoinA
