/- HeadOnce: for every list of files, every name and every list of places the law answers true, and all read behind the call as before; the listed tables are tied to the text of the program; no condition. Here: parts of its proof. -/
import Derived.Test.YtolaiebjmhieiaaGreatDoorM09
import Derived.Test.YtolaiebjmhieiaaGreatDoorM10
import Derived.Laws.EntriesVeiled
import Derived.BigRegion
import Derived.Lib.PathFns
import Derived.Shelf.Strings.Trim
import Derived.Shelf.Small.Utf8
import Derived.Shelf.Small.Bits
import Derived.Shelf.Small.Strs
import Derived.Shelf.Utf8.RuneCount
import Derived.Shelf.Strconv.Itoa0
import Derived.Shelf.Strings.Search1
import Derived.Shelf.Strings.Search2
import Derived.Shelf.Strings.Search3
import Derived.Shelf.Strings.Count
import Derived.Shelf.LaysM
import Derived.Shelf.Strings.Shaped
import Derived.Shelf.Strings.Split
import Derived.Shelf.Strings.Fields
import Derived.Shelf.Strings.SplitShaped
import Derived.Shelf.Strings.Runes
import Derived.Shelf.Strings.RuneCount
import Derived.Shelf.Strings.AsciiSet
import Derived.Shelf.Strings.Explode
import Derived.Ground.Names2Prog
import Derived.Shelf.Slices.ReverseS
import Derived.Shelf.Slices.Clone
import Derived.Shelf.Slices.Cells
import Derived.Test.YtolaiebjmhieiaaGreatDoorProg
import Derived.Ground.NamesProg
import Derived.Lib.AppendIntMem
section
namespace Go.Proofs.YtolaiebjmhieiaaGreatDoor.OScan
open Go.RowKit Go.Proofs.YtolaiebjmhieiaaGreatDoorW.PrintWords Go.Proofs.YtolaiebjmhieiaaGreatDoorW.PrintLast Go.Proofs.YtolaiebjmhieiaaGreatDoorW.PrintMore
attribute [local go_sem] max2_int min2_int max_two min_two max_three min_three max_four min_four
set_option linter.unusedVariables false
set_option linter.unusedSimpArgs false
def LeSzN (w : World) (n : Nat) : Prop := w.heap.size ≤ n
set_option maxHeartbeats 8000000 in
set_option maxRecDepth 100000 in
theorem tok_none (k : Nat) (g : Nat) (s0_0 : ByteArray) (s0_1 : Int) (s0_2 : Value) (s0_3 : List ByteArray) (s0_4 : Bool) (b r2 : ByteArray) (r3 : Int) (r4 : Value) (r5 : Bool) (w0 w : World) (hI : IsS125 w0 w g s0_0 s0_1 s0_2 s0_3 s0_4) (hB : Below w0.heap.size w0 w) (h : lex_scanner_before.f k s0_0 s0_1 s0_2 s0_3 s0_4 = some (b, r2, r3, r4, r5)) (hG_ : Glob w0) (he : r3 = (r2.size : Int)) :
    Calls Tryz.prog 66 #[.pointer (some ⟨g, 0, none⟩)] w fun e w' => e = .returned (.agg #[.int .i64 0, .string b, .string ⟨#[]⟩, .int .i64 r3]) ∧ IsS125 w0 w' g r2 r3 r4 s0_3 r5 ∧ Below w0.heap.size w0 w' ∧ KeepBut w w' g none := by
  have he' := Aside0.mk he
  clear he
  have HI0 := Aside0.mk hI
  have HK := Aside0.mk (KeepBut.refl w g none)
  have HB := Aside0.mk hB
  go_enter Tryz.func66, Tryz.ntmps66
  have hnel : g ≠ w.heap.size := by obtain ⟨A3, c3, hb, _⟩ := hI; intro hx; subst hx; simp at hb
  go_wp2_with (go_at_call 118; go_loud (refine (lex_scanner_before.calls k g s0_0 s0_1 s0_2 s0_3 s0_4 b r2 r3 r4 r5 w0 _ (HI0.out.alloc _) (below_alloc HB.out _) h hG_).mono ?_; rintro e w5 ⟨rfl, hi, hb, hk⟩; have hi' := Aside0.mk hi; obtain ⟨AS, cS, HG, hg, HS⟩ := hi; have hc1 := cellS125_1 HG))
  obtain ⟨w6, hw6⟩ : ∃ w6, w5.alloc (Obj.cells #[.int .i64 0, .string b, .string ⟨#[]⟩, .int .i64 r3] 95) = w6 := ⟨_, rfl⟩
  rw [hw6]
  have hI6 : IsS125 w0 w6 g r2 r3 r4 s0_3 r5 := hw6 ▸ hi'.out.alloc _
  have hR5 := (hk.2 w.heap.size (by simp) (Ne.symm hnel) (by simp)).trans (blk_new w _)
  have hlt : w.heap.size < w5.heap.size := by have h1 := hk.1; simp at h1; omega
  have hR6 : w6.heap[w.heap.size]? = some (Obj.cells #[.int .i64 0, .string ⟨#[]⟩, .string ⟨#[]⟩, .int .i64 0] 95) := by rw [← hw6]; exact (Below.heap_alloc w5 _ _ hlt).trans hR5
  have hT6 : w6.heap[w5.heap.size]? = some (Obj.cells #[.int .i64 0, .string b, .string ⟨#[]⟩, .int .i64 r3] 95) := by rw [← hw6]; exact blk_new w5 _
  have hB6 : Below w0.heap.size w0 w6 := hw6 ▸ below_alloc hb _
  have hne1 : g ≠ w5.heap.size := by intro hx; subst hx; simp at HG
  have hTR : w5.heap.size ≠ w.heap.size := by omega
  have hLR : LeSzN w0 w.heap.size := HB.out.size
  have hLR' : LeSzN w w.heap.size := Nat.le_refl _
  have hLT : LeSzN w w5.heap.size := Nat.le_of_lt hlt
  have hLT0 : LeSzN w0 w5.heap.size := hb.size
  have hI6' := Aside0.mk hI6
  have hK6 : Aside0 (KeepBut w w6 g none) := ⟨hw6 ▸ keep_alloc (KeepBut.trans (keep_alloc (KeepBut.refl w g none) _) hk (.inl rfl)) _⟩
  clear HG hc1
  obtain ⟨AS6, cS6, HG, hg6, HS6⟩ := hI6
  have hc0 := cellS125_0 HG
  have hc1 := cellS125_1 HG
  have hc4 := cellS125_4 HG
  have hf0 := blk_frozen HG 0
  have hf1 := blk_frozen HG 1
  have hdec : (r3 == (r2.size : Int)) = true := (by simpa using he'.out)
  have hdec2 : decide (r3 = (r2.size : Int)) = true := (by simpa using he'.out)
  have ht0 : w6.cell? ⟨w5.heap.size, 0, none⟩ = some (.int .i64 0) := (blk_cell hT6 0).trans rfl
  have ht1 : w6.cell? ⟨w5.heap.size, 1, none⟩ = some (.string b) := (blk_cell hT6 1).trans rfl
  have ht2 : w6.cell? ⟨w5.heap.size, 2, none⟩ = some (.string ⟨#[]⟩) := (blk_cell hT6 2).trans rfl
  have ht3 : w6.cell? ⟨w5.heap.size, 3, none⟩ = some (.int .i64 r3) := (blk_cell hT6 3).trans rfl
  have hr0 : w6.cell? ⟨w.heap.size, 0, none⟩ = some (.int .i64 0) := (blk_cell hR6 0).trans rfl
  have hr1 : w6.cell? ⟨w.heap.size, 1, none⟩ = some (.string ⟨#[]⟩) := (blk_cell hR6 1).trans rfl
  have hr2 : w6.cell? ⟨w.heap.size, 2, none⟩ = some (.string ⟨#[]⟩) := (blk_cell hR6 2).trans rfl
  have hr3 : w6.cell? ⟨w.heap.size, 3, none⟩ = some (.int .i64 0) := (blk_cell hR6 3).trans rfl
  have hrf0 := blk_frozen hR6 0
  have hrf1 := blk_frozen hR6 1
  have hrf2 := blk_frozen hR6 2
  have hrf3 := blk_frozen hR6 3
  have hft0 := blk_frozen hT6 0
  generalize w5.heap.size = T at *
  generalize w.heap.size = R at *
  repeat (go_quiet (fail); try go_wp2)
  have hR11 := blk_set (blk_set (blk_set (blk_set (show (w6.drewN nq).heap[R]? = _ from hR6) 0 (.int .i64 0)) 1 (.string b)) 2 (.string ⟨#[]⟩)) 3 (.int .i64 r3)
  have hv0 := blk_cell hR11 0
  have hv1 := blk_cell hR11 1
  have hv2 := blk_cell hR11 2
  have hv3 := blk_cell hR11 3
  simp at hv0 hv1 hv2 hv3
  (try simp only [Exit.inBlock, Exit.then])
  refine bodyPost_ret (v := .agg #[.int .i64 0, .string b, .string ⟨#[]⟩, .int .i64 r3]) ?res rfl ⟨rfl, ?i1, ?i2, ?i3⟩
  case res =>
    clear hR11
    unfold results
    rw [show Tryz.f66.results = #[.cell 2 95] from rfl]
    go_simp
  case i1 => exact (((((hI6'.out.drewN nq).far (p := ⟨R, 0, none⟩) hnel _).far (p := ⟨R, 1, none⟩) hnel _).far (p := ⟨R, 2, none⟩) hnel _).far (p := ⟨R, 3, none⟩) hnel _)
  case i2 => exact below_set (below_set (below_set (below_set (pw_below_drewN hB6 nq) hLR) hLR) hLR) hLR
  case i3 => exact keep_far (p := ⟨R, 3, none⟩) (keep_far (p := ⟨R, 2, none⟩) (keep_far (p := ⟨R, 1, none⟩) (keep_far (p := ⟨R, 0, none⟩) (keep_drewN hK6.out nq) hLR' _) hLR' _) hLR' _) hLR' _
end Go.Proofs.YtolaiebjmhieiaaGreatDoor.OScan
end
section
namespace Go.Proofs.YtolaiebjmhieiaaGreatDoor.OScan
open Go.RowKit Go.Proofs.YtolaiebjmhieiaaGreatDoorW.PrintWords Go.Proofs.YtolaiebjmhieiaaGreatDoorW.PrintLast Go.Proofs.YtolaiebjmhieiaaGreatDoorW.PrintMore
set_option linter.unusedVariables false
set_option linter.unusedSimpArgs false
theorem wr {a : Int} (h0 : -9223372036854775808 ≤ a) (h1 : a ≤ 9223372036854775807) : wrap64 a = a := by unfold wrap64; omega
def nx (s : ByteArray) (i : Int) : Int := if i ≥ (s.size : Int) then 0 else bt s i
def isL (a : Int) : Bool := (lex_isLetter.f a).getD false
def isD (a : Int) : Bool := (lex_isDigit.f a).getD false
theorem isL_eq (a : Int) : lex_isLetter.f a = some (isL a) := by
  by_cases h1 : a ≥ 97 <;> by_cases h2 : a ≤ 122 <;> by_cases h3 : a ≥ 65 <;> by_cases h4 : a ≤ 90 <;> simp [isL, lex_isLetter.f, h1, h2, h3, h4]
theorem isD_eq (a : Int) : lex_isDigit.f a = some (isD a) := by unfold isD lex_isDigit.f; repeat' split <;> rfl
theorem isL_0 : isL 0 = false := by decide
theorem isD_0 : isD 0 = false := by decide
theorem nx_past (s : ByteArray) (i : Int) (h : (s.size : Int) ≤ i) : nx s i = 0 := if_pos h
abbrev TryR := Value → Option (Int × ByteArray × Int × Value × Bool)
def Tried (s : ByteArray) (at0 : Int) (c : Bool) (B : Int) (r : TryR) : Prop := ∃ n, (∀ v, r v = some (n, s, at0, v, c)) ∧ 0 ≤ n ∧ n ≤ B
theorem Tried.ite {s : ByteArray} {at0 : Int} {c : Bool} {B : Int} {P : Prop} [Decidable P] {f g : TryR} (h1 : P → Tried s at0 c B f) (h2 : ¬ P → Tried s at0 c B g) : Tried s at0 c B (fun v => if P then f v else g v) := by
  by_cases h : P
  · obtain ⟨n, hn, hr⟩ := h1 h; exact ⟨n, fun v => (if_pos h).trans (hn v), hr⟩
  · obtain ⟨n, hn, hr⟩ := h2 h; exact ⟨n, fun v => (if_neg h).trans (hn v), hr⟩
theorem Tried.here {s : ByteArray} {at0 : Int} {c : Bool} {B n : Int} (h0 : 0 ≤ n) (h1 : n ≤ B) : Tried s at0 c B (fun v => some (n, s, at0, v, c)) := ⟨n, fun _ => rfl, h0, h1⟩
theorem Tried.le {s : ByteArray} {at0 : Int} {c : Bool} {B B' : Int} {f : TryR} (h : Tried s at0 c B f) (hB : B ≤ B') : Tried s at0 c B' f := by
  obtain ⟨n, hn, h0, h1⟩ := h; exact ⟨n, hn, h0, by omega⟩
theorem prefix_tot (a b : ByteArray) : ∃ t, strings_HasPrefix.f a b = some t ∧ (t = true → b.size ≤ a.size) := by
  simp only [strings_HasPrefix.f, stringslite_HasPrefix.f]
  by_cases h : (a.size : Int) ≥ (b.size : Int)
  · rw [if_pos h, if_pos (by omega), if_pos (by omega)]
    exact ⟨_, rfl, fun _ => by omega⟩
  · rw [if_neg h]
    exact ⟨_, rfl, fun h => by simp at h⟩
theorem suffix_tot (b : ByteArray) (x : UInt8) (hb : b.size ≤ 1000000) : ∃ t, strings_HasSuffix.f b (⟨#[x]⟩ : ByteArray) = some t := by
  simp only [strings_HasSuffix.f, stringslite_HasSuffix.f]
  have e1 : ((⟨#[x]⟩ : ByteArray).size : Int) = 1 := rfl
  rw [e1, wr (a := (b.size : Int) - 1) (by omega) (by omega)]
  by_cases hb1 : (b.size : Int) ≥ 1
  · rw [if_pos hb1, if_pos (by omega), if_pos (by omega)]
    exact ⟨_, rfl⟩
  · rw [if_neg hb1]
    exact ⟨_, rfl⟩
theorem trim_tot (b : ByteArray) (x : UInt8) (hb : b.size ≤ 1000000) : ∃ t, strings_TrimSuffix.f b (⟨#[x]⟩ : ByteArray) = some t ∧ t.size ≤ b.size := by
  simp only [strings_TrimSuffix.f, stringslite_TrimSuffix.f, stringslite_HasSuffix.f]
  have e1 : ((⟨#[x]⟩ : ByteArray).size : Int) = 1 := rfl
  rw [e1, wr (a := (b.size : Int) - 1) (by omega) (by omega)]
  by_cases hb1 : (b.size : Int) ≥ 1
  · rw [if_pos hb1, if_pos (by omega), if_pos (by omega)]
    simp only [Option.bind_some]
    split
    · rw [if_pos (by omega), if_pos (by omega)]
      exact ⟨_, rfl, by rw [ByteArray.size_extract]; omega⟩
    · exact ⟨_, rfl, Nat.le_refl _⟩
  · rw [if_neg hb1]
    exact ⟨_, rfl, Nat.le_refl _⟩
theorem index_room : ∀ (s sub : List UInt8), 0 ≤ Lib.index s sub → Lib.index s sub + sub.length ≤ s.length
  | [], sub, h => by
    unfold Lib.index at *
    split at h
    · rename_i he; simp at he; subst he; simp
    · omega
  | b :: l, sub, h => by
    unfold Lib.index at *
    split
    · rename_i hp
      have := (List.isPrefixOf_iff_prefix.1 hp).length_le
      simp only [List.length_cons] at *; omega
    · rename_i hp
      rw [if_neg hp] at h
      split
      · rename_i he; rw [if_pos he] at h; omega
      · rename_i he
        have h1 := Lib.index_ge l sub
        have h2 : Lib.index l sub ≠ -1 := by simpa using he
        have := index_room l sub (by omega)
        simp only [List.length_cons]; omega
theorem prefix_two (a : ByteArray) (x y : UInt8) (h : strings_HasPrefix.f a ⟨#[x, y]⟩ = some true) : ∃ l, a.data.toList = x :: y :: l := by
  simp only [strings_HasPrefix.f, stringslite_HasPrefix.f] at h
  have e1 : ((⟨#[x, y]⟩ : ByteArray).size : Int) = 2 := rfl
  have e2 : (⟨#[x, y]⟩ : ByteArray).toList = [x, y] := by rw [Lib.toList_data]
  rw [e1, e2] at h
  by_cases hb : (a.size : Int) ≥ 2
  · rw [if_pos hb, if_pos (by omega), if_pos (by omega)] at h
    simp only [Option.bind_some, Option.some.injEq, beq_iff_eq] at h
    rw [Lib.toList_data, Lib.Pa.extract_upto_list] at h
    have hl : a.data.toList.take 2 = [x, y] := h
    refine ⟨a.data.toList.drop 2, ?_⟩
    rw [← List.take_append_drop 2 a.data.toList, hl]; simp
  · rw [if_neg hb] at h
    simp at h
section
variable (s : ByteArray) (at0 : Int) (sg : List ByteArray) (c : Bool)
theorem next_tot (hs : s.size ≤ 1000000) (h0 : 0 ≤ at0) (h1 : at0 ≤ s.size) (n : Int) (hn0 : 0 ≤ n) (hn : n ≤ 2000000) :
    ∀ v, lex_scanner_next.f s at0 v sg c n = some (nx s (at0 + n), s, at0, v, c) := by
  intro v
  unfold lex_scanner_next.f nx
  rw [wr (by omega) (by omega)]
  split
  · rfl
  · rw [if_pos (by omega), if_pos (by omega)]
theorem rest_tot (hs : s.size ≤ 1000000) (h0 : 0 ≤ at0) (h1 : at0 ≤ s.size) : ∀ v, lex_scanner_rest.f s at0 v sg c = some (s.extract at0.toNat s.size, s, at0, v, c) := by
  intro v; unfold lex_scanner_rest.f; rw [if_pos h0, if_pos (by omega)]
theorem name_l0 (hs : s.size ≤ 1000000) (h0 : 0 ≤ at0) (h1 : at0 ≤ s.size) : ∀ (d k : Nat) (x : Int), 0 ≤ x → at0 + x ≤ s.size → (s.size : Int) - (at0 + x) ≤ d → d < k → Tried s at0 c (s.size - at0) (fun v => lex_scanner_name.l0 k x s at0 v sg c)
  | d, 0, _, _, _, _, h => by omega
  | d, k + 1, x, hx0, hx1, hd, hk => by
    have hn := next_tot s at0 sg c hs h0 h1 x hx0 (by omega)
    simp only [lex_scanner_name.l0, hn, Option.bind_some, isL_eq, isD_eq]
    by_cases hp : at0 + x < s.size
    · obtain ⟨d', rfl⟩ : ∃ d', d = d' + 1 := ⟨d - 1, by omega⟩
      have ih := name_l0 hs h0 h1 d' k (x + 1) (by omega) (by omega) (by omega) (by omega)
      simp only [wr (a := x + 1) (by omega) (by omega)]
      exact Tried.ite (fun _ => ih) fun _ => Tried.ite (fun _ => ih) fun _ => Tried.here hx0 (by omega)
    · rw [nx_past s _ (by omega), isL_0, isD_0]
      simp only [Bool.false_eq_true, if_false]
      exact Tried.here hx0 (by omega)
theorem name_tot (hs : s.size ≤ 1000000) (h0 : 0 ≤ at0) (h1 : at0 ≤ s.size) (k : Nat) (hk : s.size < k) : Tried s at0 c (s.size - at0) (fun v => lex_scanner_name.f k s at0 v sg c) := by
  have hn := next_tot s at0 sg c hs h0 h1 0 (by omega) (by omega)
  simp only [lex_scanner_name.f, hn, Option.bind_some, isL_eq]
  exact Tried.ite (fun _ => name_l0 s at0 sg c hs h0 h1 s.size k 0 (by omega) (by omega) (by omega) hk) fun _ => Tried.here (by omega) (by omega)
theorem number_l0 (hs : s.size ≤ 1000000) (h0 : 0 ≤ at0) (h1 : at0 ≤ s.size) : ∀ (d k : Nat) (x : Int), 1 ≤ x → at0 + x ≤ s.size → (s.size : Int) - (at0 + x) ≤ d → d < k → Tried s at0 c (s.size - at0) (fun v => lex_scanner_number.l0 k x s at0 v sg c)
  | d, 0, _, _, _, _, h => by omega
  | d, k + 1, x, hx0, hx1, hd, hk => by
    have hn := next_tot s at0 sg c hs h0 h1 x (by omega) (by omega)
    have hm := next_tot s at0 sg c hs h0 h1 (x - 1) (by omega) (by omega)
    simp only [lex_scanner_number.l0, wr (a := x - 1) (by omega) (by omega), wr (a := x + 1) (by omega) (by omega), hn, hm, Option.bind_some, isL_eq, isD_eq]
    by_cases hp : at0 + x < s.size
    · obtain ⟨d', rfl⟩ : ∃ d', d = d' + 1 := ⟨d - 1, by omega⟩
      have ih := number_l0 hs h0 h1 d' k (x + 1) (by omega) (by omega) (by omega) (by omega)
      have me : Tried s at0 c (s.size - at0) (fun v => some (x, s, at0, v, c)) := Tried.here (by omega) (by omega)
      repeat' (first | exact ih | exact me | (refine Tried.ite (fun _ => ?_) (fun _ => ?_)))
    · rw [nx_past s _ (by omega), isL_0, isD_0]
      have z1 : ¬ ((0 : Int) = 46) := by decide
      have z2 : ¬ ((0 : Int) = 43) := by decide
      have z3 : ¬ ((0 : Int) = 45) := by decide
      simp only [Bool.false_eq_true, if_false, z1, z2, z3]
      exact Tried.here (by omega) (by omega)
theorem number_j0 (hs : s.size ≤ 1000000) (h0 : 0 ≤ at0) (h1 : at0 ≤ s.size) (k : Nat) (hk : s.size + 1 < k) (b : Bool) (hb : b = false → at0 < s.size) : Tried s at0 c (s.size - at0) (fun v => lex_scanner_number.j0 k b s at0 v sg c) := by
  obtain ⟨k, rfl⟩ : ∃ m, k = m + 1 := ⟨k - 1, by omega⟩
  simp only [lex_scanner_number.j0]
  refine Tried.ite (fun _ => Tried.here (by omega) (by omega)) fun hb' => ?_
  have := hb (by simpa using hb')
  exact number_l0 s at0 sg c hs h0 h1 s.size k 1 (by omega) (by omega) (by omega) (by omega)
theorem number_tot (hs : s.size ≤ 1000000) (h0 : 0 ≤ at0) (h1 : at0 ≤ s.size) (k : Nat) (hk : s.size + 1 < k) : Tried s at0 c (s.size - at0) (fun v => lex_scanner_number.f k s at0 v sg c) := by
  have hn := next_tot s at0 sg c hs h0 h1 0 (by omega) (by omega)
  have hm := next_tot s at0 sg c hs h0 h1 1 (by omega) (by omega)
  simp only [lex_scanner_number.f, hn, hm, Option.bind_some, isD_eq]
  have hp : isD (nx s (at0 + 0)) = true ∨ nx s (at0 + 0) = 46 → at0 < s.size := fun h => by
    by_cases hp : at0 < s.size
    · exact hp
    · rw [nx_past s _ (by omega), isD_0] at h; simp at h
  exact Tried.ite (fun h => number_j0 s at0 sg c hs h0 h1 k hk _ fun _ => hp (.inl h)) fun _ =>
    Tried.ite (fun h => number_j0 s at0 sg c hs h0 h1 k hk _ fun _ => hp (.inr h)) fun _ => number_j0 s at0 sg c hs h0 h1 k hk _ (by simp)
theorem quoted_l0 (hs : s.size ≤ 1000000) (h0 : 0 ≤ at0) (h1 : at0 ≤ s.size) (q : Int) (hq : q ≠ 0) : ∀ (d k : Nat) (x : Int), 0 ≤ x → x ≤ 1500000 → (s.size : Int) - (at0 + x) ≤ d → d < k → Tried s at0 c (s.size - at0) (fun v => lex_scanner_quoted.l0 k q x s at0 v sg c)
  | d, 0, _, _, _, _, h => by omega
  | d, k + 1, x, hx0, hx1, hd, hk => by
    have hn := next_tot s at0 sg c hs h0 h1 x hx0 (by omega)
    have hm := next_tot s at0 sg c hs h0 h1 (x + 1) (by omega) (by omega)
    simp only [lex_scanner_quoted.l0, wr (a := at0 + x) (by omega) (by omega), wr (a := x + 1) (by omega) (by omega), wr (a := x + 1 + 1) (by omega) (by omega), hn, hm, Option.bind_some]
    have z : Tried s at0 c (s.size - at0) (fun v => some (0, s, at0, v, c)) := Tried.here (by omega) (by omega)
    refine Tried.ite (fun hp => ?_) fun _ => z
    have ih := quoted_l0 hs h0 h1 q hq (d - 1) k (x + 1) (by omega) (by omega) (by omega) (by omega)
    have ih2 := quoted_l0 hs h0 h1 q hq (d - 1) k (x + 1 + 1) (by omega) (by omega) (by omega) (by omega)
    have me : Tried s at0 c (s.size - at0) (fun v => some (x + 1, s, at0, v, c)) := Tried.here (by omega) (by omega)
    repeat' (first | exact me | exact z | exact ih | exact ih2 | (refine Tried.ite (fun _ => ?_) (fun _ => ?_)))
theorem quoted_tot (hs : s.size ≤ 1000000) (h0 : 0 ≤ at0) (h1 : at0 ≤ s.size) (k : Nat) (hk : s.size < k) (q : Int) (hq : q ≠ 0) : Tried s at0 c (s.size - at0) (fun v => lex_scanner_quoted.f k s at0 v sg c q) := by
  have hn := next_tot s at0 sg c hs h0 h1 0 (by omega) (by omega)
  simp only [lex_scanner_quoted.f, hn, Option.bind_some]
  exact Tried.ite (fun _ => quoted_l0 s at0 sg c hs h0 h1 q hq s.size k 1 (by omega) (by omega) (by omega) hk) fun _ => Tried.here (by omega) (by omega)
theorem char_tot (hs : s.size ≤ 1000000) (h0 : 0 ≤ at0) (h1 : at0 ≤ s.size) (k : Nat) (hk : s.size < k) : Tried s at0 c (s.size - at0) (fun v => lex_scanner_char.f k s at0 v sg c) := by
  obtain ⟨n, h, hn⟩ := quoted_tot s at0 sg c hs h0 h1 k hk 39 (by decide)
  exact ⟨n, fun v => by simp only [lex_scanner_char.f, h, Option.bind_some], hn⟩
theorem text_tot (hs : s.size ≤ 1000000) (h0 : 0 ≤ at0) (h1 : at0 ≤ s.size) (k : Nat) (hk : s.size < k) : Tried s at0 c (s.size - at0) (fun v => lex_scanner_text.f k s at0 v sg c) := by
  obtain ⟨n, h, hn⟩ := quoted_tot s at0 sg c hs h0 h1 k hk 34 (by decide)
  exact ⟨n, fun v => by simp only [lex_scanner_text.f, h, Option.bind_some], hn⟩
theorem line_l0 (hs_ : s.size ≤ 1000000) (h0_ : 0 ≤ at0) (h1_ : at0 ≤ s.size) : ∀ (d k : Nat) (r : ByteArray) (x : Int), r.size ≤ 1000000 → 0 ≤ x → x ≤ r.size → (r.size : Int) - x ≤ d → d < k → Tried s at0 c r.size (fun v => lex_scanner_line.l0 k r x s at0 v sg c)
  | d, 0, _, _, _, _, _, _, h => by omega
  | d, k + 1, r, x, hr, hx0, hx1, hd, hk => by
    simp only [lex_scanner_line.l0, if_pos hx0, if_pos hx1, strings_IndexByte.f, Option.bind_some]
    have hg := Lib.indexByte_ge (r.extract x.toNat r.size).data.toList (10 : Int).toNat.toUInt8
    generalize hi : Lib.indexByte (r.extract x.toNat r.size).data.toList (10 : Int).toNat.toUInt8 = t at *
    refine Tried.ite (fun _ => Tried.here (by omega) (Int.le_refl _)) fun hneg => ?_
    obtain ⟨o, rfl⟩ : ∃ o : Nat, t = o := ⟨t.toNat, by omega⟩
    have h1 := (Lib.indexByte_some hi).1
    have hlt : o < (r.extract x.toNat r.size).data.toList.length := by
      by_cases hq : o < (r.extract x.toNat r.size).data.toList.length
      · exact hq
      · rw [List.getElem?_eq_none (by omega)] at h1; simp at h1
    rw [Lib.extract_to_end, List.length_drop, ← Lib.size_eq] at hlt
    have p1 : 0 ≤ x + (o : Int) := by omega
    have p2 : x + (o : Int) ≤ r.size := by omega
    have hsz : (r.extract 0 (x + o).toNat).size ≤ (x + o).toNat := by rw [ByteArray.size_extract]; omega
    obtain ⟨t1, ht1, hl1⟩ := trim_tot (r.extract 0 (x + o).toNat) 13 (by omega)
    obtain ⟨t2, ht2⟩ := suffix_tot (r.extract 0 (x + o).toNat) 92 (by omega)
    obtain ⟨t3, ht3⟩ := suffix_tot t1 92 (by omega)
    simp only [wr (a := x + o) (by omega) (by omega), wr (a := x + o + 1) (by omega) (by omega), if_pos p1, if_pos p2, ht1, ht2, ht3, Option.bind_some]
    have ih := line_l0 hs_ h0_ h1_ (d - 1) k r (x + o + 1) hr (by omega) (by omega) (by omega) (by omega)
    exact Tried.ite (fun _ => ih) fun _ => Tried.ite (fun _ => ih) fun _ => Tried.here (by omega) (by omega)
theorem line_tot (hs : s.size ≤ 1000000) (h0 : 0 ≤ at0) (h1 : at0 ≤ s.size) (k : Nat) (hk : s.size + 1 < k) : Tried s at0 c (s.size - at0) (fun v => lex_scanner_line.f k s at0 v sg c) := by
  obtain ⟨k, rfl⟩ : ∃ m, k = m + 1 := ⟨k - 1, by omega⟩
  have hn := next_tot s at0 sg c hs h0 h1 0 (by omega) (by omega)
  have hr := rest_tot s at0 sg c hs h0 h1
  have hsz : (s.extract at0.toNat s.size).size = s.size - at0.toNat := by rw [ByteArray.size_extract]; omega
  have key : ∀ b : Bool, Tried s at0 c (s.size - at0) (fun v => lex_scanner_line.j0 (k + 1) b s at0 v sg c) := fun b => by
    simp only [lex_scanner_line.j0, hr, Option.bind_some]
    exact Tried.ite (fun _ => Tried.here (by omega) (by omega)) fun _ => (line_l0 s at0 sg c hs h0 h1 s.size k (s.extract at0.toNat s.size) 0 (by omega) (by omega) (by omega) (by omega) (by omega)).le (by omega)
  simp only [lex_scanner_line.f, hn, Option.bind_some]
  exact Tried.ite (fun _ => key _) fun _ => key _
theorem sign_l0 (hs : s.size ≤ 1000000) (h0 : 0 ≤ at0) (h1 : at0 ≤ s.size) : ∀ (d k : Nat) (x j : Int), 0 ≤ x → at0 + x ≤ s.size → 0 ≤ j → sg.length ≤ 1000000 → (sg.length : Int) - j ≤ d → d < k → Tried s at0 c (s.size - at0) (fun v => lex_scanner_sign.l0 k x sg (sg.length : Int) j s at0 v sg c)
  | d, 0, _, _, _, _, _, _, _, h => by omega
  | d, k + 1, x, j, hx0, hx1, hj0, hj1, hd, hk => by
    have hr := rest_tot s at0 sg c hs h0 h1
    have hsz : (s.extract at0.toNat s.size).size = s.size - at0.toNat := by rw [ByteArray.size_extract]; omega
    obtain ⟨t, ht, hle⟩ := prefix_tot (s.extract at0.toNat s.size) (rdOf ByteArray.empty sg j)
    simp only [lex_scanner_sign.l0, hr, ht, Option.bind_some]
    refine Tried.ite (fun hlt => ?_) fun _ => Tried.here hx0 (by omega)
    simp only [if_pos hj0, if_pos hlt, wr (a := j + 1) (by omega) (by omega)]
    have ih := fun x hx0 hx1 => sign_l0 hs h0 h1 (d - 1) k x (j + 1) hx0 hx1 (by omega) hj1 (by omega) (by omega)
    refine Tried.ite (fun _ => Tried.ite (fun hb => ?_) fun _ => ih _ hx0 hx1) fun _ => ih _ hx0 hx1
    have := hle hb
    exact ih _ (by omega) (by omega)
theorem sign_tot (hs : s.size ≤ 1000000) (h0 : 0 ≤ at0) (h1 : at0 ≤ s.size) (k : Nat) (hl : sg.length ≤ 1000000) (hk : sg.length < k) : Tried s at0 c (s.size - at0) (fun v => lex_scanner_sign.f k s at0 v sg c) :=
  sign_l0 s at0 sg c hs h0 h1 sg.length k 0 0 (by omega) (by omega) (by omega) hl (by omega) hk
theorem comment_tot (hs : s.size ≤ 1000000) (h0 : 0 ≤ at0) (h1 : at0 ≤ s.size) : ∃ r : Bool × Int × Bool, (∀ v, lex_scanner_comment.f s at0 v sg c = some (r.1, s, r.2.1, v, r.2.2)) ∧ (r.1 = false → r.2.1 = at0 ∧ r.2.2 = c) ∧ (r.1 = true → at0 < r.2.1 ∧ r.2.1 ≤ s.size) := by
  have hr := rest_tot s at0 sg c hs h0 h1
  have hsz : (s.extract at0.toNat s.size).size = s.size - at0.toNat := by rw [ByteArray.size_extract]; omega
  simp only [lex_scanner_comment.f, hr, Option.bind_some]
  generalize s.extract at0.toNat s.size = R at *
  have hRl : R.data.toList.length = R.size := by rw [← Lib.size_eq]
  obtain ⟨t, ht, hle⟩ := prefix_tot R ⟨#[47, 47]⟩
  simp only [ht, Option.bind_some]
  cases t with
  | true =>
    obtain ⟨l, hl⟩ := prefix_two R 47 47 ht
    have hsz2 : 2 ≤ R.size := by rw [← hRl, hl]; simp
    simp only [strings_IndexByte.f, Option.bind_some, if_true]
    have hg := Lib.indexByte_ge R.data.toList (10 : Int).toNat.toUInt8
    have hpos : Lib.indexByte R.data.toList (10 : Int).toNat.toUInt8 ≠ 0 := by
      rw [hl]; unfold Lib.indexByte
      have : ((47 : UInt8) == (10 : Int).toNat.toUInt8) = false := by decide
      rw [this]; simp only [Bool.false_eq_true, if_false]
      have := Lib.indexByte_ge (47 :: l) (10 : Int).toNat.toUInt8
      split
      · omega
      · rename_i hne; have : Lib.indexByte (47 :: l) (10 : Int).toNat.toUInt8 ≠ -1 := by simpa using hne
        omega
    generalize hi : Lib.indexByte R.data.toList (10 : Int).toNat.toUInt8 = t at *
    by_cases hneg : t < 0
    · exact ⟨(true, wrap64 (at0 + R.size), c), fun v => by rw [if_pos hneg], by simp, fun _ => by simp only; rw [wr (by omega) (by omega)]; omega⟩
    · obtain ⟨o, rfl⟩ : ∃ o : Nat, t = o := ⟨t.toNat, by omega⟩
      have h1' := (Lib.indexByte_some hi).1
      have hlt : o < R.data.toList.length := by
        by_cases hq : o < R.data.toList.length
        · exact hq
        · rw [List.getElem?_eq_none (by omega)] at h1'; simp at h1'
      exact ⟨(true, wrap64 (at0 + o), c), fun v => by rw [if_neg hneg], by simp, fun _ => by simp only; rw [wr (by omega) (by omega)]; omega⟩
  | false =>
    simp only [Bool.false_eq_true, if_false]
    obtain ⟨t, ht, hle⟩ := prefix_tot R ⟨#[47, 42]⟩
    simp only [ht, Option.bind_some]
    cases t with
    | false => exact ⟨(false, at0, c), fun v => rfl, by simp, by simp⟩
    | true =>
      have hsz2 : 2 ≤ R.size := hle rfl
      have hx2 : (R.extract 2 R.size).size = R.size - 2 := by rw [ByteArray.size_extract]; omega
      have hxl : (R.extract 2 R.size).data.toList.length = R.size - 2 := by rw [← Lib.size_eq, hx2]
      have q1 : (2 : Int) ≤ R.size := by omega
      have q2 : (R.extract 2 R.size).size < 4294967281 := by omega
      simp only [if_true, if_pos q1, strings_Index.f, if_pos q2, Option.bind_some]
      have hg := Lib.index_ge (R.extract 2 R.size).data.toList (⟨#[42, 47]⟩ : ByteArray).data.toList
      have hroom := index_room (R.extract 2 R.size).data.toList (⟨#[42, 47]⟩ : ByteArray).data.toList
      have e2 : ((⟨#[42, 47]⟩ : ByteArray).data.toList.length : Int) = 2 := rfl
      generalize Lib.index (R.extract 2 R.size).data.toList (⟨#[42, 47]⟩ : ByteArray).data.toList = t at *
      have ht1 : t ≤ R.size := by
        by_cases ht0 : 0 ≤ t
        · have := hroom ht0; omega
        · omega
      simp only [wr (a := t + 4) (by omega) (by omega), wr (a := at0 + R.size) (by omega) (by omega), wr (a := at0 + (t + 4)) (by omega) (by omega)]
      have hct : ∀ b x : ByteArray, b.size ≤ 1000000 → ∃ r, strings_Contains.f b x = some r := fun b x hb => ⟨_, by unfold strings_Contains.f; rw [if_pos (by omega)]⟩
      obtain ⟨r, hcr⟩ := hct R ⟨#[10]⟩ (by omega)
      by_cases h4 : t + 4 < 4
      · simp only [if_pos h4]
        cases c with
        | true => exact ⟨(true, at0 + R.size, true), fun v => rfl, by simp, fun _ => by simp only; omega⟩
        | false =>
          have q3 : (0 : Int) ≤ R.size := by omega
          simp only [Bool.false_eq_true, if_false, if_pos q3, if_pos (Int.le_refl (R.size : Int)), hcr, Option.bind_some]
          exact ⟨(true, at0 + R.size, r), fun v => rfl, by simp, fun _ => by simp only; omega⟩
      · have := hroom (by omega)
        simp only [if_neg h4]
        cases c with
        | true => exact ⟨(true, at0 + (t + 4), true), fun v => rfl, by simp, fun _ => by simp only; omega⟩
        | false =>
          obtain ⟨r, hr⟩ := hct (R.extract 0 (t + 4).toNat) ⟨#[10]⟩ (by rw [ByteArray.size_extract]; omega)
          have q3 : (0 : Int) ≤ t + 4 := by omega
          have q4 : t + 4 ≤ (R.size : Int) := by omega
          simp only [Bool.false_eq_true, if_false, if_pos q3, if_pos q4, hr, Option.bind_some]
          exact ⟨(true, at0 + (t + 4), r), fun v => rfl, by simp, fun _ => by simp only; omega⟩
end
abbrev PasR := Value → Option (ByteArray × ByteArray × Int × Value × Bool)
def Passed (s : ByteArray) (at0 : Int) (r : PasR) : Prop := ∃ b at1 c1, (∀ v, r v = some (b, s, at1, v, c1)) ∧ at0 ≤ at1 ∧ at1 ≤ (s.size : Int) ∧ b.size ≤ s.size
theorem Passed.le {s : ByteArray} {a b : Int} {r : PasR} (h : Passed s b r) (hab : a ≤ b) : Passed s a r := by
  obtain ⟨x, y, z, h1, h2, h3⟩ := h
  exact ⟨x, y, z, h1, by omega, h3⟩
theorem Passed.ite {s : ByteArray} {a : Int} {P : Prop} [Decidable P] {f g : PasR} (h1 : P → Passed s a f) (h2 : ¬ P → Passed s a g) : Passed s a (fun v => if P then f v else g v) := by
  by_cases h : P
  · obtain ⟨x, y, z, hn, hr⟩ := h1 h; exact ⟨x, y, z, fun v => (if_pos h).trans (hn v), hr⟩
  · obtain ⟨x, y, z, hn, hr⟩ := h2 h; exact ⟨x, y, z, fun v => (if_neg h).trans (hn v), hr⟩
theorem before_l0 (s : ByteArray) (sg : List ByteArray) (hs : s.size ≤ 1000000) (from0 : Int) (hf : 0 ≤ from0) : ∀ (d : Nat) (at0 : Int) (c : Bool) (k : Nat), from0 ≤ at0 → at0 ≤ s.size → (s.size : Int) - at0 ≤ d → 5 * d + 5 < k → Passed s at0 (fun v => lex_scanner_before.l0 k from0 s at0 v sg c)
  | d, at0, c, 0, _, _, _, h => by omega
  | d, at0, c, k + 1, h0, h1, hd, hk => by
    simp only [lex_scanner_before.l0]
    refine Passed.ite (fun hlt => ?_) fun hge => ?_
    · obtain ⟨d, rfl⟩ : ∃ e, d = e + 1 := ⟨d - 1, by omega⟩
      have ih : ∀ (at1 : Int) (c1 : Bool) (k : Nat), at0 < at1 → at1 ≤ s.size → 5 * d + 5 < k → Passed s at0 (fun v => lex_scanner_before.l0 k from0 s at1 v sg c1) := fun at1 c1 k ha hb hk => (before_l0 s sg hs from0 hf d at1 c1 k (by omega) hb (by omega) hk).le (by omega)
      have hn1 := next_tot s at0 sg c hs (by omega) h1 1 (by omega) (by omega)
      have hn2 := next_tot s at0 sg c hs (by omega) h1 2 (by omega) (by omega)
      have w1 := wr (a := at0 + 1) (by omega) (by omega)
      have w2 := wr (a := at0 + 2) (by omega) (by omega)
      have w3 := wr (a := at0 + 3) (by omega) (by omega)
      have j4 : ∀ k b, 5 * d + 6 < k → (b = true → at0 + 3 ≤ s.size) → Passed s at0 (fun v => lex_scanner_before.j4 k from0 b s at0 v sg c) := fun k b hk hb => by
        obtain ⟨k, rfl⟩ : ∃ m, k = m + 1 := ⟨k - 1, by omega⟩
        obtain ⟨⟨r1, r2, r3⟩, hr, hra, hrb⟩ := comment_tot s at0 sg c hs (by omega) h1
        simp only [lex_scanner_before.j4, w3, hr, Option.bind_some]
        refine Passed.ite (fun h => ih _ _ _ (by omega) (hb h) (by omega)) fun _ => Passed.ite (fun h => ?_) fun h => ?_
        · have := hrb h; exact ih _ _ _ this.1 this.2 (by omega)
        · obtain ⟨ha, hc⟩ := hra (by simpa using h)
          simp only at ha hc
          subst ha
          simp only [if_pos hf, if_pos h0, if_pos h1]
          exact ⟨_, _, _, fun v => rfl, Int.le_refl _, h1, by rw [ByteArray.size_extract]; omega⟩
      have past : ∀ i ch, ch ≠ 0 → nx s (at0 + i) = ch → at0 + i < s.size := fun i ch hne h => by
        by_cases hp : at0 + i < s.size
        · exact hp
        · rw [nx_past s _ (by omega)] at h; exact absurd h.symm hne
      have j3 : ∀ k x4 b, 5 * d + 7 < k → (b = true → at0 + 2 ≤ s.size) → Passed s at0 (fun v => lex_scanner_before.j3 k from0 x4 b s at0 v sg c) := fun k x4 b hk hb => by
        obtain ⟨k, rfl⟩ : ∃ m, k = m + 1 := ⟨k - 1, by omega⟩
        simp only [lex_scanner_before.j3, w2, hn1, hn2, Option.bind_some]
        refine Passed.ite (fun h => ih _ _ _ (by omega) (hb h) (by omega)) fun _ => Passed.ite (fun _ => Passed.ite (fun _ => ?_) fun _ => ?_) fun _ => ?_
        · refine j4 k _ (by omega) fun h => ?_
          have := past 2 10 (by decide) (by simpa using h)
          omega
        · exact j4 k _ (by omega) (by simp)
        · exact j4 k _ (by omega) (by simp)
      have j2 : ∀ k x4 b, 5 * d + 8 < k → Passed s at0 (fun v => lex_scanner_before.j2 k from0 x4 b s at0 v sg c) := fun k x4 b hk => by
        obtain ⟨k, rfl⟩ : ∃ m, k = m + 1 := ⟨k - 1, by omega⟩
        simp only [lex_scanner_before.j2, w1, hn1, Option.bind_some]
        refine Passed.ite (fun _ => ih _ _ _ (by omega) (by omega) (by omega)) fun _ => Passed.ite (fun _ => ?_) fun _ => ?_
        · refine j3 k _ _ (by omega) fun h => ?_
          have := past 1 10 (by decide) (by simpa using h)
          omega
        · exact j3 k _ _ (by omega) (by simp)
      have j1 : ∀ k x4 b, 5 * d + 9 < k → Passed s at0 (fun v => lex_scanner_before.j1 k from0 x4 b s at0 v sg c) := fun k x4 b hk => by
        obtain ⟨k, rfl⟩ : ∃ m, k = m + 1 := ⟨k - 1, by omega⟩
        simp only [lex_scanner_before.j1, w1]
        exact Passed.ite (fun _ => ih _ _ _ (by omega) (by omega) (by omega)) fun _ => Passed.ite (fun _ => j2 k _ _ (by omega)) fun _ => Passed.ite (fun _ => j2 k _ _ (by omega)) fun _ => j2 k _ _ (by omega)
      have h00 : 0 ≤ at0 := by omega
      simp only [if_pos h00, w1]
      exact Passed.ite (fun _ => ih _ _ _ (by omega) (by omega) (by omega)) fun _ => Passed.ite (fun _ => j1 k _ _ (by omega)) fun _ => j1 k _ _ (by omega)
    · have q : from0 ≤ (s.size : Int) := by omega
      simp only [if_pos hf, if_pos q]
      exact ⟨_, _, _, fun v => rfl, Int.le_refl _, h1, by rw [ByteArray.size_extract]; omega⟩
theorem before_tot (s : ByteArray) (at0 : Int) (sg : List ByteArray) (c : Bool) (hs : s.size ≤ 1000000) (h0 : 0 ≤ at0) (h1 : at0 ≤ s.size) (k : Nat) (hk : 5 * s.size + 5 < k) : Passed s at0 (fun v => lex_scanner_before.f k s at0 v sg c) :=
  before_l0 s sg hs at0 h0 s.size at0 c k (Int.le_refl _) h1 (by omega) hk
end Go.Proofs.YtolaiebjmhieiaaGreatDoor.OScan
end
section
namespace Go.Proofs.YtolaiebjmhieiaaGreatDoor.OScan
open Go.RowKit Go.Proofs.YtolaiebjmhieiaaGreatDoorW.PrintWords Go.Proofs.YtolaiebjmhieiaaGreatDoorW.PrintLast Go.Proofs.YtolaiebjmhieiaaGreatDoorW.PrintMore
set_option linter.unusedVariables false
set_option linter.unusedSimpArgs false
theorem tryAt_tot (s : ByteArray) (at0 : Int) (sg : List ByteArray) (c : Bool) (hs : s.size ≤ 1000000) (h0 : 0 ≤ at0) (h1 : at0 ≤ s.size) (hl : sg.length ≤ 1000000) (k : Nat) (hk : s.size + 1 < k) (hk2 : sg.length < k) (j : Nat) :
    Tried s at0 c (s.size - at0) (fun v => (tryAt k sg j (s, at0, v, c))) := by
  match j with
  | 0 => exact line_tot s at0 sg c hs h0 h1 k hk
  | 1 => exact name_tot s at0 sg c hs h0 h1 k (by omega)
  | 2 => exact number_tot s at0 sg c hs h0 h1 k hk
  | 3 => exact char_tot s at0 sg c hs h0 h1 k (by omega)
  | 4 => exact text_tot s at0 sg c hs h0 h1 k (by omega)
  | n + 5 => exact sign_tot s at0 sg c hs h0 h1 k hl hk2
theorem tries_tot (s : ByteArray) (at0 : Int) (sg : List ByteArray) (c : Bool) (hs : s.size ≤ 1000000) (h0 : 0 ≤ at0) (h1 : at0 < s.size) (hl : sg.length ≤ 1000000) (k : Nat) (hk : s.size + 1 < k) (hk2 : sg.length < k) :
    ∀ (f j : Nat), ∃ n kd : Int, (∀ v, tries k sg f j (s, at0, v, c) = some (n, kd, (s, at0, v, c))) ∧ 1 ≤ n ∧ at0 + n ≤ s.size ∧ 1 ≤ kd
  | 0, j => ⟨1, 8, fun v => rfl, by omega, by omega, by omega⟩
  | f + 1, j => by
    obtain ⟨m, hm, hm0, hm1⟩ := tryAt_tot s at0 sg c hs h0 (by omega) hl k hk hk2 j
    have hm : ∀ v, tryAt k sg j (s, at0, v, c) = some (m, s, at0, v, c) := hm
    by_cases hp : 0 < m
    · refine ⟨m, kindAt j, fun v => ?_, by omega, by omega, ?_⟩
      · rw [tries_succ, hm v]; simp only [Option.bind_some]; rw [if_pos hp]
      · unfold kindAt; split <;> decide
    · obtain ⟨n, kd, h, hr⟩ := tries_tot s at0 sg c hs h0 h1 hl k hk hk2 f (j + 1)
      exact ⟨n, kd, fun v => by rw [tries_succ, hm v]; simp only [Option.bind_some]; rw [if_neg hp]; exact h v, hr⟩
abbrev Tk := Int × ByteArray × ByteArray × Int
def K0 (s : ByteArray) (sg : List ByteArray) : Nat := 5 * s.size + sg.length + 100
def tokD (kw sg : List ByteArray) (s : ByteArray) (at0 : Int) (c : Bool) : Tk × Int × Bool :=
  match lex_scanner_before.f (K0 s sg) s at0 .nilIface sg c with
  | none => ((0, ⟨#[]⟩, ⟨#[]⟩, at0), at0, c)
  | some (b, _, at1, _, c1) =>
    if at1 = s.size then ((0, b, ⟨#[]⟩, at1), at1, c1) else
    match tries (K0 s sg) sg 6 0 (s, at1, .nilIface, c1) with
    | none => ((0, b, ⟨#[]⟩, at1), at1, c1)
    | some (n, kd, _) => ((finKind kw kd (s.extract at1.toNat (at1 + n).toNat), b, s.extract at1.toNat (at1 + n).toNat, at1), at1 + n, false)
def toksD (kw sg : List ByteArray) (s : ByteArray) : Nat → Int → Bool → List Tk
  | 0, _, _ => []
  | f + 1, at0, c => let r := tokD kw sg s at0 c; if r.1.1 = 0 then [r.1] else r.1 :: toksD kw sg s f r.2.1 r.2.2
def tkV (t : Tk) : Value := .agg #[.int .i64 t.1, .string t.2.1, .string t.2.2.1, .int .i64 t.2.2.2]
theorem token_any (kw sg : List ByteArray) (s : ByteArray) (at0 : Int) (v : Value) (c : Bool) (g : Nat) (w0 w : World) (hI : IsS125 w0 w g s at0 v sg c) (hB : Below w0.heap.size w0 w) (hG_ : Glob w0) (hM : KwMap w v kw)
    (hs : s.size ≤ 1000000) (h0 : 0 ≤ at0) (h1 : at0 ≤ s.size) (hl : sg.length ≤ 1000000) :
    Calls Tryz.prog 66 #[.pointer (some ⟨g, 0, none⟩)] w fun e w' => e = .returned (tkV (tokD kw sg s at0 c).1) ∧ IsS125 w0 w' g s (tokD kw sg s at0 c).2.1 v sg (tokD kw sg s at0 c).2.2 ∧ Below w0.heap.size w0 w' ∧ KeepBut w w' g none := by
  obtain ⟨b, at1, c1, hb, hb0, hb1, hbs⟩ := before_tot s at0 sg c hs h0 h1 (K0 s sg) (by unfold K0; omega)
  have hb : ∀ v, lex_scanner_before.f (K0 s sg) s at0 v sg c = some (b, s, at1, v, c1) := hb
  by_cases he : at1 = (s.size : Int)
  · have := tok_none (K0 s sg) g s at0 v sg c b s at1 v c1 w0 w hI hB (hb v) hG_ he
    have hd : tokD kw sg s at0 c = ((0, b, ⟨#[]⟩, at1), at1, c1) := by unfold tokD; rw [hb .nilIface]; simp only; rw [if_pos he]
    rw [hd]; exact this
  · obtain ⟨n, kd, ht, hn, hn1, hk1⟩ := tries_tot s at1 sg c1 hs (by omega) (by omega) hl (K0 s sg) (by unfold K0; omega) (by unfold K0; omega) 6 0
    have hd : tokD kw sg s at0 c = ((finKind kw kd (s.extract at1.toNat (at1 + n).toNat), b, s.extract at1.toNat (at1 + n).toNat, at1), at1 + n, false) := by
      unfold tokD; rw [hb .nilIface]; simp only; rw [if_neg he, ht .nilIface]
    have := tok_end (K0 s sg) g s at0 v sg c b s at1 v c1 w0 w hI hB (hb v) hG_ he n kd (s, at1, v, c1) (ht v) (by simp only; omega) (by simp only; omega) (by omega) (by simp only; omega) kw rfl hM
    rw [hd]; exact this
theorem tokD_place (kw sg : List ByteArray) (s : ByteArray) (at0 : Int) (c : Bool) (hs : s.size ≤ 1000000) (h0 : 0 ≤ at0) (h1 : at0 ≤ s.size) (hl : sg.length ≤ 1000000) :
    (tokD kw sg s at0 c).2.1 ≤ s.size ∧ at0 ≤ (tokD kw sg s at0 c).2.1 ∧ ((tokD kw sg s at0 c).1.1 ≠ 0 → at0 < (tokD kw sg s at0 c).2.1) ∧ (tokD kw sg s at0 c).1.2.1.size ≤ s.size ∧ (tokD kw sg s at0 c).1.2.2.1.size ≤ s.size := by
  obtain ⟨b, at1, c1, hb, hb0, hb1, hbs⟩ := before_tot s at0 sg c hs h0 h1 (K0 s sg) (by unfold K0; omega)
  have hb : ∀ v, lex_scanner_before.f (K0 s sg) s at0 v sg c = some (b, s, at1, v, c1) := hb
  by_cases he : at1 = (s.size : Int)
  · have hd : tokD kw sg s at0 c = ((0, b, ⟨#[]⟩, at1), at1, c1) := by unfold tokD; rw [hb .nilIface]; simp only; rw [if_pos he]
    rw [hd]; exact ⟨hb1, hb0, by simp, hbs, Nat.zero_le _⟩
  · obtain ⟨n, kd, ht, hn, hn1, hk1⟩ := tries_tot s at1 sg c1 hs (by omega) (by omega) hl (K0 s sg) (by unfold K0; omega) (by unfold K0; omega) 6 0
    have hd : tokD kw sg s at0 c = ((finKind kw kd (s.extract at1.toNat (at1 + n).toNat), b, s.extract at1.toNat (at1 + n).toNat, at1), at1 + n, false) := by
      unfold tokD; rw [hb .nilIface]; simp only; rw [if_neg he, ht .nilIface]
    rw [hd]; exact ⟨hn1, by simp only; omega, fun _ => by simp only; omega, hbs, by simp only; rw [ByteArray.size_extract]; omega⟩
end Go.Proofs.YtolaiebjmhieiaaGreatDoor.OScan
end
section
namespace Go.Proofs
open Go.Shelf
def Tryz.lays157_ren : Go.Shelf.Ren := ⟨fun | 157 => 117 | 229 => 157 | 199 => 158 | 261 => 187 | 311 => 200 | 312 => 201 | n => n, fun | 9 => 9 | 31 => 23 | 3 => 3 | 5 => 5 | 4 => 4 | 119 => 210 | 0 => 0 | 40 => 212 | 152 => 226 | 21 => 21 | 154 => 228 | 51 => 78 | 141 => 230 | 196 => 237 | 193 => 234 | 198 => 240 | 49 => 238 | 194 => 235 | 201 => 243 | 226 => 249 | 46 => 116 | 227 => 250 | n => n, fun | 0 => 0 | 6 => 2 | n => n⟩
theorem Tryz.lays157 : Go.Proofs.Lays.n157 Tryz.prog Tryz.lays157_ren := {
  mixed := by kernel_rfl
  f157 := Tryz.func117.trans (congrArg some (by kernel_rfl))
  f199 := Tryz.func158.trans (congrArg some (by kernel_rfl))
  f229 := Tryz.func157.trans (congrArg some (by kernel_rfl))
  f261 := Tryz.func187.trans (congrArg some (by kernel_rfl))
  f311 := Tryz.func200.trans (congrArg some (by kernel_rfl))
  f312 := Tryz.func201.trans (congrArg some (by kernel_rfl))
  t0 := Tryz.underlying0
  a0 := Tryz.isAgg0
  z0 := Tryz.sizeOf0
  v0 := Tryz.zeroValue0
  t3 := Tryz.underlying3
  a3 := Tryz.isAgg3
  z3 := Tryz.sizeOf3
  v3 := Tryz.zeroValue3
  t4 := Tryz.underlying4
  a4 := Tryz.isAgg4
  z4 := Tryz.sizeOf4
  v4 := Tryz.zeroValue4
  t5 := Tryz.underlying5
  a5 := Tryz.isAgg5
  z5 := Tryz.sizeOf5
  v5 := Tryz.zeroValue5
  t9 := Tryz.underlying9
  a9 := Tryz.isAgg9
  z9 := Tryz.sizeOf9
  v9 := Tryz.zeroValue9
  t21 := Tryz.underlying21
  a21 := Tryz.isAgg21
  z21 := Tryz.sizeOf21
  v21 := Tryz.zeroValue21
  t31 := Tryz.underlying23
  a31 := Tryz.isAgg23
  z31 := Tryz.sizeOf23
  v31 := Tryz.zeroValue23
  t40 := Tryz.underlying212
  a40 := Tryz.isAgg212
  z40 := Tryz.sizeOf212
  v40 := Tryz.zeroValue212
  t46 := Tryz.underlying116
  a46 := Tryz.isAgg116
  z46 := Tryz.sizeOf116
  v46 := Tryz.zeroValue116
  t49 := Tryz.underlying238
  a49 := Tryz.isAgg238
  z49 := Tryz.sizeOf238
  v49 := Tryz.zeroValue238
  t51 := Tryz.underlying78
  a51 := Tryz.isAgg78
  z51 := Tryz.sizeOf78
  v51 := Tryz.zeroValue78
  t119 := Tryz.underlying210
  a119 := Tryz.isAgg210
  z119 := Tryz.sizeOf210
  t141 := Tryz.underlying230
  a141 := Tryz.isAgg230
  z141 := Tryz.sizeOf230
  v141 := Tryz.zeroValue230
  t152 := Tryz.underlying226
  a152 := Tryz.isAgg226
  z152 := Tryz.sizeOf226
  v152 := Tryz.zeroValue226
  t154 := Tryz.underlying228
  a154 := Tryz.isAgg228
  z154 := Tryz.sizeOf228
  v154 := Tryz.zeroValue228
  t193 := Tryz.underlying234
  a193 := Tryz.isAgg234
  z193 := Tryz.sizeOf234
  v193 := Tryz.zeroValue234
  t194 := Tryz.underlying235
  a194 := Tryz.isAgg235
  z194 := Tryz.sizeOf235
  v194 := Tryz.zeroValue235
  t196 := Tryz.underlying237
  a196 := Tryz.isAgg237
  z196 := Tryz.sizeOf237
  v196 := Tryz.zeroValue237
  t198 := Tryz.underlying240
  a198 := Tryz.isAgg240
  z198 := Tryz.sizeOf240
  v198 := Tryz.zeroValue240
  t201 := Tryz.underlying243
  a201 := Tryz.isAgg243
  z201 := Tryz.sizeOf243
  v201 := Tryz.zeroValue243
  t226 := Tryz.underlying249
  a226 := Tryz.isAgg249
  z226 := Tryz.sizeOf249
  v226 := Tryz.zeroValue249
  t227 := Tryz.underlying250
  a227 := Tryz.isAgg250
  z227 := Tryz.sizeOf250
  v227 := Tryz.zeroValue250
  g0 := by kernel_rfl
  g6 := by kernel_rfl }
open Go.RowKit Go.Lib in
theorem Tryz.strings_Fields (s : ByteArray) (w : World) (hs : s.size < 4294967281) (hascii : ∀ (j : Nat) b, s.data.toList[j]? = some b → b.toNat < 128) (htab : Lib.TabIs Tryz.prog w "strings.asciiSpace" .u8 Lib.asciiSpaceTab) :
    Calls Tryz.prog 117 #[.string s] w fun e w' =>
      e = .returned (.slice (some ⟨w.heap.size, 0, none⟩) (Lib.fields s.data.toList).length (Lib.fields s.data.toList).length) ∧ w' = w.alloc (.cells ((Lib.fields s.data.toList).map fun l => Value.string ⟨l.toArray⟩).toArray 9) := Any.strings_Fields Tryz.lays157 (by kernel_rfl) (by kernel_rfl) s w hs hascii htab
def Tryz.lays146_ren : Go.Shelf.Ren := ⟨fun | 146 => 99 | 221 => 146 | 268 => 183 | 138 => 184 | 143 => 185 | 195 => 197 | 197 => 168 | 218 => 198 | 219 => 199 | 260 => 191 | 217 => 132 | 225 => 204 | 224 => 203 | 267 => 205 | 266 => 170 | 314 => 206 | n => n, fun | 9 => 9 | 31 => 23 | 3 => 3 | 4 => 4 | 0 => 0 | 105 => 216 | 21 => 21 | 5 => 5 | 46 => 116 | 119 => 210 | 139 => 247 | 138 => 246 | 146 => 251 | 51 => 78 | n => n, fun | 1 => 1 | 3 => 3 | 4 => 4 | n => n⟩
theorem Tryz.lays146 : Go.Proofs.Lays.n146 Tryz.prog Tryz.lays146_ren := {
  mixed := by kernel_rfl
  f138 := Tryz.func184.trans (congrArg some (by kernel_rfl))
  f143 := Tryz.func185.trans (congrArg some (by kernel_rfl))
  f146 := Tryz.func99.trans (congrArg some (by kernel_rfl))
  f195 := Tryz.func197.trans (congrArg some (by kernel_rfl))
  f197 := Tryz.func168.trans (congrArg some (by kernel_rfl))
  f217 := Tryz.func132.trans (congrArg some (by kernel_rfl))
  f218 := Tryz.func198.trans (congrArg some (by kernel_rfl))
  f219 := Tryz.func199.trans (congrArg some (by kernel_rfl))
  f221 := Tryz.func146.trans (congrArg some (by kernel_rfl))
  f224 := Tryz.func203.trans (congrArg some (by kernel_rfl))
  f225 := Tryz.func204.trans (congrArg some (by kernel_rfl))
  f260 := Tryz.func191.trans (congrArg some (by kernel_rfl))
  f266 := Tryz.func170.trans (congrArg some (by kernel_rfl))
  f267 := Tryz.func205.trans (congrArg some (by kernel_rfl))
  f268 := Tryz.func183.trans (congrArg some (by kernel_rfl))
  f314 := Tryz.func206.trans (congrArg some (by kernel_rfl))
  t0 := Tryz.underlying0
  a0 := Tryz.isAgg0
  z0 := Tryz.sizeOf0
  v0 := Tryz.zeroValue0
  t3 := Tryz.underlying3
  a3 := Tryz.isAgg3
  z3 := Tryz.sizeOf3
  v3 := Tryz.zeroValue3
  t4 := Tryz.underlying4
  a4 := Tryz.isAgg4
  z4 := Tryz.sizeOf4
  v4 := Tryz.zeroValue4
  t5 := Tryz.underlying5
  a5 := Tryz.isAgg5
  z5 := Tryz.sizeOf5
  v5 := Tryz.zeroValue5
  t9 := Tryz.underlying9
  a9 := Tryz.isAgg9
  z9 := Tryz.sizeOf9
  v9 := Tryz.zeroValue9
  t21 := Tryz.underlying21
  a21 := Tryz.isAgg21
  z21 := Tryz.sizeOf21
  v21 := Tryz.zeroValue21
  t31 := Tryz.underlying23
  a31 := Tryz.isAgg23
  z31 := Tryz.sizeOf23
  v31 := Tryz.zeroValue23
  t46 := Tryz.underlying116
  a46 := Tryz.isAgg116
  z46 := Tryz.sizeOf116
  v46 := Tryz.zeroValue116
  t51 := Tryz.underlying78
  a51 := Tryz.isAgg78
  z51 := Tryz.sizeOf78
  v51 := Tryz.zeroValue78
  t105 := Tryz.underlying216
  a105 := Tryz.isAgg216
  z105 := Tryz.sizeOf216
  v105 := Tryz.zeroValue216
  t119 := Tryz.underlying210
  a119 := Tryz.isAgg210
  z119 := Tryz.sizeOf210
  t138 := Tryz.underlying246
  a138 := Tryz.isAgg246
  z138 := Tryz.sizeOf246
  v138 := Tryz.zeroValue246
  t139 := Tryz.underlying247
  a139 := Tryz.isAgg247
  z139 := Tryz.sizeOf247
  v139 := Tryz.zeroValue247
  t146 := Tryz.underlying251
  a146 := Tryz.isAgg251
  z146 := Tryz.sizeOf251
  v146 := Tryz.zeroValue251
  g1 := by kernel_rfl
  g3 := by kernel_rfl
  g4 := by kernel_rfl }
open Go.RowKit Go.Lib in
theorem Tryz.strings_Split (s sep : ByteArray) (m : Int) (w : World) (hs : s.size < 4294967281) (hm : w.cell? ⟨1, 0, none⟩ = some (.int .i64 m)) (h1 : 1 ≤ sep.size) :
    Calls Tryz.prog 99 #[.string s, .string sep] w fun e w' =>
      e = .returned (.slice (some ⟨w.heap.size, 0, none⟩) (Lib.countB s sep + 1) (Lib.countB s sep + 1)) ∧ w' = w.alloc (.cells ((Lib.splitB sep 0 (Lib.countB s sep) s).map Value.string).toArray 9) := Any.strings_Split Tryz.lays146 (by kernel_rfl) s sep m w hs hm h1
end Go.Proofs
end
section
namespace Go.Proofs.YtolaiebjmhieiaaGreatDoor.OScan
open Go.RowKit Go.Proofs.YtolaiebjmhieiaaGreatDoorW.PrintWords Go.Proofs.YtolaiebjmhieiaaGreatDoorW.PrintLast Go.Proofs.YtolaiebjmhieiaaGreatDoorW.PrintMore
set_option linter.unusedVariables false
set_option linter.unusedSimpArgs false
def Glob2 (w : World) : Prop := Glob w ∧ Lib.TabIs Tryz.prog w "strings.asciiSpace" .u8 Lib.asciiSpaceTab
theorem tabIs_below {w w' : World} {name : String} {k : IntKind} {zs : List Int} (h : Lib.TabIs Tryz.prog w name k zs) (hb : Below w.heap.size w w') : Lib.TabIs Tryz.prog w' name k zs := Lib.tabBelow_of_tabIs h w' hb
theorem Glob2.below {w0 w : World} (h : Glob2 w0) (hb : Below w0.heap.size w0 w) : Glob2 w := ⟨h.1.below hb, tabIs_below h.2 hb⟩
def keyBytes : List UInt8 := [98, 114, 101, 97, 107, 32, 99, 97, 115, 101, 32, 99, 104, 97, 114, 32, 99, 111, 110, 115, 116, 32, 99, 111, 110, 116, 105, 110, 117, 101, 32, 100, 101, 102, 97, 117, 108, 116, 32, 100, 111, 32, 101, 108, 115, 101, 32, 101, 110, 117, 109, 32, 101, 120, 116, 101, 114, 110, 32, 102, 111, 114, 32, 103, 111, 116, 111, 32, 105, 102, 32, 105, 110, 116, 32, 108, 111, 110, 103, 32, 114, 101, 116, 117, 114, 110, 32, 115, 104, 111, 114, 116, 32, 115, 105, 103, 110, 101, 100, 32, 115, 105, 122, 101, 111, 102, 32, 115, 116, 97, 116, 105, 99, 32, 115, 116, 114, 117, 99, 116, 32, 115, 119, 105, 116, 99, 104, 32, 116, 121, 112, 101, 100, 101, 102, 32, 117, 110, 105, 111, 110, 32, 117, 110, 115, 105, 103, 110, 101, 100, 32, 118, 111, 105, 100, 32, 118, 111, 108, 97, 116, 105, 108, 101, 32, 119, 104, 105, 108, 101]
def signBytes : List UInt8 := [46, 46, 46, 32, 60, 60, 61, 32, 62, 62, 61, 32, 60, 60, 32, 62, 62, 32, 60, 61, 32, 62, 61, 32, 61, 61, 32, 33, 61, 32, 38, 38, 32, 124, 124, 32, 43, 43, 32, 45, 45, 32, 43, 61, 32, 45, 61, 32, 42, 61, 32, 47, 61, 32, 37, 61, 32, 38, 61, 32, 124, 61, 32, 94, 61, 32, 45, 62, 32, 43, 32, 45, 32, 42, 32, 47, 32, 37, 32, 38, 32, 124, 32, 94, 32, 33, 32, 126, 32, 60, 32, 62, 32, 61, 32, 63, 32, 58, 32, 59, 32, 44, 32, 46, 32, 40, 32, 41, 32, 91, 32, 93, 32, 123, 32, 125, 32, 35]
def kwL : List ByteArray := (Lib.fields keyBytes).map fun l => ⟨l.toArray⟩
def sgL : List ByteArray := (Lib.fields signBytes).map fun l => ⟨l.toArray⟩
theorem ascii_of {l : List UInt8} (h : l.all (fun b => decide (b.toNat < 128)) = true) : ∀ (j : Nat) b, l[j]? = some b → b.toNat < 128 := fun j b hb => by
  have := List.all_eq_true.1 h b (List.mem_of_getElem? hb)
  simpa using this
theorem bytes_list (l : List UInt8) : (⟨l.toArray⟩ : ByteArray).data.toList = l := by simp
theorem bytes_size (l : List UInt8) : (⟨l.toArray⟩ : ByteArray).size = l.length := by simp [ByteArray.size]
set_option maxRecDepth 100000 in
theorem keys_any (w : World) (hG : Glob2 w) : Calls Tryz.prog 65 #[] w fun e w' => e = .returned (.slice (some ⟨w.heap.size, 0, none⟩) kwL.length kwL.length) ∧ w' = w.alloc (.cells (kwL.map Value.string).toArray 9) := by
  have H := Tryz.strings_Fields ⟨keyBytes.toArray⟩ w (by rw [bytes_size]; decide) (by rw [bytes_list]; exact ascii_of (by decide)) hG.2
  have e1 : (⟨keyBytes.toArray⟩ : ByteArray).data.toList = keyBytes := by simp
  rw [e1] at H
  have e2 : (Lib.fields keyBytes).length = kwL.length := by simp [kwL]
  have e3 : ((Lib.fields keyBytes).map fun l => Value.string ⟨l.toArray⟩).toArray = (kwL.map Value.string).toArray := by simp [kwL]
  rw [e2, e3] at H
  generalize kwL = kw at *
  go_enter Tryz.func65, Tryz.ntmps65
  go_wp2_with (go_at_call 117; refine Calls.mono (show Calls Tryz.prog 117 #[.string ⟨keyBytes.toArray⟩] w _ from H) ?_; rintro e w' ⟨rfl, rfl⟩)
  go_ret
  exact ⟨rfl, rfl⟩
set_option maxRecDepth 100000 in
theorem signs_any (w : World) (hG : Glob2 w) : Calls Tryz.prog 64 #[] w fun e w' => e = .returned (.slice (some ⟨w.heap.size, 0, none⟩) sgL.length sgL.length) ∧ w' = w.alloc (.cells (sgL.map Value.string).toArray 9) := by
  have H := Tryz.strings_Fields ⟨signBytes.toArray⟩ w (by rw [bytes_size]; decide) (by rw [bytes_list]; exact ascii_of (by decide)) hG.2
  have e1 : (⟨signBytes.toArray⟩ : ByteArray).data.toList = signBytes := by simp
  rw [e1] at H
  have e2 : (Lib.fields signBytes).length = sgL.length := by simp [sgL]
  have e3 : ((Lib.fields signBytes).map fun l => Value.string ⟨l.toArray⟩).toArray = (sgL.map Value.string).toArray := by simp [sgL]
  rw [e2, e3] at H
  generalize sgL = kw at *
  go_enter Tryz.func64, Tryz.ntmps64
  go_wp2_with (go_at_call 117; refine Calls.mono (show Calls Tryz.prog 117 #[.string ⟨signBytes.toArray⟩] w _ from H) ?_; rintro e w' ⟨rfl, rfl⟩)
  go_ret
  exact ⟨rfl, rfl⟩
end Go.Proofs.YtolaiebjmhieiaaGreatDoor.OScan
end
section
namespace Go.Proofs.YtolaiebjmhieiaaGreatDoor
open Go.ChangeMaps (setBlock)
open Go.RowKit Go.Proofs.YtolaiebjmhieiaaGreatDoorW.PrintWords Go.Proofs.YtolaiebjmhieiaaGreatDoorW.PrintLast Go.Proofs.YtolaiebjmhieiaaGreatDoorW.PrintMore
set_option linter.unusedVariables false
set_option linter.unusedSimpArgs false
abbrev AL := List (ByteArray × Value)
def alGet : AL → ByteArray → Option Value
  | [], _ => none
  | p :: l, t => if t == p.1 then some p.2 else alGet l t
def alPut : AL → ByteArray → Value → AL
  | [], t, v => [(t, v)]
  | p :: l, t, v => if t == p.1 then (t, v) :: l else p :: alPut l t v
def pairV (p : ByteArray × Value) : Value × Value := (.string p.1, p.2)
def MapIs (W : World) (b : Nat) (l : AL) : Prop := ∃ es clock, W.heap[b]? = some (.map es clock) ∧ es.toList.map (fun e => (e.key, e.val)) = l.map pairV
theorem MapIs.lt {W : World} {b : Nat} {l : AL} (h : MapIs W b l) : b < W.heap.size := by obtain ⟨es, c, h, _⟩ := h; exact OScan.heap_lt h
theorem MapIs.same {W W' : World} {b : Nat} {l : AL} (h : MapIs W b l) (hb : W'.heap[b]? = W.heap[b]?) : MapIs W' b l := by obtain ⟨es, c, h, hl⟩ := h; exact ⟨es, c, hb.trans h, hl⟩
theorem find_al (t : ByteArray) : ∀ (es : List MapEntry) (l : AL) (i : Nat), es.map (fun e => (e.key, e.val)) = l.map pairV →
    (alGet l t = none ∧ Instr.findNow .string (.string t) es i = some none ∧ alPut l t = fun v => l ++ [(t, v)]) ∨
    ∃ (v : Value) (j : Nat) (e : MapEntry), alGet l t = some v ∧ Instr.findNow .string (.string t) es i = some (some (i + j, v)) ∧ es[j]? = some e ∧ (∃ t', e.key = .string t' ∧ (t == t') = true) ∧
      ∀ u, (es.modify j fun e => { e with key := .string t, val := u }).map (fun e => (e.key, e.val)) = (alPut l t u).map pairV := by
  intro es
  induction es with
  | nil => intro l i h; cases l with
    | nil => exact .inl ⟨rfl, rfl, rfl⟩
    | cons => simp at h
  | cons e es ih =>
    intro l i h
    cases l with
    | nil => simp at h
    | cons a l =>
      simp only [List.map_cons, List.cons.injEq, Prod.mk.injEq, pairV] at h
      obtain ⟨⟨h1, h2⟩, h3⟩ := h
      cases hta : (t == a.1)
      · rcases ih l (i + 1) h3 with ⟨g1, g2, g3⟩ | ⟨v, j, e', g1, g2, g3, g4, g5⟩
        · refine .inl ⟨by simp only [alGet, hta]; exact g1, by simp only [Instr.findNow, h1, Instr.sameNow, hta]; exact g2, ?_⟩
          funext v; simp only [alPut, hta, g3]; rfl
        · refine .inr ⟨v, j + 1, e', by simp only [alGet, hta]; exact g1, ?_, by simpa using g3, g4, fun u => ?_⟩
          · simp only [Instr.findNow, h1, Instr.sameNow, hta]; rw [g2]; congr 3; omega
          · simp only [List.modify_succ_cons, List.map_cons, alPut, hta, Bool.false_eq_true, if_false, g5 u, pairV, h1, h2]
      · refine .inr ⟨a.2, 0, e, by simp [alGet, hta], ?_, rfl, ⟨a.1, h1, hta⟩, fun u => ?_⟩
        · simp only [Instr.findNow, h1, Instr.sameNow, hta, h2]; rfl
        · simp only [List.modify_zero_cons, List.map_cons, alPut, hta, if_true, pairV, h3]
variable {W : World} {b : Nat} {l : AL} {mt e : TypeId}
theorem check_str (W : World) (em : Bool) (n : Nat) (t : ByteArray) : (Instr.checkKey em (n + 1) 9 (.string t)).run Tryz.prog W = .ok () W := OScan.check_kw W em n t
theorem MapIs.get (h : MapIs W b l) (ht : Tryz.prog.underlying mt = some (.map 9 e)) (t : ByteArray) (z : Value) (hz : ∀ W, (zeroValue e).run Tryz.prog W = .ok z W) : (Instr.lookup mt (.map (some b)) (.string t) false).run Tryz.prog W = .ok ((alGet l t).getD z) W := by
  obtain ⟨es, clock, hb, he⟩ := h
  have hck := check_str W es.isEmpty 9999 t
  rcases find_al t es.toList l 0 he with ⟨g1, g2, _⟩ | ⟨v, j, e', g1, g2, _⟩ <;>
    simp [Instr.lookup, run_underlying ht, MapKept.run_getObj_map hb, hck, Instr.findKey, run_underlying Tryz.underlying9, g1, g2, Result.andThen, hz]
theorem MapIs.getOk (h : MapIs W b l) (ht : Tryz.prog.underlying mt = some (.map 9 e)) (t : ByteArray) (z : Value) (hz : ∀ W, (zeroValue e).run Tryz.prog W = .ok z W) : (Instr.lookup mt (.map (some b)) (.string t) true).run Tryz.prog W = .ok (.tuple #[(alGet l t).getD z, .bool (alGet l t).isSome]) W := by
  obtain ⟨es, clock, hb, he⟩ := h
  have hck := check_str W es.isEmpty 9999 t
  rcases find_al t es.toList l 0 he with ⟨g1, g2, _⟩ | ⟨v, j, e', g1, g2, _⟩ <;>
    simp [Instr.lookup, run_underlying ht, MapKept.run_getObj_map hb, hck, Instr.findKey, run_underlying Tryz.underlying9, g1, g2, Result.andThen, hz]
structure OnlyAt (W W' : World) (b : Nat) : Prop where
  os : W'.os = W.os
  tape : W'.tape = W.tape
  output : W'.output = W.output
  size : W'.heap.size = W.heap.size
  block : ∀ i, i ≠ b → W'.heap[i]? = W.heap[i]?
theorem OnlyAt.refl (W : World) (b : Nat) : OnlyAt W W b := ⟨rfl, rfl, rfl, rfl, fun _ _ => rfl⟩
theorem OnlyAt.trans {W1 W2 W3 : World} {b : Nat} (h : OnlyAt W1 W2 b) (k : OnlyAt W2 W3 b) : OnlyAt W1 W3 b := ⟨k.os.trans h.os, k.tape.trans h.tape, k.output.trans h.output, k.size.trans h.size, fun i hi => (k.block i hi).trans (h.block i hi)⟩
theorem OnlyAt.below {W W1 W2 : World} {b : Nat} (h : Below W.heap.size W W1) (k : OnlyAt W1 W2 b) (hb : W.heap.size ≤ b) : Below W.heap.size W W2 :=
  ⟨k.os.trans h.os, k.tape.trans h.tape, k.output.trans h.output, by have := h.size; have := k.size; omega, fun i hi => (k.block i (by omega)).trans (h.block i hi)⟩
theorem OnlyAt.cell {W W' : World} {b : Nat} (h : OnlyAt W W' b) {a : Addr} (ha : a.block ≠ b) : W'.cell? a = W.cell? a := by simp only [World.cell?, h.block _ ha]
theorem OnlyAt.frozen {W W' : World} {b : Nat} (h : OnlyAt W W' b) {a : Addr} (ha : a.block ≠ b) : W'.frozen? a = W.frozen? a := by simp only [World.frozen?, h.block _ ha]
theorem OnlyAt.grown {W W' : World} {b : Nat} (h : OnlyAt W W' b) : W.grownBy W' (some b) := ⟨h.os, h.tape, h.output, by rw [h.size]; exact Nat.le_refl _, fun i hi hn => h.block i (by simpa using hn)⟩
theorem OnlyAt.keep {W W' : World} {b : Nat} (h : OnlyAt W W' b) : KeepBut W W' b none := ⟨by rw [h.size]; exact Nat.le_refl _, fun i _ hn _ => h.block i hn⟩
theorem onlyAt_set (W : World) (b : Nat) (o : Obj) : OnlyAt W (setBlock W b o) b := ⟨rfl, rfl, rfl, by simp [setBlock], fun i hi => by simp [setBlock, Array.getElem?_setIfInBounds, Ne.symm hi]⟩
theorem MapIs.put (h : MapIs W b l) (ht : Tryz.prog.underlying mt = some (.map 9 e)) (t : ByteArray) (v : Value) : ∃ W', (Instr.mapUpdate mt (.map (some b)) (.string t) v).run Tryz.prog W = .ok () W' ∧ MapIs W' b (alPut l t v) ∧ OnlyAt W W' b := by
  have hlt := h.lt
  obtain ⟨es, clock, hb, he⟩ := h
  have hck := check_str W false 9999 t
  rcases find_al t es.toList l 0 he with ⟨g1, g2, g3⟩ | ⟨u, j, e', g1, g2, g3, ⟨t', g4, g5⟩, g6⟩
  · refine ⟨setBlock W b (.map (es.push ⟨.string t, v, clock⟩) (clock + 1)), ?_, ⟨es.push ⟨.string t, v, clock⟩, clock + 1, by simp [setBlock, hlt], ?_⟩, onlyAt_set _ _ _⟩
    · simp [Instr.mapUpdate, run_underlying ht, MapKept.run_getObj_map hb, hck, Instr.findKey, run_underlying Tryz.underlying9, g2, MapKept.run_setObj_map _ hb, Result.andThen, setBlock]
    · rw [g3]; simp [he, pairV]
  · have hj : es[j]? = some e' := by simpa using g3
    have hk : (Instr.keyThatStays (.string t') (.string t)).run Tryz.prog W = .ok (.string t) W := by
      have : t = t' := (MapKept.bytes_beq _ _).1 g5
      subst this
      simp [Instr.keyThatStays, Instr.sameBits, (MapKept.bytes_beq t t).2 rfl]
    refine ⟨setBlock W b (.map (es.modify j fun e => { e with key := .string t, val := v }) clock), ?_, ⟨es.modify j fun e => { e with key := .string t, val := v }, clock, by simp [setBlock, hlt], ?_⟩, onlyAt_set _ _ _⟩
    · simp [Instr.mapUpdate, run_underlying ht, MapKept.run_getObj_map hb, hck, Instr.findKey, run_underlying Tryz.underlying9, g2, hj, g4, hk, MapKept.run_setObj_map _ hb, Result.andThen, setBlock]
    · rw [Array.toList_modify]; exact g6 v
theorem alPut_new : ∀ (l : AL) (t : ByteArray) (v : Value), (∀ p ∈ l, (t == p.1) = false) → alPut l t v = l ++ [(t, v)]
  | [], t, v, _ => rfl
  | p :: l, t, v, h => by
    have := h p (List.mem_cons_self ..)
    simp only [alPut, this, Bool.false_eq_true, if_false, alPut_new l t v fun q hq => h q (List.mem_cons_of_mem _ hq)]; rfl
theorem MapIs.kw {W : World} {b : Nat} {kw : List ByteArray} (h : MapIs W b (kw.map fun t => (t, Value.bool true))) : OScan.KwMap W (.map (some b)) kw := by
  obtain ⟨es, clock, hb, he⟩ := h
  exact ⟨b, es, clock, rfl, hb, by rw [he]; simp [pairV]⟩
end Go.Proofs.YtolaiebjmhieiaaGreatDoor
end
