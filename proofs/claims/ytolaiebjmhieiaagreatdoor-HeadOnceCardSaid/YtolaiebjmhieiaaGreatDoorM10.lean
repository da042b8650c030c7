/- HeadOnce: for every list of files, every name and every list of places the law answers true, and all read behind the call as before; the listed tables are tied to the text of the program; no condition. Here: parts of its proof. -/
import Derived.Test.YtolaiebjmhieiaaGreatDoorM09
import Derived.Laws.EntriesVeiled
import Derived.BigRegion
namespace Go.Proofs.YtolaiebjmhieiaaGreatDoor.OScan
open Go.RowKit Go.Proofs.YtolaiebjmhieiaaGreatDoorW.PrintWords Go.Proofs.YtolaiebjmhieiaaGreatDoorW.PrintLast Go.Proofs.YtolaiebjmhieiaaGreatDoorW.PrintMore
attribute [local go_sem] max2_int min2_int max_two min_two max_three min_three max_four min_four
set_option linter.unusedVariables false
set_option linter.unusedSimpArgs false
abbrev St := ByteArray × Int × Value × Bool
def tryAt (k : Nat) (sg : List ByteArray) (j : Nat) (x : St) : Option (Int × St) :=
  match j with
  | 0 => lex_scanner_line.f k x.1 x.2.1 x.2.2.1 sg x.2.2.2
  | 1 => lex_scanner_name.f k x.1 x.2.1 x.2.2.1 sg x.2.2.2
  | 2 => lex_scanner_number.f k x.1 x.2.1 x.2.2.1 sg x.2.2.2
  | 3 => lex_scanner_char.f k x.1 x.2.1 x.2.2.1 sg x.2.2.2
  | 4 => lex_scanner_text.f k x.1 x.2.1 x.2.2.1 sg x.2.2.2
  | _ => lex_scanner_sign.f k x.1 x.2.1 x.2.2.1 sg x.2.2.2
def kindAt (j : Nat) : Int := match j with | 0 => 7 | 1 => 1 | 2 => 3 | 3 => 4 | 4 => 5 | _ => 6
def tries (k : Nat) (sg : List ByteArray) : Nat → Nat → St → Option (Int × Int × St)
  | 0, _, x => some (1, 8, x)
  | f + 1, j, x => (tryAt k sg j x).bind fun r => if 0 < r.1 then some (r.1, kindAt j, r.2) else tries k sg f (j + 1) r.2
theorem tries_succ (k : Nat) (sg : List ByteArray) (f j : Nat) (x : St) : tries k sg (f + 1) j x = (tryAt k sg j x).bind fun r => if 0 < r.1 then some (r.1, kindAt j, r.2) else tries k sg f (j + 1) r.2 := rfl
def tokTab (g : Nat) : Array Value := #[Value.int IntKind.i64 7, Value.func (Fn.func 119) #[Value.pointer (some { block := g, off := 0 })] #[],
          Value.int IntKind.i64 1, Value.func (Fn.func 120) #[Value.pointer (some { block := g, off := 0 })] #[],
          Value.int IntKind.i64 3, Value.func (Fn.func 121) #[Value.pointer (some { block := g, off := 0 })] #[],
          Value.int IntKind.i64 4, Value.func (Fn.func 122) #[Value.pointer (some { block := g, off := 0 })] #[],
          Value.int IntKind.i64 5, Value.func (Fn.func 123) #[Value.pointer (some { block := g, off := 0 })] #[],
          Value.int IntKind.i64 6, Value.func (Fn.func 124) #[Value.pointer (some { block := g, off := 0 })] #[]]
def finKind (kw : List ByteArray) (kd : Int) (t : ByteArray) : Int := if kd = 1 ∧ kw.contains t = true then 2 else kd
def LeSz (w : World) (n : Nat) : Prop := w.heap.size ≤ n
structure TokW (w0 w W : World) (g T R B : Nat) (b : ByteArray) (at0 : Int) (sg : List ByteArray) (kk : Int) (y : St) : Prop where
  st : IsS125 w0 W g y.1 y.2.1 y.2.2.1 sg y.2.2.2
  below : Below w0.heap.size w0 W
  keep : KeepBut w W g none
  res : W.heap[R]? = some (Obj.cells #[.int .i64 0, .string ⟨#[]⟩, .string ⟨#[]⟩, .int .i64 0] 95)
  tok : W.heap[T]? = some (Obj.cells #[.int .i64 kk, .string b, .string ⟨#[]⟩, .int .i64 at0] 95)
  tab : W.heap[B]? = some (Obj.cells (tokTab g) 178)
  hT : w.heap.size ≤ T
  hT0 : w0.heap.size ≤ T
theorem TokW.step {w0 w W W8 : World} {g T R B : Nat} {b : ByteArray} {at0 kk : Int} {sg : List ByteArray} {y y' : St} {o : Obj} (h : TokW w0 w W g T R B b at0 sg kk y)
    (hi : IsS125 w0 W8 g y'.1 y'.2.1 y'.2.2.1 sg y'.2.2.2) (hb : Below w0.heap.size w0 W8) (hk : KeepBut (W.alloc o) W8 g none) (hT : g ≠ T) (hR : g ≠ R) (hB : g ≠ B) :
    TokW w0 w W8 g T R B b at0 sg kk y' := by
  have key : ∀ {i : Nat} {x : Obj}, W.heap[i]? = some x → g ≠ i → W8.heap[i]? = some x := fun {i x} hx hn => by
    have hl := heap_lt hx
    rw [hk.2 i (by simp; omega) (Ne.symm hn) (by simp), Below.heap_alloc _ _ _ hl, hx]
  refine ⟨hi, hb, KeepBut.trans h.keep (KeepBut.trans (KeepBut.of_below (below_alloc (Below.refl _ _) o) g none) hk (.inl rfl)) (.inl rfl), key h.res hR, key h.tok hT, key h.tab hB, h.hT, h.hT0⟩
theorem TokW.kind {w0 w W : World} {g T R B : Nat} {b : ByteArray} {at0 kk : Int} {sg : List ByteArray} {y : St} (h : TokW w0 w W g T R B b at0 sg kk y) (kd : Int) (hT : g ≠ T) (hTR : T ≠ R) (hTB : T ≠ B) :
    TokW w0 w (W.setCell ⟨T, 0, none⟩ (.int .i64 kd)).drew g T R B b at0 sg kd y := by
  refine ⟨(h.st.far hT _).drew, below_drew1 (below_set h.below h.hT0), keep_drew (keep_far h.keep h.hT _), ?_, ?_, ?_, h.hT, h.hT0⟩
  · exact blk_far (p := ⟨T, 0, none⟩) h.res (Ne.symm hTR) _
  · show (W.setCell ⟨T, 0, none⟩ (.int .i64 kd)).heap[T]? = _
    have := blk_set h.tok 0 (.int .i64 kd)
    simpa using this
  · exact blk_far (p := ⟨T, 0, none⟩) h.tab (Ne.symm hTB) _
set_option maxHeartbeats 8000000 in
set_option maxRecDepth 100000 in
theorem tok_end (k : Nat) (g : Nat) (s0_0 : ByteArray) (s0_1 : Int) (s0_2 : Value) (s0_3 : List ByteArray) (s0_4 : Bool) (b r2 : ByteArray) (r3 : Int) (r4 : Value) (r5 : Bool) (w0 w : World) (hI : IsS125 w0 w g s0_0 s0_1 s0_2 s0_3 s0_4) (hB : Below w0.heap.size w0 w) (h : lex_scanner_before.f k s0_0 s0_1 s0_2 s0_3 s0_4 = some (b, r2, r3, r4, r5)) (hG_ : Glob w0) (he : r3 ≠ (r2.size : Int)) (n kd : Int) (x : St) (ht : tries k s0_3 6 0 (r2, r3, r4, r5) = some (n, kd, x)) (hx0 : 0 ≤ x.2.1) (hx1 : x.2.1 + n ≤ (x.1.size : Int)) (hx2 : 0 ≤ n) (hx3 : (x.1.size : Int) ≤ 140737488355328) (kw : List ByteArray) (hx4 : x.2.2.1 = s0_2) (hM : KwMap w s0_2 kw) :
    Calls Tryz.prog 66 #[.pointer (some ⟨g, 0, none⟩)] w fun e w' => e = .returned (.agg #[.int .i64 (finKind kw kd (x.1.extract x.2.1.toNat (x.2.1 + n).toNat)), .string b, .string (x.1.extract x.2.1.toNat (x.2.1 + n).toNat), .int .i64 r3]) ∧ IsS125 w0 w' g x.1 (x.2.1 + n) x.2.2.1 s0_3 false ∧ Below w0.heap.size w0 w' ∧ KeepBut w w' g none := by
  have HI0 := Aside0.mk hI
  have HK := Aside0.mk (KeepBut.refl w g none)
  have HB := Aside0.mk hB
  go_enter Tryz.func66, Tryz.ntmps66
  have hnel : g ≠ w.heap.size := by obtain ⟨A3, c3, hb, _⟩ := hI; intro hx; subst hx; simp at hb
  go_wp2_with (go_at_call 118; go_loud (refine (lex_scanner_before.calls k g s0_0 s0_1 s0_2 s0_3 s0_4 b r2 r3 r4 r5 w0 _ (HI0.out.alloc _) (below_alloc HB.out _) h hG_).mono ?_; rintro e w5 ⟨rfl, hi, hb, hk⟩; have hi' := Aside0.mk hi; obtain ⟨AS, cS, HG, hg, HS⟩ := hi; have hc1 := cellS125_1 HG))
  obtain ⟨w6, hw6⟩ : ∃ w6, w5.alloc (Obj.cells #[.int .i64 0, .string b, .string ⟨#[]⟩, .int .i64 r3] 95) = w6 := ⟨_, rfl⟩
  rw [hw6]
  have hI6 : IsS125 w0 w6 g r2 r3 r4 s0_3 r5 := hw6 ▸ hi'.out.alloc _
  have hR5 := (hk.2 w.heap.size (by simp) (Ne.symm hnel) (by simp)).trans (blk_new w _)
  have hlt : w.heap.size < w5.heap.size := by have h1 := hk.1; simp at h1; omega
  have hR6 : w6.heap[w.heap.size]? = some (Obj.cells #[.int .i64 0, .string ⟨#[]⟩, .string ⟨#[]⟩, .int .i64 0] 95) := by rw [← hw6]; exact (Below.heap_alloc w5 _ _ hlt).trans hR5
  have hT6 : w6.heap[w5.heap.size]? = some (Obj.cells #[.int .i64 0, .string b, .string ⟨#[]⟩, .int .i64 r3] 95) := by rw [← hw6]; exact blk_new w5 _
  have hB6 : Below w0.heap.size w0 w6 := hw6 ▸ below_alloc hb _
  have hne1 : g ≠ w5.heap.size := by intro hx; subst hx; simp at HG
  have hTR : w5.heap.size ≠ w.heap.size := by omega
  have hLR : LeSz w0 w.heap.size := HB.out.size
  have hLR' : LeSz w w.heap.size := Nat.le_refl _
  have hLT : LeSz w w5.heap.size := Nat.le_of_lt hlt
  have hLT0 : LeSz w0 w5.heap.size := hb.size
  have hI6' := Aside0.mk hI6
  have hK6 : Aside0 (KeepBut w w6 g none) := ⟨hw6 ▸ keep_alloc (KeepBut.trans (keep_alloc (KeepBut.refl w g none) _) hk (.inl rfl)) _⟩
  clear HG hc1
  obtain ⟨AS6, cS6, HG, hg6, HS6⟩ := hI6
  have hc0 := cellS125_0 HG
  have hc1 := cellS125_1 HG
  have hc4 := cellS125_4 HG
  have hf0 := blk_frozen HG 0
  have hf1 := blk_frozen HG 1
  have hdec : (r3 == (r2.size : Int)) = false := (by simpa using he)
  have hdec2 : decide (r3 = (r2.size : Int)) = false := (by simpa using he)
  have ht0 : w6.cell? ⟨w5.heap.size, 0, none⟩ = some (.int .i64 0) := (blk_cell hT6 0).trans rfl
  have hft0 := blk_frozen hT6 0
  generalize w5.heap.size = T at *
  generalize w.heap.size = R at *
  repeat (go_quiet (fail); try go_wp2)
  have hTB : T < w6.heap.size := by
    by_cases hx : T < w6.heap.size
    · exact hx
    · rw [Array.getElem?_eq_none (by omega)] at hT6; simp at hT6
  have hRB : R < w6.heap.size := by omega
  have hgB : g < w6.heap.size := by
    by_cases hx : g < w6.heap.size
    · exact hx
    · rw [Array.getElem?_eq_none (by omega)] at HG; simp at HG
  obtain ⟨w7, hw7⟩ : ∃ w7, ((w6.drewN nq).setCell { block := T, off := 0 } (Value.int IntKind.i64 8)).alloc (Obj.cells (tokTab g) 178) = w7 := ⟨_, rfl⟩
  have hB7 : w7.heap[w6.heap.size]? = some (Obj.cells (tokTab g) 178) := by
    rw [← hw7]
    have := blk_new ((w6.drewN nq).setCell { block := T, off := 0 } (Value.int IntKind.i64 8)) (Obj.cells (tokTab g) 178)
    simpa [World.setCell] using this
  have hW7 : TokW w0 w w7 g T R w6.heap.size b r3 s0_3 8 (r2, r3, r4, r5) := by
    refine ⟨?_, ?_, ?_, ?_, ?_, hB7, hLT, hLT0⟩
    · rw [← hw7]; exact ((hI6'.out.drewN nq).far (p := ⟨T, 0, none⟩) hne1 _).alloc _
    · rw [← hw7]; exact below_alloc (below_set (pw_below_drewN hB6 nq) hLT0) _
    · rw [← hw7]; exact keep_alloc (keep_far (p := ⟨T, 0, none⟩) (keep_drewN hK6.out nq) hLT _) _
    · rw [← hw7]; exact (Below.heap_alloc _ _ _ (by simpa [World.setCell] using hRB)).trans (blk_far (p := ⟨T, 0, none⟩) (show (w6.drewN nq).heap[R]? = _ from hR6) (Ne.symm hTR) _)
    · rw [← hw7]
      refine (Below.heap_alloc _ _ _ (by simpa [World.setCell] using hTB)).trans ?_
      have := blk_set (show (w6.drewN nq).heap[T]? = _ from hT6) 0 (.int .i64 8)
      simpa using this
  simp only [tokTab] at hw7
  rw [hw7]
  have hBg : g ≠ w6.heap.size := by omega
  have hTB' : T ≠ w6.heap.size := by omega
  generalize w6.heap.size = B at *
  go_loopg [5, 49] 6 (fun kq v5 v49 w' => ∃ (y : St), v5 = .int .i64 1 ∧ v49 = .int .i64 ((6 - kq : Nat) : Int) ∧ Aside0 (kq ≤ 6) ∧ Aside0 (tries k s0_3 kq (6 - kq) y = some (n, kd, x)) ∧ Aside0 (TokW w0 w w' g T R B b r3 s0_3 8 y))
  case atStart => exact ⟨(r2, r3, r4, r5), rfl, rfl, ⟨by omega⟩, ⟨ht⟩, ⟨hW7⟩⟩
  case round =>
    clear hc0 hc1 hc4 hf0 hf1 ht0 hft0 hR6 hT6 hB7 hW7 ht HG HS6 hw7
    obtain ⟨y, rfl, rfl, hk6, HT, HW⟩ := hrel
    cases gk with
    | zero =>
      have H := HT.out
      obtain ⟨rfl, rfl, rfl⟩ : (1 : Int) = n ∧ (8 : Int) = kd ∧ y = x := by simpa [tries] using H
      have hb0 : decide ((6 : Int) < 6) = false := by decide
      have HW9 := HW.out
      obtain ⟨AS9, cS9, HG9, hg9, HS9⟩ := HW9.st
      have hc0 := cellS125_0 HG9
      have hc1 := cellS125_1 HG9
      have hc4 := cellS125_4 HG9
      have hf1 := blk_frozen HG9 1
      have hf4 := blk_frozen HG9 4
      have ht0 : wr.cell? ⟨T, 0, none⟩ = some (.int .i64 8) := (blk_cell HW9.tok 0).trans rfl
      have ht2 : wr.cell? ⟨T, 2, none⟩ = some (.string ⟨#[]⟩) := (blk_cell HW9.tok 2).trans rfl
      have htf2 := blk_frozen HW9.tok 2
      have hwr : IntKind.i64.wrap (y.2.1 + 1) = y.2.1 + 1 := IntWalk.i64_in _ (by omega)
      have hwr2 : wrap64 (y.2.1 + 1) = y.2.1 + 1 := (i64_w _).symm.trans hwr
      have p1 : (0 ≤ y.2.1) = True := eq_true hx0
      have p2 : (y.2.1 ≤ y.2.1 + 1) = True := eq_true (by omega)
      have p3 : (y.2.1 + 1 ≤ (y.1.size : Int)) = True := eq_true hx1
      have q1 : decide (0 ≤ y.2.1) = true := decide_eq_true hx0
      have q2 : decide (y.2.1 ≤ y.2.1 + 1) = true := decide_eq_true (by omega)
      have q3 : decide (y.2.1 + 1 ≤ (y.1.size : Int)) = true := decide_eq_true hx1
      go_wp2
      go_region
      obtain ⟨w10, hw10⟩ : ∃ w10, (wr.setCell ⟨T, 2, none⟩ (.string (y.1.extract y.2.1.toNat (y.2.1 + 1).toNat))).drew = w10 := ⟨_, rfl⟩
      rw [hw10]
      have hI10 : IsS125 w0 w10 g y.1 y.2.1 y.2.2.1 s0_3 y.2.2.2 := hw10 ▸ (HW9.st.far hne1 _).drew
      have hB10 : Below w0.heap.size w0 w10 := hw10 ▸ below_drew1 (below_set HW9.below HW9.hT0)
      have hK10 : KeepBut w w10 g none := hw10 ▸ keep_drew (keep_far HW9.keep HW9.hT _)
      have hR10 : w10.heap[R]? = some (Obj.cells #[.int .i64 0, .string ⟨#[]⟩, .string ⟨#[]⟩, .int .i64 0] 95) := hw10 ▸ (blk_far (p := ⟨T, 2, none⟩) HW9.res (Ne.symm hTR) _)
      have hT10 : w10.heap[T]? = some (Obj.cells #[.int .i64 8, .string b, .string (y.1.extract y.2.1.toNat (y.2.1 + 1).toNat), .int .i64 r3] 95) := by
        have := blk_set HW9.tok 2 (.string (y.1.extract y.2.1.toNat (y.2.1 + 1).toNat))
        rw [← hw10]; show (wr.setCell ⟨T, 2, none⟩ _).heap[T]? = _; simpa using this
      have hTa := HW9.hT
      have hTb := HW9.hT0
      clear hc0 hc1 hc4 hf1 hf4 ht0 ht2 htf2 HG9 HW9 hw10
      have hI10' := Aside0.mk hI10
      obtain ⟨AS10, cS10, HG10, hg10, HS10⟩ := hI10
      have hc1 := cellS125_1 HG10
      have hc4 := cellS125_4 HG10
      have hf1 := blk_frozen HG10 1
      have hf4 := blk_frozen HG10 4
      have ht0 : w10.cell? ⟨T, 0, none⟩ = some (.int .i64 8) := (blk_cell hT10 0).trans rfl
      have ht1 : w10.cell? ⟨T, 1, none⟩ = some (.string b) := (blk_cell hT10 1).trans rfl
      have ht2 : w10.cell? ⟨T, 2, none⟩ = some (.string (y.1.extract y.2.1.toNat (y.2.1 + 1).toNat)) := (blk_cell hT10 2).trans rfl
      have ht3 : w10.cell? ⟨T, 3, none⟩ = some (.int .i64 r3) := (blk_cell hT10 3).trans rfl
      have hr0 : w10.cell? ⟨R, 0, none⟩ = some (.int .i64 0) := (blk_cell hR10 0).trans rfl
      have hr1 : w10.cell? ⟨R, 1, none⟩ = some (.string ⟨#[]⟩) := (blk_cell hR10 1).trans rfl
      have hr2 : w10.cell? ⟨R, 2, none⟩ = some (.string ⟨#[]⟩) := (blk_cell hR10 2).trans rfl
      have hr3 : w10.cell? ⟨R, 3, none⟩ = some (.int .i64 0) := (blk_cell hR10 3).trans rfl
      have hrf0 := blk_frozen hR10 0
      have hrf1 := blk_frozen hR10 1
      have hrf2 := blk_frozen hR10 2
      have hrf3 := blk_frozen hR10 3
      go_wp2
      repeat (go_quiet (fail); try go_wp2)
      have hR11 := blk_set (blk_set (blk_set (blk_set (blk_far (p := ⟨g, 4, none⟩) (blk_far (p := ⟨g, 1, none⟩) (show (w10.drewN nq).heap[R]? = _ from hR10) (Ne.symm hnel) (.int .i64 (y.2.1 + 1))) (Ne.symm hnel) (.bool false)) 0 (.int .i64 8)) 1 (.string b)) 2 (.string (y.1.extract y.2.1.toNat (y.2.1 + 1).toNat))) 3 (.int .i64 r3)
      have hv0 := blk_cell hR11 0
      have hv1 := blk_cell hR11 1
      have hv2 := blk_cell hR11 2
      have hv3 := blk_cell hR11 3
      simp at hv0 hv1 hv2 hv3
      (try simp only [Exit.inBlock, Exit.then])
      have hfk : finKind kw 8 (y.1.extract y.2.1.toNat (y.2.1 + 1).toNat) = 8 := by simp [finKind, kindAt]
      rw [hfk]
      refine bodyPost_ret (v := .agg #[.int .i64 8, .string b, .string (y.1.extract y.2.1.toNat (y.2.1 + 1).toNat), .int .i64 r3]) ?res rfl ⟨rfl, ?i1, ?i2, ?i3⟩
      case res =>
        clear hR11
        unfold results
        rw [show Tryz.f66.results = #[.cell 2 95] from rfl]
        go_simp
      case i1 => exact (((((((hI10'.out.drewN nq).set_1 _).set_4 _).far (p := ⟨R, 0, none⟩) hnel _).far (p := ⟨R, 1, none⟩) hnel _).far (p := ⟨R, 2, none⟩) hnel _).far (p := ⟨R, 3, none⟩) hnel _)
      case i2 => exact below_set (below_set (below_set (below_set (below_set (below_set (pw_below_drewN hB10 nq) hg10) hg10) hLR) hLR) hLR) hLR
      case i3 => exact keep_far (p := ⟨R, 3, none⟩) (keep_far (p := ⟨R, 2, none⟩) (keep_far (p := ⟨R, 1, none⟩) (keep_far (p := ⟨R, 0, none⟩) (KeepBut.set_ (KeepBut.set_ (keep_drewN hK10 nq) 1 _) 4 _) hLR' _) hLR' _) hLR' _) hLR' _
    | succ k1 =>
      have h6 := hk6.out
      have hcase : k1 = 5 ∨ k1 = 4 ∨ k1 = 3 ∨ k1 = 2 ∨ k1 = 1 ∨ k1 = 0 := by omega
      rcases hcase with rfl | rfl | rfl | rfl | rfl | rfl
      · have H := HT.out
        rw [tries_succ] at H
        obtain ⟨⟨m, y'⟩, hm, H⟩ := Option.bind_eq_some_iff.mp H
        have hgN : g ≠ wr.heap.size := by obtain ⟨_, _, hx, _⟩ := HW.out.st; have := heap_lt hx; omega
        have hcb0 : wr.cell? ⟨B, 0, none⟩ = some (.int .i64 7) := (blk_cell HW.out.tab 0).trans rfl
        have hcb1 : wr.cell? ⟨B, 1, none⟩ = some (.func (Fn.func 119) #[.pointer (some ⟨g, 0, none⟩)] #[]) := (blk_cell HW.out.tab 1).trans rfl
        have hm' : lex_scanner_line.f k y.1 y.2.1 y.2.2.1 s0_3 y.2.2.2 = some (m, y'.1, y'.2.1, y'.2.2.1, y'.2.2.2) := hm
        have hb0 : decide ((0 : Int) < 6) = true := by decide
        by_cases hm0 : 0 < m
        · have hd0 : decide (0 < m) = true := decide_eq_true hm0
          rw [if_pos hm0] at H
          obtain ⟨rfl, rfl, rfl⟩ : m = n ∧ kindAt 0 = kd ∧ y' = x := by simpa using H
          go_wp2_with (go_at_call 119; go_loud (refine (lex_scanner_line.calls k g y.1 y.2.1 y.2.2.1 s0_3 y.2.2.2 m y'.1 y'.2.1 y'.2.2.1 y'.2.2.2 w0 _ (HW.out.st.alloc _) (below_alloc HW.out.below _) hm').mono ?_; rintro e w8 ⟨rfl, hi8, hb8, hk8⟩; have HW8 := Aside0.mk (HW.out.step hi8 hb8 hk8 hne1 hnel hBg); have hN := (hk8.2 wr.heap.size (by simp) (Ne.symm hgN) (by simp)).trans (blk_new wr _); have hnc : w8.cell? ⟨wr.heap.size, 0, none⟩ = some (.int .i64 7) := (blk_cell hN 0).trans rfl; have htc : w8.cell? ⟨T, 0, none⟩ = some (.int .i64 8) := (blk_cell HW8.out.tok 0).trans rfl; have htf := blk_frozen HW8.out.tok 0))
          go_region
          obtain ⟨w9, hw9⟩ : ∃ w9, (w8.setCell ⟨T, 0, none⟩ (.int .i64 7)).drew = w9 := ⟨_, rfl⟩
          rw [hw9]
          have HW9 : TokW w0 w w9 g T R B b r3 s0_3 7 y' := hw9 ▸ HW8.out.kind 7 hne1 hTR hTB'
          clear hnc htc htf hN hcb0 hcb1 hi8 hb8 hk8 hw9 HW8
          obtain ⟨AS9, cS9, HG9, hg9, HS9⟩ := HW9.st
          have hc0 := cellS125_0 HG9
          have hc1 := cellS125_1 HG9
          have hc4 := cellS125_4 HG9
          have hf1 := blk_frozen HG9 1
          have hf4 := blk_frozen HG9 4
          have ht0 : w9.cell? ⟨T, 0, none⟩ = some (.int .i64 7) := (blk_cell HW9.tok 0).trans rfl
          have ht2 : w9.cell? ⟨T, 2, none⟩ = some (.string ⟨#[]⟩) := (blk_cell HW9.tok 2).trans rfl
          have htf2 := blk_frozen HW9.tok 2
          have hwr : IntKind.i64.wrap (y'.2.1 + m) = y'.2.1 + m := IntWalk.i64_in _ (by omega)
          have hwr2 : wrap64 (y'.2.1 + m) = y'.2.1 + m := (i64_w _).symm.trans hwr
          have p1 : (0 ≤ y'.2.1) = True := eq_true hx0
          have p2 : (y'.2.1 ≤ y'.2.1 + m) = True := eq_true (by omega)
          have p3 : (y'.2.1 + m ≤ (y'.1.size : Int)) = True := eq_true hx1
          have q1 : decide (0 ≤ y'.2.1) = true := decide_eq_true hx0
          have q2 : decide (y'.2.1 ≤ y'.2.1 + m) = true := decide_eq_true (by omega)
          have q3 : decide (y'.2.1 + m ≤ (y'.1.size : Int)) = true := decide_eq_true hx1
          go_wp2
          go_region
          obtain ⟨w10, hw10⟩ : ∃ w10, (w9.setCell ⟨T, 2, none⟩ (.string (y'.1.extract y'.2.1.toNat (y'.2.1 + m).toNat))).drew = w10 := ⟨_, rfl⟩
          rw [hw10]
          have hI10 : IsS125 w0 w10 g y'.1 y'.2.1 y'.2.2.1 s0_3 y'.2.2.2 := hw10 ▸ (HW9.st.far hne1 _).drew
          have hB10 : Below w0.heap.size w0 w10 := hw10 ▸ below_drew1 (below_set HW9.below HW9.hT0)
          have hK10 : KeepBut w w10 g none := hw10 ▸ keep_drew (keep_far HW9.keep HW9.hT _)
          have hR10 : w10.heap[R]? = some (Obj.cells #[.int .i64 0, .string ⟨#[]⟩, .string ⟨#[]⟩, .int .i64 0] 95) := hw10 ▸ (blk_far (p := ⟨T, 2, none⟩) HW9.res (Ne.symm hTR) _)
          have hT10 : w10.heap[T]? = some (Obj.cells #[.int .i64 7, .string b, .string (y'.1.extract y'.2.1.toNat (y'.2.1 + m).toNat), .int .i64 r3] 95) := by
            have := blk_set HW9.tok 2 (.string (y'.1.extract y'.2.1.toNat (y'.2.1 + m).toNat))
            rw [← hw10]; show (w9.setCell ⟨T, 2, none⟩ _).heap[T]? = _; simpa using this
          have hTa := HW9.hT
          have hTb := HW9.hT0
          clear hc0 hc1 hc4 hf1 hf4 ht0 ht2 htf2 HG9 HW9 hw10
          have hI10' := Aside0.mk hI10
          obtain ⟨AS10, cS10, HG10, hg10, HS10⟩ := hI10
          have hc1 := cellS125_1 HG10
          have hc4 := cellS125_4 HG10
          have hf1 := blk_frozen HG10 1
          have hf4 := blk_frozen HG10 4
          have ht0 : w10.cell? ⟨T, 0, none⟩ = some (.int .i64 7) := (blk_cell hT10 0).trans rfl
          have ht1 : w10.cell? ⟨T, 1, none⟩ = some (.string b) := (blk_cell hT10 1).trans rfl
          have ht2 : w10.cell? ⟨T, 2, none⟩ = some (.string (y'.1.extract y'.2.1.toNat (y'.2.1 + m).toNat)) := (blk_cell hT10 2).trans rfl
          have ht3 : w10.cell? ⟨T, 3, none⟩ = some (.int .i64 r3) := (blk_cell hT10 3).trans rfl
          have hr0 : w10.cell? ⟨R, 0, none⟩ = some (.int .i64 0) := (blk_cell hR10 0).trans rfl
          have hr1 : w10.cell? ⟨R, 1, none⟩ = some (.string ⟨#[]⟩) := (blk_cell hR10 1).trans rfl
          have hr2 : w10.cell? ⟨R, 2, none⟩ = some (.string ⟨#[]⟩) := (blk_cell hR10 2).trans rfl
          have hr3 : w10.cell? ⟨R, 3, none⟩ = some (.int .i64 0) := (blk_cell hR10 3).trans rfl
          have hrf0 := blk_frozen hR10 0
          have hrf1 := blk_frozen hR10 1
          have hrf2 := blk_frozen hR10 2
          have hrf3 := blk_frozen hR10 3
          go_wp2
          repeat (go_quiet (fail); try go_wp2)
          have hR11 := blk_set (blk_set (blk_set (blk_set (blk_far (p := ⟨g, 4, none⟩) (blk_far (p := ⟨g, 1, none⟩) (show (w10.drewN nq).heap[R]? = _ from hR10) (Ne.symm hnel) (.int .i64 (y'.2.1 + m))) (Ne.symm hnel) (.bool false)) 0 (.int .i64 7)) 1 (.string b)) 2 (.string (y'.1.extract y'.2.1.toNat (y'.2.1 + m).toNat))) 3 (.int .i64 r3)
          have hv0 := blk_cell hR11 0
          have hv1 := blk_cell hR11 1
          have hv2 := blk_cell hR11 2
          have hv3 := blk_cell hR11 3
          simp at hv0 hv1 hv2 hv3
          (try simp only [Exit.inBlock, Exit.then])
          have hfk : finKind kw (kindAt 0) (y'.1.extract y'.2.1.toNat (y'.2.1 + m).toNat) = 7 := by simp [finKind, kindAt]
          rw [hfk]
          refine bodyPost_ret (v := .agg #[.int .i64 7, .string b, .string (y'.1.extract y'.2.1.toNat (y'.2.1 + m).toNat), .int .i64 r3]) ?res rfl ⟨rfl, ?i1, ?i2, ?i3⟩
          case res =>
            clear hR11
            unfold results
            rw [show Tryz.f66.results = #[.cell 2 95] from rfl]
            go_simp
          case i1 => exact (((((((hI10'.out.drewN nq).set_1 _).set_4 _).far (p := ⟨R, 0, none⟩) hnel _).far (p := ⟨R, 1, none⟩) hnel _).far (p := ⟨R, 2, none⟩) hnel _).far (p := ⟨R, 3, none⟩) hnel _)
          case i2 => exact below_set (below_set (below_set (below_set (below_set (below_set (pw_below_drewN hB10 nq) hg10) hg10) hLR) hLR) hLR) hLR
          case i3 => exact keep_far (p := ⟨R, 3, none⟩) (keep_far (p := ⟨R, 2, none⟩) (keep_far (p := ⟨R, 1, none⟩) (keep_far (p := ⟨R, 0, none⟩) (KeepBut.set_ (KeepBut.set_ (keep_drewN hK10 nq) 1 _) 4 _) hLR' _) hLR' _) hLR' _) hLR' _
        · have hd0 : decide (0 < m) = false := decide_eq_false hm0
          rw [if_neg hm0] at H
          go_wp2_with (go_at_call 119; go_loud (refine (lex_scanner_line.calls k g y.1 y.2.1 y.2.2.1 s0_3 y.2.2.2 m y'.1 y'.2.1 y'.2.2.1 y'.2.2.2 w0 _ (HW.out.st.alloc _) (below_alloc HW.out.below _) hm').mono ?_; rintro e w8 ⟨rfl, hi8, hb8, hk8⟩; have HW8 := Aside0.mk (HW.out.step hi8 hb8 hk8 hne1 hnel hBg)))
          go_roundg 5
          case measure => omega
          case rel => exact ⟨y', rfl, rfl, ⟨by omega⟩, ⟨H⟩, HW8⟩
      · have H := HT.out
        rw [tries_succ] at H
        obtain ⟨⟨m, y'⟩, hm, H⟩ := Option.bind_eq_some_iff.mp H
        have hgN : g ≠ wr.heap.size := by obtain ⟨_, _, hx, _⟩ := HW.out.st; have := heap_lt hx; omega
        have hcb0 : wr.cell? ⟨B, 2, none⟩ = some (.int .i64 1) := (blk_cell HW.out.tab 2).trans rfl
        have hcb1 : wr.cell? ⟨B, 3, none⟩ = some (.func (Fn.func 120) #[.pointer (some ⟨g, 0, none⟩)] #[]) := (blk_cell HW.out.tab 3).trans rfl
        have hm' : lex_scanner_name.f k y.1 y.2.1 y.2.2.1 s0_3 y.2.2.2 = some (m, y'.1, y'.2.1, y'.2.2.1, y'.2.2.2) := hm
        have hb0 : decide ((1 : Int) < 6) = true := by decide
        by_cases hm0 : 0 < m
        · have hd0 : decide (0 < m) = true := decide_eq_true hm0
          rw [if_pos hm0] at H
          obtain ⟨rfl, rfl, rfl⟩ : m = n ∧ kindAt 1 = kd ∧ y' = x := by simpa using H
          go_wp2_with (go_at_call 120; go_loud (refine (lex_scanner_name.calls k g y.1 y.2.1 y.2.2.1 s0_3 y.2.2.2 m y'.1 y'.2.1 y'.2.2.1 y'.2.2.2 w0 _ (HW.out.st.alloc _) (below_alloc HW.out.below _) hm').mono ?_; rintro e w8 ⟨rfl, hi8, hb8, hk8⟩; have HW8 := Aside0.mk (HW.out.step hi8 hb8 hk8 hne1 hnel hBg); have hN := (hk8.2 wr.heap.size (by simp) (Ne.symm hgN) (by simp)).trans (blk_new wr _); have hnc : w8.cell? ⟨wr.heap.size, 0, none⟩ = some (.int .i64 1) := (blk_cell hN 0).trans rfl; have htc : w8.cell? ⟨T, 0, none⟩ = some (.int .i64 8) := (blk_cell HW8.out.tok 0).trans rfl; have htf := blk_frozen HW8.out.tok 0))
          go_region
          obtain ⟨w9, hw9⟩ : ∃ w9, (w8.setCell ⟨T, 0, none⟩ (.int .i64 1)).drew = w9 := ⟨_, rfl⟩
          rw [hw9]
          have HW9 : TokW w0 w w9 g T R B b r3 s0_3 1 y' := hw9 ▸ HW8.out.kind 1 hne1 hTR hTB'
          clear hnc htc htf hN hcb0 hcb1 hi8 hb8 hk8 hw9 HW8
          obtain ⟨AS9, cS9, HG9, hg9, HS9⟩ := HW9.st
          have hc0 := cellS125_0 HG9
          have hc1 := cellS125_1 HG9
          have hc4 := cellS125_4 HG9
          have hf1 := blk_frozen HG9 1
          have hf4 := blk_frozen HG9 4
          have ht0 : w9.cell? ⟨T, 0, none⟩ = some (.int .i64 1) := (blk_cell HW9.tok 0).trans rfl
          have ht2 : w9.cell? ⟨T, 2, none⟩ = some (.string ⟨#[]⟩) := (blk_cell HW9.tok 2).trans rfl
          have htf2 := blk_frozen HW9.tok 2
          have hwr : IntKind.i64.wrap (y'.2.1 + m) = y'.2.1 + m := IntWalk.i64_in _ (by omega)
          have hwr2 : wrap64 (y'.2.1 + m) = y'.2.1 + m := (i64_w _).symm.trans hwr
          have p1 : (0 ≤ y'.2.1) = True := eq_true hx0
          have p2 : (y'.2.1 ≤ y'.2.1 + m) = True := eq_true (by omega)
          have p3 : (y'.2.1 + m ≤ (y'.1.size : Int)) = True := eq_true hx1
          have q1 : decide (0 ≤ y'.2.1) = true := decide_eq_true hx0
          have q2 : decide (y'.2.1 ≤ y'.2.1 + m) = true := decide_eq_true (by omega)
          have q3 : decide (y'.2.1 + m ≤ (y'.1.size : Int)) = true := decide_eq_true hx1
          go_wp2
          go_region
          obtain ⟨w10, hw10⟩ : ∃ w10, (w9.setCell ⟨T, 2, none⟩ (.string (y'.1.extract y'.2.1.toNat (y'.2.1 + m).toNat))).drew = w10 := ⟨_, rfl⟩
          rw [hw10]
          have hI10 : IsS125 w0 w10 g y'.1 y'.2.1 y'.2.2.1 s0_3 y'.2.2.2 := hw10 ▸ (HW9.st.far hne1 _).drew
          have hB10 : Below w0.heap.size w0 w10 := hw10 ▸ below_drew1 (below_set HW9.below HW9.hT0)
          have hK10 : KeepBut w w10 g none := hw10 ▸ keep_drew (keep_far HW9.keep HW9.hT _)
          have hR10 : w10.heap[R]? = some (Obj.cells #[.int .i64 0, .string ⟨#[]⟩, .string ⟨#[]⟩, .int .i64 0] 95) := hw10 ▸ (blk_far (p := ⟨T, 2, none⟩) HW9.res (Ne.symm hTR) _)
          have hT10 : w10.heap[T]? = some (Obj.cells #[.int .i64 1, .string b, .string (y'.1.extract y'.2.1.toNat (y'.2.1 + m).toNat), .int .i64 r3] 95) := by
            have := blk_set HW9.tok 2 (.string (y'.1.extract y'.2.1.toNat (y'.2.1 + m).toNat))
            rw [← hw10]; show (w9.setCell ⟨T, 2, none⟩ _).heap[T]? = _; simpa using this
          have hTa := HW9.hT
          have hTb := HW9.hT0
          have hM10 : KwMap w10 s0_2 kw := (by obtain ⟨Ax, cx, hgx, _⟩ := HI0.out; exact hM.keep hK10 hgx)
          clear hc0 hc1 hc4 hf1 hf4 ht0 ht2 htf2 HG9 HW9 hw10
          have hI10' := Aside0.mk hI10
          obtain ⟨AS10, cS10, HG10, hg10, HS10⟩ := hI10
          have hc1 := cellS125_1 HG10
          have hc4 := cellS125_4 HG10
          have hf1 := blk_frozen HG10 1
          have hf4 := blk_frozen HG10 4
          have ht0 : w10.cell? ⟨T, 0, none⟩ = some (.int .i64 1) := (blk_cell hT10 0).trans rfl
          have ht1 : w10.cell? ⟨T, 1, none⟩ = some (.string b) := (blk_cell hT10 1).trans rfl
          have ht2 : w10.cell? ⟨T, 2, none⟩ = some (.string (y'.1.extract y'.2.1.toNat (y'.2.1 + m).toNat)) := (blk_cell hT10 2).trans rfl
          have ht3 : w10.cell? ⟨T, 3, none⟩ = some (.int .i64 r3) := (blk_cell hT10 3).trans rfl
          have hr0 : w10.cell? ⟨R, 0, none⟩ = some (.int .i64 0) := (blk_cell hR10 0).trans rfl
          have hr1 : w10.cell? ⟨R, 1, none⟩ = some (.string ⟨#[]⟩) := (blk_cell hR10 1).trans rfl
          have hr2 : w10.cell? ⟨R, 2, none⟩ = some (.string ⟨#[]⟩) := (blk_cell hR10 2).trans rfl
          have hr3 : w10.cell? ⟨R, 3, none⟩ = some (.int .i64 0) := (blk_cell hR10 3).trans rfl
          have hrf0 := blk_frozen hR10 0
          have hrf1 := blk_frozen hR10 1
          have hrf2 := blk_frozen hR10 2
          have hrf3 := blk_frozen hR10 3
          have hc2 := cellS125_2 HG10
          have htf0 := blk_frozen hT10 0
          have hlk : ∀ q, (Instr.lookup 112 s0_2 (.string (y'.1.extract y'.2.1.toNat (y'.2.1 + m).toNat)) false).run Tryz.prog (w10.drewN q) = .ok (.bool (kw.contains (y'.1.extract y'.2.1.toNat (y'.2.1 + m).toNat))) (w10.drewN q) := fun q => KwMap.run (W := w10.drewN q) hM10 _
          have hr0 : w10.cell? ⟨R, 0, none⟩ = some (.int .i64 0) := (blk_cell hR10 0).trans rfl
          have hr1 : w10.cell? ⟨R, 1, none⟩ = some (.string ⟨#[]⟩) := (blk_cell hR10 1).trans rfl
          have hr2 : w10.cell? ⟨R, 2, none⟩ = some (.string ⟨#[]⟩) := (blk_cell hR10 2).trans rfl
          have hr3 : w10.cell? ⟨R, 3, none⟩ = some (.int .i64 0) := (blk_cell hR10 3).trans rfl
          have hrf0 := blk_frozen hR10 0
          have hrf1 := blk_frozen hR10 1
          have hrf2 := blk_frozen hR10 2
          have hrf3 := blk_frozen hR10 3
          cases hkw : kw.contains (y'.1.extract y'.2.1.toNat (y'.2.1 + m).toNat)
          · rw [hkw] at hlk
            go_wp2
            repeat (go_quiet (fail); try go_wp2)
            have hR11 := blk_set (blk_set (blk_set (blk_set (blk_far (p := ⟨g, 4, none⟩) (blk_far (p := ⟨g, 1, none⟩) (show (w10.drewN nq).heap[R]? = _ from hR10) (Ne.symm hnel) (.int .i64 (y'.2.1 + m))) (Ne.symm hnel) (.bool false)) 0 (.int .i64 1)) 1 (.string b)) 2 (.string (y'.1.extract y'.2.1.toNat (y'.2.1 + m).toNat))) 3 (.int .i64 r3)
            have hv0 := blk_cell hR11 0
            have hv1 := blk_cell hR11 1
            have hv2 := blk_cell hR11 2
            have hv3 := blk_cell hR11 3
            simp at hv0 hv1 hv2 hv3
            (try simp only [Exit.inBlock, Exit.then])
            have hfk : finKind kw 1 (y'.1.extract y'.2.1.toNat (y'.2.1 + m).toNat) = 1 := by simp [finKind, hkw]
            simp only [kindAt] at *
            rw [hfk]
            refine bodyPost_ret (v := .agg #[.int .i64 1, .string b, .string (y'.1.extract y'.2.1.toNat (y'.2.1 + m).toNat), .int .i64 r3]) ?res rfl ⟨rfl, ?i1, ?i2, ?i3⟩
            case res =>
              clear hR11
              unfold results
              rw [show Tryz.f66.results = #[.cell 2 95] from rfl]
              go_simp
            case i1 => exact (((((((hI10'.out.drewN nq).set_1 _).set_4 _).far (p := ⟨R, 0, none⟩) hnel _).far (p := ⟨R, 1, none⟩) hnel _).far (p := ⟨R, 2, none⟩) hnel _).far (p := ⟨R, 3, none⟩) hnel _)
            case i2 => exact below_set (below_set (below_set (below_set (below_set (below_set (pw_below_drewN hB10 nq) hg10) hg10) hLR) hLR) hLR) hLR
            case i3 => exact keep_far (p := ⟨R, 3, none⟩) (keep_far (p := ⟨R, 2, none⟩) (keep_far (p := ⟨R, 1, none⟩) (keep_far (p := ⟨R, 0, none⟩) (KeepBut.set_ (KeepBut.set_ (keep_drewN hK10 nq) 1 _) 4 _) hLR' _) hLR' _) hLR' _) hLR' _
          · rw [hkw] at hlk
            go_wp2
            repeat (go_quiet (fail); try go_wp2)
            have hR11 := blk_set (blk_set (blk_set (blk_set (blk_far (p := ⟨g, 4, none⟩) (blk_far (p := ⟨g, 1, none⟩) (blk_far (p := ⟨T, 0, none⟩) (show (w10.drewN nq).heap[R]? = _ from hR10) (Ne.symm hTR) (.int .i64 2)) (Ne.symm hnel) (.int .i64 (y'.2.1 + m))) (Ne.symm hnel) (.bool false)) 0 (.int .i64 2)) 1 (.string b)) 2 (.string (y'.1.extract y'.2.1.toNat (y'.2.1 + m).toNat))) 3 (.int .i64 r3)
            have hv0 := blk_cell hR11 0
            have hv1 := blk_cell hR11 1
            have hv2 := blk_cell hR11 2
            have hv3 := blk_cell hR11 3
            simp at hv0 hv1 hv2 hv3
            (try simp only [Exit.inBlock, Exit.then])
            have hfk : finKind kw 1 (y'.1.extract y'.2.1.toNat (y'.2.1 + m).toNat) = 2 := by simp [finKind, hkw]
            simp only [kindAt] at *
            rw [hfk]
            refine bodyPost_ret (v := .agg #[.int .i64 2, .string b, .string (y'.1.extract y'.2.1.toNat (y'.2.1 + m).toNat), .int .i64 r3]) ?res rfl ⟨rfl, ?i1, ?i2, ?i3⟩
            case res =>
              clear hR11
              unfold results
              rw [show Tryz.f66.results = #[.cell 2 95] from rfl]
              go_simp
            case i1 => exact ((((((((hI10'.out.drewN nq).far (p := ⟨T, 0, none⟩) hne1 (.int .i64 2)).set_1 _).set_4 _).far (p := ⟨R, 0, none⟩) hnel _).far (p := ⟨R, 1, none⟩) hnel _).far (p := ⟨R, 2, none⟩) hnel _).far (p := ⟨R, 3, none⟩) hnel _)
            case i2 => exact below_set (below_set (below_set (below_set (below_set (below_set (below_set (pw_below_drewN hB10 nq) hTb) hg10) hg10) hLR) hLR) hLR) hLR
            case i3 => exact keep_far (p := ⟨R, 3, none⟩) (keep_far (p := ⟨R, 2, none⟩) (keep_far (p := ⟨R, 1, none⟩) (keep_far (p := ⟨R, 0, none⟩) (KeepBut.set_ (KeepBut.set_ (keep_far (p := ⟨T, 0, none⟩) (keep_drewN hK10 nq) hTa _) 1 _) 4 _) hLR' _) hLR' _) hLR' _) hLR' _
        · have hd0 : decide (0 < m) = false := decide_eq_false hm0
          rw [if_neg hm0] at H
          go_wp2_with (go_at_call 120; go_loud (refine (lex_scanner_name.calls k g y.1 y.2.1 y.2.2.1 s0_3 y.2.2.2 m y'.1 y'.2.1 y'.2.2.1 y'.2.2.2 w0 _ (HW.out.st.alloc _) (below_alloc HW.out.below _) hm').mono ?_; rintro e w8 ⟨rfl, hi8, hb8, hk8⟩; have HW8 := Aside0.mk (HW.out.step hi8 hb8 hk8 hne1 hnel hBg)))
          go_roundg 4
          case measure => omega
          case rel => exact ⟨y', rfl, rfl, ⟨by omega⟩, ⟨H⟩, HW8⟩
      · have H := HT.out
        rw [tries_succ] at H
        obtain ⟨⟨m, y'⟩, hm, H⟩ := Option.bind_eq_some_iff.mp H
        have hgN : g ≠ wr.heap.size := by obtain ⟨_, _, hx, _⟩ := HW.out.st; have := heap_lt hx; omega
        have hcb0 : wr.cell? ⟨B, 4, none⟩ = some (.int .i64 3) := (blk_cell HW.out.tab 4).trans rfl
        have hcb1 : wr.cell? ⟨B, 5, none⟩ = some (.func (Fn.func 121) #[.pointer (some ⟨g, 0, none⟩)] #[]) := (blk_cell HW.out.tab 5).trans rfl
        have hm' : lex_scanner_number.f k y.1 y.2.1 y.2.2.1 s0_3 y.2.2.2 = some (m, y'.1, y'.2.1, y'.2.2.1, y'.2.2.2) := hm
        have hb0 : decide ((2 : Int) < 6) = true := by decide
        by_cases hm0 : 0 < m
        · have hd0 : decide (0 < m) = true := decide_eq_true hm0
          rw [if_pos hm0] at H
          obtain ⟨rfl, rfl, rfl⟩ : m = n ∧ kindAt 2 = kd ∧ y' = x := by simpa using H
          go_wp2_with (go_at_call 121; go_loud (refine (lex_scanner_number.calls k g y.1 y.2.1 y.2.2.1 s0_3 y.2.2.2 m y'.1 y'.2.1 y'.2.2.1 y'.2.2.2 w0 _ (HW.out.st.alloc _) (below_alloc HW.out.below _) hm').mono ?_; rintro e w8 ⟨rfl, hi8, hb8, hk8⟩; have HW8 := Aside0.mk (HW.out.step hi8 hb8 hk8 hne1 hnel hBg); have hN := (hk8.2 wr.heap.size (by simp) (Ne.symm hgN) (by simp)).trans (blk_new wr _); have hnc : w8.cell? ⟨wr.heap.size, 0, none⟩ = some (.int .i64 3) := (blk_cell hN 0).trans rfl; have htc : w8.cell? ⟨T, 0, none⟩ = some (.int .i64 8) := (blk_cell HW8.out.tok 0).trans rfl; have htf := blk_frozen HW8.out.tok 0))
          go_region
          obtain ⟨w9, hw9⟩ : ∃ w9, (w8.setCell ⟨T, 0, none⟩ (.int .i64 3)).drew = w9 := ⟨_, rfl⟩
          rw [hw9]
          have HW9 : TokW w0 w w9 g T R B b r3 s0_3 3 y' := hw9 ▸ HW8.out.kind 3 hne1 hTR hTB'
          clear hnc htc htf hN hcb0 hcb1 hi8 hb8 hk8 hw9 HW8
          obtain ⟨AS9, cS9, HG9, hg9, HS9⟩ := HW9.st
          have hc0 := cellS125_0 HG9
          have hc1 := cellS125_1 HG9
          have hc4 := cellS125_4 HG9
          have hf1 := blk_frozen HG9 1
          have hf4 := blk_frozen HG9 4
          have ht0 : w9.cell? ⟨T, 0, none⟩ = some (.int .i64 3) := (blk_cell HW9.tok 0).trans rfl
          have ht2 : w9.cell? ⟨T, 2, none⟩ = some (.string ⟨#[]⟩) := (blk_cell HW9.tok 2).trans rfl
          have htf2 := blk_frozen HW9.tok 2
          have hwr : IntKind.i64.wrap (y'.2.1 + m) = y'.2.1 + m := IntWalk.i64_in _ (by omega)
          have hwr2 : wrap64 (y'.2.1 + m) = y'.2.1 + m := (i64_w _).symm.trans hwr
          have p1 : (0 ≤ y'.2.1) = True := eq_true hx0
          have p2 : (y'.2.1 ≤ y'.2.1 + m) = True := eq_true (by omega)
          have p3 : (y'.2.1 + m ≤ (y'.1.size : Int)) = True := eq_true hx1
          have q1 : decide (0 ≤ y'.2.1) = true := decide_eq_true hx0
          have q2 : decide (y'.2.1 ≤ y'.2.1 + m) = true := decide_eq_true (by omega)
          have q3 : decide (y'.2.1 + m ≤ (y'.1.size : Int)) = true := decide_eq_true hx1
          go_wp2
          go_region
          obtain ⟨w10, hw10⟩ : ∃ w10, (w9.setCell ⟨T, 2, none⟩ (.string (y'.1.extract y'.2.1.toNat (y'.2.1 + m).toNat))).drew = w10 := ⟨_, rfl⟩
          rw [hw10]
          have hI10 : IsS125 w0 w10 g y'.1 y'.2.1 y'.2.2.1 s0_3 y'.2.2.2 := hw10 ▸ (HW9.st.far hne1 _).drew
          have hB10 : Below w0.heap.size w0 w10 := hw10 ▸ below_drew1 (below_set HW9.below HW9.hT0)
          have hK10 : KeepBut w w10 g none := hw10 ▸ keep_drew (keep_far HW9.keep HW9.hT _)
          have hR10 : w10.heap[R]? = some (Obj.cells #[.int .i64 0, .string ⟨#[]⟩, .string ⟨#[]⟩, .int .i64 0] 95) := hw10 ▸ (blk_far (p := ⟨T, 2, none⟩) HW9.res (Ne.symm hTR) _)
          have hT10 : w10.heap[T]? = some (Obj.cells #[.int .i64 3, .string b, .string (y'.1.extract y'.2.1.toNat (y'.2.1 + m).toNat), .int .i64 r3] 95) := by
            have := blk_set HW9.tok 2 (.string (y'.1.extract y'.2.1.toNat (y'.2.1 + m).toNat))
            rw [← hw10]; show (w9.setCell ⟨T, 2, none⟩ _).heap[T]? = _; simpa using this
          have hTa := HW9.hT
          have hTb := HW9.hT0
          clear hc0 hc1 hc4 hf1 hf4 ht0 ht2 htf2 HG9 HW9 hw10
          have hI10' := Aside0.mk hI10
          obtain ⟨AS10, cS10, HG10, hg10, HS10⟩ := hI10
          have hc1 := cellS125_1 HG10
          have hc4 := cellS125_4 HG10
          have hf1 := blk_frozen HG10 1
          have hf4 := blk_frozen HG10 4
          have ht0 : w10.cell? ⟨T, 0, none⟩ = some (.int .i64 3) := (blk_cell hT10 0).trans rfl
          have ht1 : w10.cell? ⟨T, 1, none⟩ = some (.string b) := (blk_cell hT10 1).trans rfl
          have ht2 : w10.cell? ⟨T, 2, none⟩ = some (.string (y'.1.extract y'.2.1.toNat (y'.2.1 + m).toNat)) := (blk_cell hT10 2).trans rfl
          have ht3 : w10.cell? ⟨T, 3, none⟩ = some (.int .i64 r3) := (blk_cell hT10 3).trans rfl
          have hr0 : w10.cell? ⟨R, 0, none⟩ = some (.int .i64 0) := (blk_cell hR10 0).trans rfl
          have hr1 : w10.cell? ⟨R, 1, none⟩ = some (.string ⟨#[]⟩) := (blk_cell hR10 1).trans rfl
          have hr2 : w10.cell? ⟨R, 2, none⟩ = some (.string ⟨#[]⟩) := (blk_cell hR10 2).trans rfl
          have hr3 : w10.cell? ⟨R, 3, none⟩ = some (.int .i64 0) := (blk_cell hR10 3).trans rfl
          have hrf0 := blk_frozen hR10 0
          have hrf1 := blk_frozen hR10 1
          have hrf2 := blk_frozen hR10 2
          have hrf3 := blk_frozen hR10 3
          go_wp2
          repeat (go_quiet (fail); try go_wp2)
          have hR11 := blk_set (blk_set (blk_set (blk_set (blk_far (p := ⟨g, 4, none⟩) (blk_far (p := ⟨g, 1, none⟩) (show (w10.drewN nq).heap[R]? = _ from hR10) (Ne.symm hnel) (.int .i64 (y'.2.1 + m))) (Ne.symm hnel) (.bool false)) 0 (.int .i64 3)) 1 (.string b)) 2 (.string (y'.1.extract y'.2.1.toNat (y'.2.1 + m).toNat))) 3 (.int .i64 r3)
          have hv0 := blk_cell hR11 0
          have hv1 := blk_cell hR11 1
          have hv2 := blk_cell hR11 2
          have hv3 := blk_cell hR11 3
          simp at hv0 hv1 hv2 hv3
          (try simp only [Exit.inBlock, Exit.then])
          have hfk : finKind kw (kindAt 2) (y'.1.extract y'.2.1.toNat (y'.2.1 + m).toNat) = 3 := by simp [finKind, kindAt]
          rw [hfk]
          refine bodyPost_ret (v := .agg #[.int .i64 3, .string b, .string (y'.1.extract y'.2.1.toNat (y'.2.1 + m).toNat), .int .i64 r3]) ?res rfl ⟨rfl, ?i1, ?i2, ?i3⟩
          case res =>
            clear hR11
            unfold results
            rw [show Tryz.f66.results = #[.cell 2 95] from rfl]
            go_simp
          case i1 => exact (((((((hI10'.out.drewN nq).set_1 _).set_4 _).far (p := ⟨R, 0, none⟩) hnel _).far (p := ⟨R, 1, none⟩) hnel _).far (p := ⟨R, 2, none⟩) hnel _).far (p := ⟨R, 3, none⟩) hnel _)
          case i2 => exact below_set (below_set (below_set (below_set (below_set (below_set (pw_below_drewN hB10 nq) hg10) hg10) hLR) hLR) hLR) hLR
          case i3 => exact keep_far (p := ⟨R, 3, none⟩) (keep_far (p := ⟨R, 2, none⟩) (keep_far (p := ⟨R, 1, none⟩) (keep_far (p := ⟨R, 0, none⟩) (KeepBut.set_ (KeepBut.set_ (keep_drewN hK10 nq) 1 _) 4 _) hLR' _) hLR' _) hLR' _) hLR' _
        · have hd0 : decide (0 < m) = false := decide_eq_false hm0
          rw [if_neg hm0] at H
          go_wp2_with (go_at_call 121; go_loud (refine (lex_scanner_number.calls k g y.1 y.2.1 y.2.2.1 s0_3 y.2.2.2 m y'.1 y'.2.1 y'.2.2.1 y'.2.2.2 w0 _ (HW.out.st.alloc _) (below_alloc HW.out.below _) hm').mono ?_; rintro e w8 ⟨rfl, hi8, hb8, hk8⟩; have HW8 := Aside0.mk (HW.out.step hi8 hb8 hk8 hne1 hnel hBg)))
          go_roundg 3
          case measure => omega
          case rel => exact ⟨y', rfl, rfl, ⟨by omega⟩, ⟨H⟩, HW8⟩
      · have H := HT.out
        rw [tries_succ] at H
        obtain ⟨⟨m, y'⟩, hm, H⟩ := Option.bind_eq_some_iff.mp H
        have hgN : g ≠ wr.heap.size := by obtain ⟨_, _, hx, _⟩ := HW.out.st; have := heap_lt hx; omega
        have hcb0 : wr.cell? ⟨B, 6, none⟩ = some (.int .i64 4) := (blk_cell HW.out.tab 6).trans rfl
        have hcb1 : wr.cell? ⟨B, 7, none⟩ = some (.func (Fn.func 122) #[.pointer (some ⟨g, 0, none⟩)] #[]) := (blk_cell HW.out.tab 7).trans rfl
        have hm' : lex_scanner_char.f k y.1 y.2.1 y.2.2.1 s0_3 y.2.2.2 = some (m, y'.1, y'.2.1, y'.2.2.1, y'.2.2.2) := hm
        have hb0 : decide ((3 : Int) < 6) = true := by decide
        by_cases hm0 : 0 < m
        · have hd0 : decide (0 < m) = true := decide_eq_true hm0
          rw [if_pos hm0] at H
          obtain ⟨rfl, rfl, rfl⟩ : m = n ∧ kindAt 3 = kd ∧ y' = x := by simpa using H
          go_wp2_with (go_at_call 122; go_loud (refine (lex_scanner_char.calls k g y.1 y.2.1 y.2.2.1 s0_3 y.2.2.2 m y'.1 y'.2.1 y'.2.2.1 y'.2.2.2 w0 _ (HW.out.st.alloc _) (below_alloc HW.out.below _) hm').mono ?_; rintro e w8 ⟨rfl, hi8, hb8, hk8⟩; have HW8 := Aside0.mk (HW.out.step hi8 hb8 hk8 hne1 hnel hBg); have hN := (hk8.2 wr.heap.size (by simp) (Ne.symm hgN) (by simp)).trans (blk_new wr _); have hnc : w8.cell? ⟨wr.heap.size, 0, none⟩ = some (.int .i64 4) := (blk_cell hN 0).trans rfl; have htc : w8.cell? ⟨T, 0, none⟩ = some (.int .i64 8) := (blk_cell HW8.out.tok 0).trans rfl; have htf := blk_frozen HW8.out.tok 0))
          go_region
          obtain ⟨w9, hw9⟩ : ∃ w9, (w8.setCell ⟨T, 0, none⟩ (.int .i64 4)).drew = w9 := ⟨_, rfl⟩
          rw [hw9]
          have HW9 : TokW w0 w w9 g T R B b r3 s0_3 4 y' := hw9 ▸ HW8.out.kind 4 hne1 hTR hTB'
          clear hnc htc htf hN hcb0 hcb1 hi8 hb8 hk8 hw9 HW8
          obtain ⟨AS9, cS9, HG9, hg9, HS9⟩ := HW9.st
          have hc0 := cellS125_0 HG9
          have hc1 := cellS125_1 HG9
          have hc4 := cellS125_4 HG9
          have hf1 := blk_frozen HG9 1
          have hf4 := blk_frozen HG9 4
          have ht0 : w9.cell? ⟨T, 0, none⟩ = some (.int .i64 4) := (blk_cell HW9.tok 0).trans rfl
          have ht2 : w9.cell? ⟨T, 2, none⟩ = some (.string ⟨#[]⟩) := (blk_cell HW9.tok 2).trans rfl
          have htf2 := blk_frozen HW9.tok 2
          have hwr : IntKind.i64.wrap (y'.2.1 + m) = y'.2.1 + m := IntWalk.i64_in _ (by omega)
          have hwr2 : wrap64 (y'.2.1 + m) = y'.2.1 + m := (i64_w _).symm.trans hwr
          have p1 : (0 ≤ y'.2.1) = True := eq_true hx0
          have p2 : (y'.2.1 ≤ y'.2.1 + m) = True := eq_true (by omega)
          have p3 : (y'.2.1 + m ≤ (y'.1.size : Int)) = True := eq_true hx1
          have q1 : decide (0 ≤ y'.2.1) = true := decide_eq_true hx0
          have q2 : decide (y'.2.1 ≤ y'.2.1 + m) = true := decide_eq_true (by omega)
          have q3 : decide (y'.2.1 + m ≤ (y'.1.size : Int)) = true := decide_eq_true hx1
          go_wp2
          go_region
          obtain ⟨w10, hw10⟩ : ∃ w10, (w9.setCell ⟨T, 2, none⟩ (.string (y'.1.extract y'.2.1.toNat (y'.2.1 + m).toNat))).drew = w10 := ⟨_, rfl⟩
          rw [hw10]
          have hI10 : IsS125 w0 w10 g y'.1 y'.2.1 y'.2.2.1 s0_3 y'.2.2.2 := hw10 ▸ (HW9.st.far hne1 _).drew
          have hB10 : Below w0.heap.size w0 w10 := hw10 ▸ below_drew1 (below_set HW9.below HW9.hT0)
          have hK10 : KeepBut w w10 g none := hw10 ▸ keep_drew (keep_far HW9.keep HW9.hT _)
          have hR10 : w10.heap[R]? = some (Obj.cells #[.int .i64 0, .string ⟨#[]⟩, .string ⟨#[]⟩, .int .i64 0] 95) := hw10 ▸ (blk_far (p := ⟨T, 2, none⟩) HW9.res (Ne.symm hTR) _)
          have hT10 : w10.heap[T]? = some (Obj.cells #[.int .i64 4, .string b, .string (y'.1.extract y'.2.1.toNat (y'.2.1 + m).toNat), .int .i64 r3] 95) := by
            have := blk_set HW9.tok 2 (.string (y'.1.extract y'.2.1.toNat (y'.2.1 + m).toNat))
            rw [← hw10]; show (w9.setCell ⟨T, 2, none⟩ _).heap[T]? = _; simpa using this
          have hTa := HW9.hT
          have hTb := HW9.hT0
          clear hc0 hc1 hc4 hf1 hf4 ht0 ht2 htf2 HG9 HW9 hw10
          have hI10' := Aside0.mk hI10
          obtain ⟨AS10, cS10, HG10, hg10, HS10⟩ := hI10
          have hc1 := cellS125_1 HG10
          have hc4 := cellS125_4 HG10
          have hf1 := blk_frozen HG10 1
          have hf4 := blk_frozen HG10 4
          have ht0 : w10.cell? ⟨T, 0, none⟩ = some (.int .i64 4) := (blk_cell hT10 0).trans rfl
          have ht1 : w10.cell? ⟨T, 1, none⟩ = some (.string b) := (blk_cell hT10 1).trans rfl
          have ht2 : w10.cell? ⟨T, 2, none⟩ = some (.string (y'.1.extract y'.2.1.toNat (y'.2.1 + m).toNat)) := (blk_cell hT10 2).trans rfl
          have ht3 : w10.cell? ⟨T, 3, none⟩ = some (.int .i64 r3) := (blk_cell hT10 3).trans rfl
          have hr0 : w10.cell? ⟨R, 0, none⟩ = some (.int .i64 0) := (blk_cell hR10 0).trans rfl
          have hr1 : w10.cell? ⟨R, 1, none⟩ = some (.string ⟨#[]⟩) := (blk_cell hR10 1).trans rfl
          have hr2 : w10.cell? ⟨R, 2, none⟩ = some (.string ⟨#[]⟩) := (blk_cell hR10 2).trans rfl
          have hr3 : w10.cell? ⟨R, 3, none⟩ = some (.int .i64 0) := (blk_cell hR10 3).trans rfl
          have hrf0 := blk_frozen hR10 0
          have hrf1 := blk_frozen hR10 1
          have hrf2 := blk_frozen hR10 2
          have hrf3 := blk_frozen hR10 3
          go_wp2
          repeat (go_quiet (fail); try go_wp2)
          have hR11 := blk_set (blk_set (blk_set (blk_set (blk_far (p := ⟨g, 4, none⟩) (blk_far (p := ⟨g, 1, none⟩) (show (w10.drewN nq).heap[R]? = _ from hR10) (Ne.symm hnel) (.int .i64 (y'.2.1 + m))) (Ne.symm hnel) (.bool false)) 0 (.int .i64 4)) 1 (.string b)) 2 (.string (y'.1.extract y'.2.1.toNat (y'.2.1 + m).toNat))) 3 (.int .i64 r3)
          have hv0 := blk_cell hR11 0
          have hv1 := blk_cell hR11 1
          have hv2 := blk_cell hR11 2
          have hv3 := blk_cell hR11 3
          simp at hv0 hv1 hv2 hv3
          (try simp only [Exit.inBlock, Exit.then])
          have hfk : finKind kw (kindAt 3) (y'.1.extract y'.2.1.toNat (y'.2.1 + m).toNat) = 4 := by simp [finKind, kindAt]
          rw [hfk]
          refine bodyPost_ret (v := .agg #[.int .i64 4, .string b, .string (y'.1.extract y'.2.1.toNat (y'.2.1 + m).toNat), .int .i64 r3]) ?res rfl ⟨rfl, ?i1, ?i2, ?i3⟩
          case res =>
            clear hR11
            unfold results
            rw [show Tryz.f66.results = #[.cell 2 95] from rfl]
            go_simp
          case i1 => exact (((((((hI10'.out.drewN nq).set_1 _).set_4 _).far (p := ⟨R, 0, none⟩) hnel _).far (p := ⟨R, 1, none⟩) hnel _).far (p := ⟨R, 2, none⟩) hnel _).far (p := ⟨R, 3, none⟩) hnel _)
          case i2 => exact below_set (below_set (below_set (below_set (below_set (below_set (pw_below_drewN hB10 nq) hg10) hg10) hLR) hLR) hLR) hLR
          case i3 => exact keep_far (p := ⟨R, 3, none⟩) (keep_far (p := ⟨R, 2, none⟩) (keep_far (p := ⟨R, 1, none⟩) (keep_far (p := ⟨R, 0, none⟩) (KeepBut.set_ (KeepBut.set_ (keep_drewN hK10 nq) 1 _) 4 _) hLR' _) hLR' _) hLR' _) hLR' _
        · have hd0 : decide (0 < m) = false := decide_eq_false hm0
          rw [if_neg hm0] at H
          go_wp2_with (go_at_call 122; go_loud (refine (lex_scanner_char.calls k g y.1 y.2.1 y.2.2.1 s0_3 y.2.2.2 m y'.1 y'.2.1 y'.2.2.1 y'.2.2.2 w0 _ (HW.out.st.alloc _) (below_alloc HW.out.below _) hm').mono ?_; rintro e w8 ⟨rfl, hi8, hb8, hk8⟩; have HW8 := Aside0.mk (HW.out.step hi8 hb8 hk8 hne1 hnel hBg)))
          go_roundg 2
          case measure => omega
          case rel => exact ⟨y', rfl, rfl, ⟨by omega⟩, ⟨H⟩, HW8⟩
      · have H := HT.out
        rw [tries_succ] at H
        obtain ⟨⟨m, y'⟩, hm, H⟩ := Option.bind_eq_some_iff.mp H
        have hgN : g ≠ wr.heap.size := by obtain ⟨_, _, hx, _⟩ := HW.out.st; have := heap_lt hx; omega
        have hcb0 : wr.cell? ⟨B, 8, none⟩ = some (.int .i64 5) := (blk_cell HW.out.tab 8).trans rfl
        have hcb1 : wr.cell? ⟨B, 9, none⟩ = some (.func (Fn.func 123) #[.pointer (some ⟨g, 0, none⟩)] #[]) := (blk_cell HW.out.tab 9).trans rfl
        have hm' : lex_scanner_text.f k y.1 y.2.1 y.2.2.1 s0_3 y.2.2.2 = some (m, y'.1, y'.2.1, y'.2.2.1, y'.2.2.2) := hm
        have hb0 : decide ((4 : Int) < 6) = true := by decide
        by_cases hm0 : 0 < m
        · have hd0 : decide (0 < m) = true := decide_eq_true hm0
          rw [if_pos hm0] at H
          obtain ⟨rfl, rfl, rfl⟩ : m = n ∧ kindAt 4 = kd ∧ y' = x := by simpa using H
          go_wp2_with (go_at_call 123; go_loud (refine (lex_scanner_text.calls k g y.1 y.2.1 y.2.2.1 s0_3 y.2.2.2 m y'.1 y'.2.1 y'.2.2.1 y'.2.2.2 w0 _ (HW.out.st.alloc _) (below_alloc HW.out.below _) hm').mono ?_; rintro e w8 ⟨rfl, hi8, hb8, hk8⟩; have HW8 := Aside0.mk (HW.out.step hi8 hb8 hk8 hne1 hnel hBg); have hN := (hk8.2 wr.heap.size (by simp) (Ne.symm hgN) (by simp)).trans (blk_new wr _); have hnc : w8.cell? ⟨wr.heap.size, 0, none⟩ = some (.int .i64 5) := (blk_cell hN 0).trans rfl; have htc : w8.cell? ⟨T, 0, none⟩ = some (.int .i64 8) := (blk_cell HW8.out.tok 0).trans rfl; have htf := blk_frozen HW8.out.tok 0))
          go_region
          obtain ⟨w9, hw9⟩ : ∃ w9, (w8.setCell ⟨T, 0, none⟩ (.int .i64 5)).drew = w9 := ⟨_, rfl⟩
          rw [hw9]
          have HW9 : TokW w0 w w9 g T R B b r3 s0_3 5 y' := hw9 ▸ HW8.out.kind 5 hne1 hTR hTB'
          clear hnc htc htf hN hcb0 hcb1 hi8 hb8 hk8 hw9 HW8
          obtain ⟨AS9, cS9, HG9, hg9, HS9⟩ := HW9.st
          have hc0 := cellS125_0 HG9
          have hc1 := cellS125_1 HG9
          have hc4 := cellS125_4 HG9
          have hf1 := blk_frozen HG9 1
          have hf4 := blk_frozen HG9 4
          have ht0 : w9.cell? ⟨T, 0, none⟩ = some (.int .i64 5) := (blk_cell HW9.tok 0).trans rfl
          have ht2 : w9.cell? ⟨T, 2, none⟩ = some (.string ⟨#[]⟩) := (blk_cell HW9.tok 2).trans rfl
          have htf2 := blk_frozen HW9.tok 2
          have hwr : IntKind.i64.wrap (y'.2.1 + m) = y'.2.1 + m := IntWalk.i64_in _ (by omega)
          have hwr2 : wrap64 (y'.2.1 + m) = y'.2.1 + m := (i64_w _).symm.trans hwr
          have p1 : (0 ≤ y'.2.1) = True := eq_true hx0
          have p2 : (y'.2.1 ≤ y'.2.1 + m) = True := eq_true (by omega)
          have p3 : (y'.2.1 + m ≤ (y'.1.size : Int)) = True := eq_true hx1
          have q1 : decide (0 ≤ y'.2.1) = true := decide_eq_true hx0
          have q2 : decide (y'.2.1 ≤ y'.2.1 + m) = true := decide_eq_true (by omega)
          have q3 : decide (y'.2.1 + m ≤ (y'.1.size : Int)) = true := decide_eq_true hx1
          go_wp2
          go_region
          obtain ⟨w10, hw10⟩ : ∃ w10, (w9.setCell ⟨T, 2, none⟩ (.string (y'.1.extract y'.2.1.toNat (y'.2.1 + m).toNat))).drew = w10 := ⟨_, rfl⟩
          rw [hw10]
          have hI10 : IsS125 w0 w10 g y'.1 y'.2.1 y'.2.2.1 s0_3 y'.2.2.2 := hw10 ▸ (HW9.st.far hne1 _).drew
          have hB10 : Below w0.heap.size w0 w10 := hw10 ▸ below_drew1 (below_set HW9.below HW9.hT0)
          have hK10 : KeepBut w w10 g none := hw10 ▸ keep_drew (keep_far HW9.keep HW9.hT _)
          have hR10 : w10.heap[R]? = some (Obj.cells #[.int .i64 0, .string ⟨#[]⟩, .string ⟨#[]⟩, .int .i64 0] 95) := hw10 ▸ (blk_far (p := ⟨T, 2, none⟩) HW9.res (Ne.symm hTR) _)
          have hT10 : w10.heap[T]? = some (Obj.cells #[.int .i64 5, .string b, .string (y'.1.extract y'.2.1.toNat (y'.2.1 + m).toNat), .int .i64 r3] 95) := by
            have := blk_set HW9.tok 2 (.string (y'.1.extract y'.2.1.toNat (y'.2.1 + m).toNat))
            rw [← hw10]; show (w9.setCell ⟨T, 2, none⟩ _).heap[T]? = _; simpa using this
          have hTa := HW9.hT
          have hTb := HW9.hT0
          clear hc0 hc1 hc4 hf1 hf4 ht0 ht2 htf2 HG9 HW9 hw10
          have hI10' := Aside0.mk hI10
          obtain ⟨AS10, cS10, HG10, hg10, HS10⟩ := hI10
          have hc1 := cellS125_1 HG10
          have hc4 := cellS125_4 HG10
          have hf1 := blk_frozen HG10 1
          have hf4 := blk_frozen HG10 4
          have ht0 : w10.cell? ⟨T, 0, none⟩ = some (.int .i64 5) := (blk_cell hT10 0).trans rfl
          have ht1 : w10.cell? ⟨T, 1, none⟩ = some (.string b) := (blk_cell hT10 1).trans rfl
          have ht2 : w10.cell? ⟨T, 2, none⟩ = some (.string (y'.1.extract y'.2.1.toNat (y'.2.1 + m).toNat)) := (blk_cell hT10 2).trans rfl
          have ht3 : w10.cell? ⟨T, 3, none⟩ = some (.int .i64 r3) := (blk_cell hT10 3).trans rfl
          have hr0 : w10.cell? ⟨R, 0, none⟩ = some (.int .i64 0) := (blk_cell hR10 0).trans rfl
          have hr1 : w10.cell? ⟨R, 1, none⟩ = some (.string ⟨#[]⟩) := (blk_cell hR10 1).trans rfl
          have hr2 : w10.cell? ⟨R, 2, none⟩ = some (.string ⟨#[]⟩) := (blk_cell hR10 2).trans rfl
          have hr3 : w10.cell? ⟨R, 3, none⟩ = some (.int .i64 0) := (blk_cell hR10 3).trans rfl
          have hrf0 := blk_frozen hR10 0
          have hrf1 := blk_frozen hR10 1
          have hrf2 := blk_frozen hR10 2
          have hrf3 := blk_frozen hR10 3
          go_wp2
          repeat (go_quiet (fail); try go_wp2)
          have hR11 := blk_set (blk_set (blk_set (blk_set (blk_far (p := ⟨g, 4, none⟩) (blk_far (p := ⟨g, 1, none⟩) (show (w10.drewN nq).heap[R]? = _ from hR10) (Ne.symm hnel) (.int .i64 (y'.2.1 + m))) (Ne.symm hnel) (.bool false)) 0 (.int .i64 5)) 1 (.string b)) 2 (.string (y'.1.extract y'.2.1.toNat (y'.2.1 + m).toNat))) 3 (.int .i64 r3)
          have hv0 := blk_cell hR11 0
          have hv1 := blk_cell hR11 1
          have hv2 := blk_cell hR11 2
          have hv3 := blk_cell hR11 3
          simp at hv0 hv1 hv2 hv3
          (try simp only [Exit.inBlock, Exit.then])
          have hfk : finKind kw (kindAt 4) (y'.1.extract y'.2.1.toNat (y'.2.1 + m).toNat) = 5 := by simp [finKind, kindAt]
          rw [hfk]
          refine bodyPost_ret (v := .agg #[.int .i64 5, .string b, .string (y'.1.extract y'.2.1.toNat (y'.2.1 + m).toNat), .int .i64 r3]) ?res rfl ⟨rfl, ?i1, ?i2, ?i3⟩
          case res =>
            clear hR11
            unfold results
            rw [show Tryz.f66.results = #[.cell 2 95] from rfl]
            go_simp
          case i1 => exact (((((((hI10'.out.drewN nq).set_1 _).set_4 _).far (p := ⟨R, 0, none⟩) hnel _).far (p := ⟨R, 1, none⟩) hnel _).far (p := ⟨R, 2, none⟩) hnel _).far (p := ⟨R, 3, none⟩) hnel _)
          case i2 => exact below_set (below_set (below_set (below_set (below_set (below_set (pw_below_drewN hB10 nq) hg10) hg10) hLR) hLR) hLR) hLR
          case i3 => exact keep_far (p := ⟨R, 3, none⟩) (keep_far (p := ⟨R, 2, none⟩) (keep_far (p := ⟨R, 1, none⟩) (keep_far (p := ⟨R, 0, none⟩) (KeepBut.set_ (KeepBut.set_ (keep_drewN hK10 nq) 1 _) 4 _) hLR' _) hLR' _) hLR' _) hLR' _
        · have hd0 : decide (0 < m) = false := decide_eq_false hm0
          rw [if_neg hm0] at H
          go_wp2_with (go_at_call 123; go_loud (refine (lex_scanner_text.calls k g y.1 y.2.1 y.2.2.1 s0_3 y.2.2.2 m y'.1 y'.2.1 y'.2.2.1 y'.2.2.2 w0 _ (HW.out.st.alloc _) (below_alloc HW.out.below _) hm').mono ?_; rintro e w8 ⟨rfl, hi8, hb8, hk8⟩; have HW8 := Aside0.mk (HW.out.step hi8 hb8 hk8 hne1 hnel hBg)))
          go_roundg 1
          case measure => omega
          case rel => exact ⟨y', rfl, rfl, ⟨by omega⟩, ⟨H⟩, HW8⟩
      · have H := HT.out
        rw [tries_succ] at H
        obtain ⟨⟨m, y'⟩, hm, H⟩ := Option.bind_eq_some_iff.mp H
        have hgN : g ≠ wr.heap.size := by obtain ⟨_, _, hx, _⟩ := HW.out.st; have := heap_lt hx; omega
        have hcb0 : wr.cell? ⟨B, 10, none⟩ = some (.int .i64 6) := (blk_cell HW.out.tab 10).trans rfl
        have hcb1 : wr.cell? ⟨B, 11, none⟩ = some (.func (Fn.func 124) #[.pointer (some ⟨g, 0, none⟩)] #[]) := (blk_cell HW.out.tab 11).trans rfl
        have hm' : lex_scanner_sign.f k y.1 y.2.1 y.2.2.1 s0_3 y.2.2.2 = some (m, y'.1, y'.2.1, y'.2.2.1, y'.2.2.2) := hm
        have hb0 : decide ((5 : Int) < 6) = true := by decide
        by_cases hm0 : 0 < m
        · have hd0 : decide (0 < m) = true := decide_eq_true hm0
          rw [if_pos hm0] at H
          obtain ⟨rfl, rfl, rfl⟩ : m = n ∧ kindAt 5 = kd ∧ y' = x := by simpa using H
          go_wp2_with (go_at_call 124; go_loud (refine (lex_scanner_sign.calls k g y.1 y.2.1 y.2.2.1 s0_3 y.2.2.2 m y'.1 y'.2.1 y'.2.2.1 y'.2.2.2 w0 _ (HW.out.st.alloc _) (below_alloc HW.out.below _) hm').mono ?_; rintro e w8 ⟨rfl, hi8, hb8, hk8⟩; have HW8 := Aside0.mk (HW.out.step hi8 hb8 hk8 hne1 hnel hBg); have hN := (hk8.2 wr.heap.size (by simp) (Ne.symm hgN) (by simp)).trans (blk_new wr _); have hnc : w8.cell? ⟨wr.heap.size, 0, none⟩ = some (.int .i64 6) := (blk_cell hN 0).trans rfl; have htc : w8.cell? ⟨T, 0, none⟩ = some (.int .i64 8) := (blk_cell HW8.out.tok 0).trans rfl; have htf := blk_frozen HW8.out.tok 0))
          go_region
          obtain ⟨w9, hw9⟩ : ∃ w9, (w8.setCell ⟨T, 0, none⟩ (.int .i64 6)).drew = w9 := ⟨_, rfl⟩
          rw [hw9]
          have HW9 : TokW w0 w w9 g T R B b r3 s0_3 6 y' := hw9 ▸ HW8.out.kind 6 hne1 hTR hTB'
          clear hnc htc htf hN hcb0 hcb1 hi8 hb8 hk8 hw9 HW8
          obtain ⟨AS9, cS9, HG9, hg9, HS9⟩ := HW9.st
          have hc0 := cellS125_0 HG9
          have hc1 := cellS125_1 HG9
          have hc4 := cellS125_4 HG9
          have hf1 := blk_frozen HG9 1
          have hf4 := blk_frozen HG9 4
          have ht0 : w9.cell? ⟨T, 0, none⟩ = some (.int .i64 6) := (blk_cell HW9.tok 0).trans rfl
          have ht2 : w9.cell? ⟨T, 2, none⟩ = some (.string ⟨#[]⟩) := (blk_cell HW9.tok 2).trans rfl
          have htf2 := blk_frozen HW9.tok 2
          have hwr : IntKind.i64.wrap (y'.2.1 + m) = y'.2.1 + m := IntWalk.i64_in _ (by omega)
          have hwr2 : wrap64 (y'.2.1 + m) = y'.2.1 + m := (i64_w _).symm.trans hwr
          have p1 : (0 ≤ y'.2.1) = True := eq_true hx0
          have p2 : (y'.2.1 ≤ y'.2.1 + m) = True := eq_true (by omega)
          have p3 : (y'.2.1 + m ≤ (y'.1.size : Int)) = True := eq_true hx1
          have q1 : decide (0 ≤ y'.2.1) = true := decide_eq_true hx0
          have q2 : decide (y'.2.1 ≤ y'.2.1 + m) = true := decide_eq_true (by omega)
          have q3 : decide (y'.2.1 + m ≤ (y'.1.size : Int)) = true := decide_eq_true hx1
          go_wp2
          go_region
          obtain ⟨w10, hw10⟩ : ∃ w10, (w9.setCell ⟨T, 2, none⟩ (.string (y'.1.extract y'.2.1.toNat (y'.2.1 + m).toNat))).drew = w10 := ⟨_, rfl⟩
          rw [hw10]
          have hI10 : IsS125 w0 w10 g y'.1 y'.2.1 y'.2.2.1 s0_3 y'.2.2.2 := hw10 ▸ (HW9.st.far hne1 _).drew
          have hB10 : Below w0.heap.size w0 w10 := hw10 ▸ below_drew1 (below_set HW9.below HW9.hT0)
          have hK10 : KeepBut w w10 g none := hw10 ▸ keep_drew (keep_far HW9.keep HW9.hT _)
          have hR10 : w10.heap[R]? = some (Obj.cells #[.int .i64 0, .string ⟨#[]⟩, .string ⟨#[]⟩, .int .i64 0] 95) := hw10 ▸ (blk_far (p := ⟨T, 2, none⟩) HW9.res (Ne.symm hTR) _)
          have hT10 : w10.heap[T]? = some (Obj.cells #[.int .i64 6, .string b, .string (y'.1.extract y'.2.1.toNat (y'.2.1 + m).toNat), .int .i64 r3] 95) := by
            have := blk_set HW9.tok 2 (.string (y'.1.extract y'.2.1.toNat (y'.2.1 + m).toNat))
            rw [← hw10]; show (w9.setCell ⟨T, 2, none⟩ _).heap[T]? = _; simpa using this
          have hTa := HW9.hT
          have hTb := HW9.hT0
          clear hc0 hc1 hc4 hf1 hf4 ht0 ht2 htf2 HG9 HW9 hw10
          have hI10' := Aside0.mk hI10
          obtain ⟨AS10, cS10, HG10, hg10, HS10⟩ := hI10
          have hc1 := cellS125_1 HG10
          have hc4 := cellS125_4 HG10
          have hf1 := blk_frozen HG10 1
          have hf4 := blk_frozen HG10 4
          have ht0 : w10.cell? ⟨T, 0, none⟩ = some (.int .i64 6) := (blk_cell hT10 0).trans rfl
          have ht1 : w10.cell? ⟨T, 1, none⟩ = some (.string b) := (blk_cell hT10 1).trans rfl
          have ht2 : w10.cell? ⟨T, 2, none⟩ = some (.string (y'.1.extract y'.2.1.toNat (y'.2.1 + m).toNat)) := (blk_cell hT10 2).trans rfl
          have ht3 : w10.cell? ⟨T, 3, none⟩ = some (.int .i64 r3) := (blk_cell hT10 3).trans rfl
          have hr0 : w10.cell? ⟨R, 0, none⟩ = some (.int .i64 0) := (blk_cell hR10 0).trans rfl
          have hr1 : w10.cell? ⟨R, 1, none⟩ = some (.string ⟨#[]⟩) := (blk_cell hR10 1).trans rfl
          have hr2 : w10.cell? ⟨R, 2, none⟩ = some (.string ⟨#[]⟩) := (blk_cell hR10 2).trans rfl
          have hr3 : w10.cell? ⟨R, 3, none⟩ = some (.int .i64 0) := (blk_cell hR10 3).trans rfl
          have hrf0 := blk_frozen hR10 0
          have hrf1 := blk_frozen hR10 1
          have hrf2 := blk_frozen hR10 2
          have hrf3 := blk_frozen hR10 3
          go_wp2
          repeat (go_quiet (fail); try go_wp2)
          have hR11 := blk_set (blk_set (blk_set (blk_set (blk_far (p := ⟨g, 4, none⟩) (blk_far (p := ⟨g, 1, none⟩) (show (w10.drewN nq).heap[R]? = _ from hR10) (Ne.symm hnel) (.int .i64 (y'.2.1 + m))) (Ne.symm hnel) (.bool false)) 0 (.int .i64 6)) 1 (.string b)) 2 (.string (y'.1.extract y'.2.1.toNat (y'.2.1 + m).toNat))) 3 (.int .i64 r3)
          have hv0 := blk_cell hR11 0
          have hv1 := blk_cell hR11 1
          have hv2 := blk_cell hR11 2
          have hv3 := blk_cell hR11 3
          simp at hv0 hv1 hv2 hv3
          (try simp only [Exit.inBlock, Exit.then])
          have hfk : finKind kw (kindAt 5) (y'.1.extract y'.2.1.toNat (y'.2.1 + m).toNat) = 6 := by simp [finKind, kindAt]
          rw [hfk]
          refine bodyPost_ret (v := .agg #[.int .i64 6, .string b, .string (y'.1.extract y'.2.1.toNat (y'.2.1 + m).toNat), .int .i64 r3]) ?res rfl ⟨rfl, ?i1, ?i2, ?i3⟩
          case res =>
            clear hR11
            unfold results
            rw [show Tryz.f66.results = #[.cell 2 95] from rfl]
            go_simp
          case i1 => exact (((((((hI10'.out.drewN nq).set_1 _).set_4 _).far (p := ⟨R, 0, none⟩) hnel _).far (p := ⟨R, 1, none⟩) hnel _).far (p := ⟨R, 2, none⟩) hnel _).far (p := ⟨R, 3, none⟩) hnel _)
          case i2 => exact below_set (below_set (below_set (below_set (below_set (below_set (pw_below_drewN hB10 nq) hg10) hg10) hLR) hLR) hLR) hLR
          case i3 => exact keep_far (p := ⟨R, 3, none⟩) (keep_far (p := ⟨R, 2, none⟩) (keep_far (p := ⟨R, 1, none⟩) (keep_far (p := ⟨R, 0, none⟩) (KeepBut.set_ (KeepBut.set_ (keep_drewN hK10 nq) 1 _) 4 _) hLR' _) hLR' _) hLR' _) hLR' _
        · have hd0 : decide (0 < m) = false := decide_eq_false hm0
          rw [if_neg hm0] at H
          go_wp2_with (go_at_call 124; go_loud (refine (lex_scanner_sign.calls k g y.1 y.2.1 y.2.2.1 s0_3 y.2.2.2 m y'.1 y'.2.1 y'.2.2.1 y'.2.2.2 w0 _ (HW.out.st.alloc _) (below_alloc HW.out.below _) hm').mono ?_; rintro e w8 ⟨rfl, hi8, hb8, hk8⟩; have HW8 := Aside0.mk (HW.out.step hi8 hb8 hk8 hne1 hnel hBg)))
          go_roundg 0
          case measure => omega
          case rel => exact ⟨y', rfl, rfl, ⟨by omega⟩, ⟨H⟩, HW8⟩
end Go.Proofs.YtolaiebjmhieiaaGreatDoor.OScan
