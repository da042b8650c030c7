/- HeadOnce: for every list of files, every name and every list of places the law answers true, and all read behind the call as before; the listed tables are tied to the text of the program; no condition. Here: parts of its proof. -/
import Derived.Test.YtolaiebjmhieiaaGreatDoorM20
import Derived.Test.YtolaiebjmhieiaaGreatDoorM12
import Derived.Test.YtolaiebjmhieiaaGreatDoorM17
import Derived.Test.YtolaiebjmhieiaaGreatDoorM19
import Derived.Test.YtolaiebjmhieiaaGreatDoorM16
import Derived.BigRegion
import Derived.Deep.RegionLaw
section
namespace Go.Proofs.YtolaiebjmhieiaaGreatDoor.OScan
open Go.RowKit Go.Proofs.YtolaiebjmhieiaaGreatDoorW.PrintWords Go.Proofs.YtolaiebjmhieiaaGreatDoorW.PrintLast Go.Proofs.YtolaiebjmhieiaaGreatDoorW.PrintMore
open Go.MuLone
set_option linter.unusedVariables false
set_option linter.unusedSimpArgs false
def usF (incs : Nat → Option (ByteArray × Bool)) (files : Nat → ByteArray) (gs : List Gr) : Nat → List Us
  | 0 => []
  | k + 1 => usF incs files gs k ++ (match incs k with | some (n, q) => if seenB gs k = true then [(n, q, files k)] else [] | none => [])
theorem usF_len (incs : Nat → Option (ByteArray × Bool)) (files : Nat → ByteArray) (gs : List Gr) : ∀ k, (usF incs files gs k).length ≤ k
  | 0 => Nat.le_refl _
  | k + 1 => by
    have := usF_len incs files gs k
    unfold usF
    rw [List.length_append]
    split
    · split <;> simp <;> omega
    · simp; omega
def normalOnly (Q : Exit → Act → World → Prop) : Exit → Act → World → Prop := fun e a w => match e with | .normal => Q .normal a w | _ => False
theorem normalOnly_imp (Q : Exit → Act → World → Prop) : ∀ e a w, normalOnly Q e a w → Q e a w := fun e a w h => by
  cases e with
  | normal => exact h
  | _ => exact h.elim
set_option maxHeartbeats 2000000 in
set_option maxRecDepth 100000 in
theorem read_ok (m c : AL) (name text : ByteArray) (Ap : Option Addr) (np cp : Nat) (PB fm cm : Nat) (w0 w : World) (HP : PrjIs w0.heap.size w PB fm cm (.slice Ap np cp) m c) (HB : Below w0.heap.size w0 w) (hG : Glob2 w0) (hc : alGet c name = none)
    (ht : (alGet m name).getD (.string ⟨#[]⟩) = .string text) (hsz : text.size ≤ 140737488355328) (hs0 : (scanR text).2 = 0) (ks : List ByteArray) (hyl : (scanR text).1.length ≤ 900000) (hkl : ks.length = (scanR text).1.length)
    (hK : ∀ (i : Nat) (t : Tk), (scanR text).1[i]? = some t → ∃ r, ks[i]? = some r ∧ KindOf t r) (he : (groupsR ks).2.1 = 0)
    (hgs : ∀ g ∈ (groupsR ks).1, 2 ≤ g.1.length ∧ g.1.length ≤ 1000000) (hgl : (groupsR ks).1.length ≤ 1000000) (incs : Nat → Option (ByteArray × Bool)) (files : Nat → ByteArray)
    (hInc : ∀ (i : Nat) (t : Tk), (scanR text).1[i]? = some t → ∀ W, Glob2 W → Calls Tryz.prog 42 #[.agg #[.int .i64 t.1, .string t.2.1, .string t.2.2.1, .int .i64 t.2.2.2]] W fun e w' => e = .returned (.tuple #[useV (incs i), .bool (incs i).isSome]) ∧ Below W.heap.size W w')
    (hFind : ∀ (i : Nat) (n : ByteArray) (q : Bool), incs i = some (n, q) → seenB (groupsR ks).1 i = true → ∀ W, Below w0.heap.size w0 W → PrjF W PB fm cm 1 (.slice Ap np cp) m → Calls Tryz.prog 44 #[.pointer (some ⟨PB, 0, none⟩), .string name, .agg #[.string n, .bool q, .string ⟨#[]⟩]] W fun e w' => e = .returned (.string (files i)) ∧ Below W.heap.size W w') :
    Calls Tryz.prog 21 #[.pointer (some ⟨PB, 0, none⟩), .string name] w fun e w' => ∃ rb, e = .returned (.pointer (some ⟨rb, 0, none⟩)) ∧ ReadQ w0 w w' PB cm c name rb (usF incs files (groupsR ks).1 (scanR text).1.length) 0 := by
  have hP := HP.hP
  have hPB := blk_lt hP
  have p2 : w.cell? ⟨PB, 2, none⟩ = some (.int .i32 0) := by have := cell_of_row w PB 2 _ _ _ hP; simpa using this
  have f2 := blk_frozen hP 2
  have hP1 := blk_put hP 2 (.int .i32 1) rfl
  have hcP : cm ≠ PB := by
    rintro e
    obtain ⟨es, cl, h1, _⟩ := HP.hc
    rw [e, hP] at h1
    cases h1
  have hfP : fm ≠ PB := by
    rintro e
    obtain ⟨es, cl, h1, _⟩ := HP.hm
    rw [e, hP] at h1
    cases h1
  have hcs := HP.hc.lt
  have hfs := HP.hm.lt
  have HL := lock_free Tryz.muLib ⟨PB, 2, none⟩ w p2 f2
  obtain ⟨W1, hW1⟩ : ∃ W1, W1 = w.setCell ⟨PB, 2, none⟩ (.int .i32 1) := ⟨_, rfl⟩
  rw [← hW1] at HL hP1
  have hs1 : W1.heap.size = w.heap.size := by rw [hW1]; simp
  have k1 : ∀ k, k ≠ PB → W1.heap[k]? = w.heap[k]? := fun k hk => by rw [hW1]; exact Below.heap_setCell _ ⟨PB, 2, none⟩ _ k hk
  have B1 : Below w0.heap.size w0 W1 := by rw [hW1]; exact HB.setCell HP.bP _
  have hM1 : MapIs W1 cm c := HP.hc.same (k1 _ hcP)
  have hF1 : MapIs W1 fm m := HP.hm.same (k1 _ hfP)
  obtain ⟨W2, hW2⟩ : ∃ W2, W2 = W1.alloc (.cells #[Value.slice none 0 0, Value.slice none 0 0, Value.int .i64 0] 54) := ⟨_, rfl⟩
  have B2 : Below w0.heap.size w0 W2 := by rw [hW2]; exact below_alloc B1 _
  have k2 : ∀ k, k < w.heap.size → W2.heap[k]? = W1.heap[k]? := fun k hk => by rw [hW2]; exact Below.heap_alloc _ _ _ (by omega)
  have hM2 : MapIs W2 cm c := hM1.same (k2 _ hcs)
  have hF2 : MapIs W2 fm m := hF1.same (k2 _ hfs)
  obtain ⟨rb, hrb⟩ : ∃ rb, rb = W1.heap.size := ⟨_, rfl⟩
  have hR2 : W2.heap[rb]? = some (.cells #[Value.slice none 0 0, Value.slice none 0 0, Value.int .i64 0] 54 (0, 0)) := by rw [hW2, hrb]; exact blk_new _ _
  have hs2 : W2.heap.size = w.heap.size + 1 := by rw [hW2, alloc_size, hs1]
  obtain ⟨W3, hrun, hM3, hO3⟩ := hM2.put (mt := 83) (e := 50) Tryz.underlying83 name (.pointer (some ⟨rb, 0, none⟩))
  have hF3 : MapIs W3 fm m := hF2.same (hO3.block _ HP.ne)
  have B3 : Below w0.heap.size w0 W3 := hO3.below B2 HP.bc
  have hlk1 := hM1.getOk Tryz.underlying83 name (.pointer none) (fun _ => rfl)
  rw [hc] at hlk1
  simp only [Option.getD_none, Option.isSome_none] at hlk1
  have hlk3 := hF3.get Tryz.underlying75 name (.string ⟨#[]⟩) (fun _ => rfl)
  rw [ht] at hlk3
  have hP2 := (k2 _ hPB).trans hP1
  have hP3 := (hO3.block _ (Ne.symm hcP)).trans hP2
  have hR3 := (hO3.block rb (by omega)).trans hR2
  have a1 : W1.cell? ⟨PB, 4, none⟩ = some (.map (some cm)) := by have := cell_of_row _ PB 4 _ _ _ hP1; simpa using this
  have a2 : W2.cell? ⟨PB, 4, none⟩ = some (.map (some cm)) := by have := cell_of_row _ PB 4 _ _ _ hP2; simpa using this
  have a3 : W3.cell? ⟨PB, 0, none⟩ = some (.map (some fm)) := by have := cell_of_row _ PB 0 _ _ _ hP3; simpa using this
  have H40 := scan_both text W3 (hG.below B3) hsz
  have K3 : ∀ k, k < w.heap.size → k ≠ PB → k ≠ cm → W3.heap[k]? = w.heap[k]? := fun k h1 h2 h3 => (hO3.block k h3).trans ((k2 k h1).trans (k1 k h2))
  have s3 : w.heap.size < W3.heap.size := by rw [hO3.size, hs2]; omega
  rw [hs0] at H40
  have hrbs : rb < W3.heap.size := blk_lt hR3
  have hPs : PB < W3.heap.size := blk_lt hP3
  have hcs3 : cm < W3.heap.size := hM3.lt
  have hrP : rb ≠ PB := by omega
  have hrc : rb ≠ cm := by omega
  generalize (scanR text).1 = ys at *
  have H41 : Aside0 (∀ (W : World) (A : Option Addr) (c : Nat), Kd.C kTk W A ys.length ys → ys.length ≤ c → Below w0.heap.size w0 W → Calls Tryz.prog 41 #[.slice A ys.length c] W fun e w' => ∃ v, e = .returned (.tuple #[v, .int .i64 (groupsR ks).2.1, .int .i64 (groupsR ks).2.2]) ∧ Kd.R kGr 134 w' W.heap.size (fun _ => True) v (groupsR ks).1 ∧ Below W.heap.size W w') := ⟨fun W A c h1 h2 h3 => groups_any ys ks W A c h1 h2 (hG.below h3) hyl hkl hK⟩
  rw [he] at H41
  generalize (groupsR ks).2.2 = gat at *
  generalize (groupsR ks).1 = ggs at *
  rw [hW2] at hrun a2
  rw [hrb] at hrun
  have HX := Aside0.mk (And.intro hR3 (And.intro hP3 (And.intro hM3 (And.intro B3 K3))))
  have HRB := Aside0.mk hrb
  have HPP := Aside0.mk HP
  have HYP := Aside0.mk (And.intro hP (And.intro s3 (And.intro hrbs (And.intro hPs (And.intro hcs3 (And.intro hrP hrc))))))
  have HS1 := Aside0.mk hs1
  clear hM1 hF1 B1 k1 hM2 hF2 B2 k2 hR2 hs2 hO3 hF3 B3 hP2 hP3 hR3 hP1 hW1 hW2 HP hP p2 f2 hs1 K3 s3 hrb hrbs hPs hcs3 hrP hrc hcs hfs hcP hfP hPB he hM3 HB hc ht hsz hs0 hkl hK
  go_enter_defers Tryz.func21, Tryz.ntmps21
  go_wp2_with (first | (go_at_call 38; go_loud (refine HL.mono ?_; rintro e w' ⟨rfl, rfl⟩)) | (go_at_call 40; go_loud (refine H40.mono ?_; rintro e w8 ⟨v8, rfl, hr8, hb8⟩; obtain ⟨A8, c8, rfl⟩ := Kd.R_slice hr8; obtain ⟨hR3, hP3, hM3, B3, K3⟩ := HX.out; obtain ⟨_, _, hrbs, hPs, hcs3, _, _⟩ := HYP.out; have hR8 := (hb8.block _ hrbs).trans hR3; have hP8 := (hb8.block _ hPs).trans hP3; have m0 : w8.cell? ⟨rb, 0, none⟩ = some (.slice none 0 0) := (by have := cell_of_row _ rb 0 _ _ _ hR8; simpa using this); have m2 : w8.cell? ⟨rb, 2, none⟩ = some (.int .i64 0) := (by have := cell_of_row _ rb 2 _ _ _ hR8; simpa using this); have g0 := blk_frozen hR8 0; have g2 := blk_frozen hR8 2; rw [HRB.out] at m0 m2 g0 g2; have HR8 := Aside0.mk hR8; have HP8 := Aside0.mk hP8; have HT8 := Aside0.mk hr8; have HB8 := Aside0.mk hb8; clear hr8 hb8 hR3 hP3 hM3 B3 K3 hrbs hPs hcs3 hR8 hP8)))
  obtain ⟨W9, hW9⟩ : ∃ W9, W9 = ((w8.setCell { block := w'.heap.size, off := 0 } (Value.slice A8 ys.length c8)).setCell { block := w'.heap.size, off := 2 } (Value.int IntKind.i64 0)) := ⟨_, rfl⟩
  rw [← hW9]
  rw [← HRB.out] at hW9 ⊢
  obtain ⟨hR3, hP3, hM3, B3, K3⟩ := HX.out
  obtain ⟨hP, s3, hrbs, hPs, hcs3, hrP, hrc⟩ := HYP.out
  have hR9a := blk_put HR8.out 0 (Value.slice A8 ys.length c8) rfl
  have hR9 : W9.heap[rb]? = some (.cells #[Value.slice A8 ys.length c8, Value.slice none 0 0, Value.int .i64 0] 54 (0, 0)) := by rw [hW9]; exact blk_put hR9a 2 _ rfl
  have hP9 : W9.heap[PB]? = some (.cells #[Value.map (some fm), Value.slice Ap np cp, Value.int .i32 1, Value.int .u32 0, Value.map (some cm)] 87 (0, 0)) := by rw [hW9]; exact blk_far (blk_far HP8.out (Ne.symm hrP) _) (Ne.symm hrP) _
  have k9 : ∀ k, k ≠ rb → W9.heap[k]? = w8.heap[k]? := fun k hk => by rw [hW9]; exact (Below.heap_setCell _ ⟨rb, 2, none⟩ _ k hk).trans (Below.heap_setCell _ ⟨rb, 0, none⟩ _ k hk)
  have hrb0 : w.heap.size ≤ rb := by have h1 := HRB.out; have h2 := HS1.out; omega
  have hw0 : w0.heap.size ≤ rb := by have := HPP.out.bP; have := blk_lt hP; omega
  have B9 : Below w0.heap.size w0 W9 := by rw [hW9]; exact ((below_step B3 HB8.out).setCell hw0 _).setCell hw0 _
  have hs98 : W9.heap.size = w8.heap.size := by rw [hW9]; simp
  have hT9 : Kd.R kTk 95 W9 W3.heap.size (fun _ => True) (.slice A8 ys.length c8) ys := by rw [hW9]; exact Kd.R_set (Kd.R_set HT8.out HR8.out (by decide) 0 _) hR9a (by decide) 2 _
  have hC9 := Kd.R_reads' hT9
  refine (H41.out W9 A8 c8 hC9.2.2 hC9.2.1 B9).mono ?_
  rintro e w10 ⟨v10, rfl, hr10, hb10⟩
  obtain ⟨A10, c10, rfl⟩ := Kd.R_slice hr10
  have hT10 : Kd.R kTk 95 w10 W3.heap.size (fun k => True ∧ k ≠ rb) (.slice A8 ys.length c8) ys := Kd.R_below (Kd.R_types hT9 hR9 (by decide)) hb10
  have hG10 : Kd.R kGr 134 w10 W9.heap.size (fun k => True ∧ k ≠ rb) (.slice A10 ggs.length c10) ggs := Kd.R_types hr10 ((hb10.block _ (blk_lt hR9)).trans hR9) (by decide)
  have HT10 := Aside0.mk hT10
  have HG10 := Aside0.mk hG10
  have hR10 := (hb10.block _ (blk_lt hR9)).trans hR9
  have hP10 := (hb10.block _ (blk_lt hP9)).trans hP9
  have q0 : w10.cell? ⟨rb, 0, none⟩ = some (.slice A8 ys.length c8) := by have := cell_of_row _ rb 0 _ _ _ hR10; simpa using this
  have q2 : w10.cell? ⟨rb, 2, none⟩ = some (.int .i64 0) := by have := cell_of_row _ rb 2 _ _ _ hR10; simpa using this
  have q3 := blk_frozen hR10 2
  have HP10 := Aside0.mk hP10
  have HR10 := Aside0.mk hR10
  have HB10 := Aside0.mk hb10
  have HK9 := Aside0.mk (And.intro k9 (And.intro hrb0 (And.intro hw0 (And.intro B9 hs98))))
  clear hr10 hT10 hG10 hR9a hR9 hP9 k9 hrb0 hw0 B9 hs98 hT9 hC9 hb10 hR10 hP10 hR3 hP3 hM3 B3 K3 hP s3 hrbs hPs hcs3 hrP hrc m0 m2 g0 g2 hW9
  go_wp2
  obtain ⟨WL, hWL⟩ : ∃ WL, WL = w10.setCell { block := rb, off := 2 } (Value.int IntKind.i64 0) := ⟨_, rfl⟩
  rw [← hWL]
  have HTL : Aside0 (Kd.R kTk 95 WL W3.heap.size (fun k => True ∧ k ≠ rb) (.slice A8 ys.length c8) ys) := ⟨by rw [hWL]; exact Kd.R_far HT10.out (fun k hk => hk.2) _⟩
  have HGL : Aside0 (Kd.R kGr 134 WL W9.heap.size (fun k => True ∧ k ≠ rb) (.slice A10 ggs.length c10) ggs) := ⟨by rw [hWL]; exact Kd.R_far HG10.out (fun k hk => hk.2) _⟩
  have HRL : Aside0 (WL.heap[rb]? = some (.cells #[Value.slice A8 ys.length c8, Value.slice none 0 0, Value.int .i64 0] 54 (0, 0))) := ⟨by rw [hWL]; exact blk_put HR10.out 2 _ rfl⟩
  have HPL : Aside0 (WL.heap[PB]? = some (.cells #[Value.map (some fm), Value.slice Ap np cp, Value.int .i32 1, Value.int .u32 0, Value.map (some cm)] 87 (0, 0))) := ⟨by rw [hWL]; exact blk_far HP10.out (Ne.symm HYP.out.2.2.2.2.2.1) _⟩
  have HBL : Aside0 (Below w0.heap.size w0 WL) := ⟨by rw [hWL]; exact (below_step HK9.out.2.2.2.1 HB10.out).setCell HK9.out.2.2.1 _⟩
  have HKL : Aside0 (∀ k, k < W3.heap.size → k ≠ rb → WL.heap[k]? = W3.heap[k]?) := ⟨fun k h1 hk => by
    have h8 := HB8.out.size
    have h9 := HK9.out.2.2.2.2
    rw [hWL]
    exact (Below.heap_setCell _ ⟨rb, 2, none⟩ _ k hk).trans ((HB10.out.block k (by omega)).trans ((HK9.out.1 k hk).trans (HB8.out.block k h1)))⟩
  clear hWL q0 q2 q3 HT10 HG10 HR10 HP10
  go_loopg [88] ys.length (fun kq v88 w' => ∃ (i : Nat) (us0 : List Us) (vu : Value), v88 = .int .i64 i ∧ Aside0 (us0 = usF incs files ggs i) ∧ Aside0 (kq + i = ys.length) ∧ Aside0 (w'.heap[rb]? = some (.cells #[Value.slice A8 ys.length c8, vu, Value.int .i64 0] 54 (0, 0))) ∧ Aside0 (Kd.R kUs 34 w' WL.heap.size (fun _ => True) vu us0) ∧ Aside0 (KeepBut WL w' rb none) ∧ Aside0 (Below w0.heap.size w0 w'))
  case atStart => exact ⟨0, [], _, rfl, ⟨rfl⟩, ⟨rfl⟩, HRL, ⟨Kd.R_nil _ _ _ _ _⟩, ⟨KeepBut.refl _ _ _⟩, HBL⟩
  case round =>
    obtain ⟨i, us0, vu, rfl, hus0, hki, hRr, hU, hKr, hBr⟩ := hrel
    have hki' := hki.out
    cases gk with
    | zero =>
      have hlt : decide ((i : Int) < (ys.length : Int)) = false := decide_eq_false (by omega)
      go_wp2
      obtain rfl : i = ys.length := by omega
      obtain ⟨hR3, hP3, hM3, B3, K3⟩ := HX.out
      obtain ⟨hP, s3, hrbs, hPs, hcs3, hrP, hrc⟩ := HYP.out
      obtain ⟨k9, hrb0, hw0, B9, hs98⟩ := HK9.out
      have hPw : wr.heap[PB]? = some (.cells #[Value.map (some fm), Value.slice Ap np cp, Value.int .i32 1, Value.int .u32 0, Value.map (some cm)] 87 (0, 0)) := (hKr.out.2 PB (blk_lt HPL.out) (Ne.symm hrP) (by simp)).trans HPL.out
      have d1 : wr.cell? ⟨PB, 2, none⟩ = some (.int .i32 1) := by have := cell_of_row _ PB 2 _ _ _ hPw; simpa using this
      have d2 := blk_frozen hPw 2
      have hWLs : W3.heap.size ≤ WL.heap.size := by
        rcases Nat.lt_or_ge WL.heap.size W3.heap.size with h | h
        · have h1 := HKL.out WL.heap.size h (by have := blk_lt HRL.out; omega)
          rw [Array.getElem?_eq_none (Nat.le_refl _), Array.getElem?_eq_getElem h] at h1
          cases h1
        · exact h
      refine leaves_cons (f := 39) (args := #[.pointer (some ⟨PB, 2, none⟩)]) (by simp) (by simp [go_sem]) ?_
      refine (unlock_deferred Tryz.muLib ⟨PB, 2, none⟩ .returning wr d1 d2).mono ?_
      rintro e u' w'' ⟨rfl, rfl, rfl⟩
      refine ⟨_, results_tmp rfl _ _ _, rb, rfl, ⟨⟨hw0, _, _, blk_far hRr.out hrP _, by rw [← hus0.out]; exact Kd.R_lower (Kd.R_set hU.out hPw (by decide) 2 _) HBL.out.size⟩, hrb0, hM3.same ?_, ?_, hBr.out.setCell HPP.out.bP _, fun k h1 h2 h3 => ?_⟩⟩
      · exact (Below.heap_setCell _ ⟨PB, 2, none⟩ _ cm (by
          rintro e
          obtain ⟨es, cl, h1, _⟩ := HPP.out.hc
          have e' : cm = PB := e
          rw [e', hP] at h1
          cases h1)).trans ((hKr.out.2 cm (by omega) (Ne.symm hrc) (by simp)).trans (HKL.out cm hcs3 (Ne.symm hrc)))
      · rw [hP]; exact blk_put hPw 2 _ rfl
      · exact (Below.heap_setCell _ ⟨PB, 2, none⟩ _ k h2).trans ((hKr.out.2 k (by omega) (by omega) (by simp)).trans ((HKL.out k (by omega) (by omega)).trans (K3 k h1 h2 h3)))
    | succ g1 =>
      have hlt : decide ((i : Int) < (ys.length : Int)) = true := decide_eq_true (by omega)
      have hii : (0 : Int) ≤ (i : Int) := by omega
      obtain ⟨x, hx⟩ : ∃ x, ys[i]? = some x := ⟨_, List.getElem?_eq_getElem (by omega)⟩
      have HI := hInc i x hx
      obtain ⟨ad, hAd, hx0, hx1, hx2, hx3⟩ := tk_at (Kd.R_reads' (Kd.R_keep HTL.out hKr.out (fun k hk => hk.2))).2.2 i (by omega) x hx
      obtain rfl := hAd
      clear hx
      obtain ⟨kd, bf, tx, a1⟩ := x
      simp only at hx0 hx1 hx2 hx3 HI
      have HII := Aside0.mk HI
      clear HI
      have hus : usF incs files ggs (i + 1) = usF incs files ggs i ++ (match incs i with | some (n, q) => if seenB ggs i = true then [(n, q, files i)] else [] | none => []) := rfl
      have HUS := Aside0.mk hus
      clear hus
      have HINC := Aside0.mk hInc
      have HFIND := Aside0.mk hFind
      clear hInc hFind
      cases hri : incs i with
      | none =>
        rw [hri] at HII HUS
        clear hri
        go_wp2_with (go_at_call 42; go_loud (refine (HII.out _ (hG.below (below_alloc hBr.out _))).mono ?_; rintro e w4 ⟨he4, hb4⟩; obtain rfl : e = .returned (.tuple #[.agg #[.string ⟨#[]⟩, .bool false, .string ⟨#[]⟩], .bool false]) := he4; have HB4 := Aside0.mk (below_step (below_alloc (Below.refl wr.heap.size wr) _) hb4); clear hb4))
        obtain ⟨We, hWe⟩ : ∃ We, We = w4.alloc (Obj.cells #[Value.string { data := #[] }, Value.bool false, Value.string { data := #[] }] 34) := ⟨_, rfl⟩
        rw [← hWe]
        have HBe : Aside0 (Below wr.heap.size wr We) := ⟨by rw [hWe]; exact below_alloc HB4.out _⟩
        clear hWe
        go_roundg g1
        case measure => omega
        case rel => exact ⟨i + 1, us0, vu, by (try simp), ⟨by rw [HUS.out, ← hus0.out]; simp⟩, ⟨by omega⟩, ⟨(HBe.out.block _ (blk_lt hRr.out)).trans hRr.out⟩, ⟨Kd.R_below hU.out HBe.out⟩, ⟨KeepBut.trans hKr.out (KeepBut.of_below HBe.out rb none) (.inl rfl)⟩, ⟨below_step hBr.out HBe.out⟩⟩
      | some nq =>
        obtain ⟨un, uq⟩ := nq
        have hri' := hri
        rw [hri] at HII HUS
        have HRI := Aside0.mk hri'
        clear hri hri'
        have H43 : Aside0 (∀ W, Below wr.heap.size wr W → Calls Tryz.prog 43 #[.slice A10 ggs.length c10, .int .i64 i] W fun e w' => e = .returned (.bool (seenB ggs i)) ∧ Below W.heap.size W w') := ⟨fun W hb => seen_any ggs i W A10 c10 (Kd.R_reads' (Kd.R_keep HGL.out (KeepBut.trans hKr.out (KeepBut.of_below hb rb none) (.inl rfl)) (fun k hk => hk.2))).2.2 hgl hgs⟩
        obtain ⟨sb, hsb⟩ : ∃ sb, sb = seenB ggs i := ⟨_, rfl⟩
        rw [← hsb] at H43 HUS
        have HSB := Aside0.mk hsb
        clear hsb
        cases sb with
        | false =>
          go_wp2_with (first | (go_at_call 42; go_loud (refine (HII.out _ (hG.below (below_alloc hBr.out _))).mono ?_; rintro e w4 ⟨he4, hb4⟩; obtain rfl : e = .returned (.tuple #[.agg #[.string un, .bool uq, .string ⟨#[]⟩], .bool true]) := he4; have HB4 := Aside0.mk (below_step (below_alloc (Below.refl wr.heap.size wr) _) hb4); clear hb4)) | (go_at_call 43; go_loud (refine (H43.out _ (below_alloc HB4.out _)).mono ?_; rintro e w5 ⟨rfl, hb5⟩; have HB5 := Aside0.mk (below_step (below_alloc HB4.out _) hb5); clear hb5)))
          go_roundg g1
          case measure => omega
          case rel => exact ⟨i + 1, us0, vu, by (try simp), ⟨by rw [HUS.out, ← hus0.out]; simp⟩, ⟨by omega⟩, ⟨(HB5.out.block _ (blk_lt hRr.out)).trans hRr.out⟩, ⟨Kd.R_below hU.out HB5.out⟩, ⟨KeepBut.trans hKr.out (KeepBut.of_below HB5.out rb none) (.inl rfl)⟩, ⟨below_step hBr.out HB5.out⟩⟩
        | true =>
          have HF44 : Aside0 (∀ W, Below wr.heap.size wr W → Calls Tryz.prog 44 #[.pointer (some ⟨PB, 0, none⟩), .string name, .agg #[.string un, .bool uq, .string ⟨#[]⟩]] W fun e w' => e = .returned (.string (files i)) ∧ Below W.heap.size W w') := ⟨fun W hb => by
            obtain ⟨hR3, hP3, hM3, B3, K3⟩ := HX.out
            obtain ⟨hP, s3, hrbs, hPs, hcs3, hrP, hrc⟩ := HYP.out
            have hK := KeepBut.trans hKr.out (KeepBut.of_below hb rb none) (.inl rfl)
            have hrb0 := HK9.out.2.1
            have hfl := HPP.out.hm.lt
            have hfP : fm ≠ PB := by
              rintro e
              obtain ⟨es, cl, h1, _⟩ := HPP.out.hm
              rw [e, hP] at h1
              cases h1
            have hWLs : W3.heap.size ≤ WL.heap.size := by
              rcases Nat.lt_or_ge WL.heap.size W3.heap.size with h | h
              · have h1 := HKL.out WL.heap.size h (by have := blk_lt HRL.out; omega)
                rw [Array.getElem?_eq_none (Nat.le_refl _), Array.getElem?_eq_getElem h] at h1
                cases h1
              · exact h
            exact HFIND.out i un uq HRI.out HSB.out.symm W (below_step hBr.out hb) ⟨(hK.2 PB (blk_lt HPL.out) (Ne.symm hrP) (by simp)).trans HPL.out, HPP.out.hm.same ((hK.2 fm (by omega) (by omega) (by simp)).trans ((HKL.out fm (by omega) (by omega)).trans (K3 fm hfl hfP HPP.out.ne)))⟩⟩
          go_wp2_with (first | (go_at_call 42; go_loud (refine (HII.out _ (hG.below (below_alloc hBr.out _))).mono ?_; rintro e w4 ⟨he4, hb4⟩; obtain rfl : e = .returned (.tuple #[.agg #[.string un, .bool uq, .string ⟨#[]⟩], .bool true]) := he4; have HB4 := Aside0.mk (below_step (below_alloc (Below.refl wr.heap.size wr) _) hb4); clear hb4)) | (go_at_call 43; go_loud (refine (H43.out _ (below_alloc HB4.out _)).mono ?_; rintro e w5 ⟨rfl, hb5⟩; have hU5 := (hb5.block w4.heap.size (by simp)).trans (blk_new w4 (Obj.cells #[Value.string un, Value.bool uq, Value.string ⟨#[]⟩] 34)); have v0 : w5.cell? ⟨w4.heap.size, 0, none⟩ = some (.string un) := (by have := cell_of_row _ w4.heap.size 0 _ _ _ hU5; simpa using this); have v1 : w5.cell? ⟨w4.heap.size, 1, none⟩ = some (.bool uq) := (by have := cell_of_row _ w4.heap.size 1 _ _ _ hU5; simpa using this); have v2 : w5.cell? ⟨w4.heap.size, 2, none⟩ = some (.string ⟨#[]⟩) := (by have := cell_of_row _ w4.heap.size 2 _ _ _ hU5; simpa using this); have HU5 := Aside0.mk hU5; have HB5 := Aside0.mk (below_step (below_alloc HB4.out _) hb5); clear hb5 hU5)) | (go_at_call 44; go_loud (refine (HF44.out _ HB5.out).mono ?_; rintro e w6 ⟨rfl, hb6⟩; have hU6 := (hb6.block _ (blk_lt HU5.out)).trans HU5.out; have z2 : w6.cell? ⟨w4.heap.size, 2, none⟩ = some (.string ⟨#[]⟩) := (by have := cell_of_row _ w4.heap.size 2 _ _ _ hU6; simpa using this); have z3 := blk_frozen hU6 2; have HU6 := Aside0.mk hU6; have HB6 := Aside0.mk (below_step HB5.out hb6); clear hb6 hU6)))
          obtain ⟨U, hUe⟩ : ∃ U, U = w4.heap.size := ⟨_, rfl⟩
          rw [← hUe]
          obtain ⟨W7, hW7⟩ : ∃ W7, W7 = w6.setCell ⟨U, 2, none⟩ (Value.string (files i)) := ⟨_, rfl⟩
          rw [← hW7]
          have hrbw := blk_lt hRr.out
          have hwU : wr.heap.size ≤ U := by have := HB4.out.size; omega
          have hUr : U ≠ rb := by omega
          have hU7 : W7.heap[U]? = some (.cells #[Value.string un, Value.bool uq, Value.string (files i)] 34 (0, 0)) := by rw [hW7]; exact blk_put (by rw [hUe]; exact HU6.out) 2 _ rfl
          have hB7 : Below wr.heap.size wr W7 := by rw [hW7]; exact below_set HB6.out hwU
          have hR7 : W7.heap[rb]? = some (.cells #[Value.slice (some ad) ys.length c8, vu, Value.int .i64 0] 54 (0, 0)) := (hB7.block _ hrbw).trans hRr.out
          obtain ⟨Au, cu, rfl⟩ := Kd.R_slice hU.out
          have hO7 : Aside0 (Kd.R kUs 34 W7.drew WL.heap.size (fun _ => True) (.slice Au us0.length cu) us0) := ⟨Kd.R_drew (Kd.R_below hU.out hB7)⟩
          have HWU := Aside0.mk hwU
          have HB7 := Aside0.mk hB7
          have HR7 := Aside0.mk hR7
          have hul : us0.length ≤ 1000000 := by rw [hus0.out]; have := usF_len incs files ggs i; omega
          have HUL := Aside0.mk hul
          have HSZ7 : Aside0 (WL.heap.size ≤ W7.drew.heap.size) := ⟨by have h1 := hKr.out.1; have h2 := HB7.out.size; show WL.heap.size ≤ W7.heap.size; omega⟩
          have b1 : W7.drew.cell? ⟨rb, 1, none⟩ = some (.slice Au us0.length cu) := by have := cell_of_row _ rb 1 _ _ _ (blk_drew hR7); simpa using this
          have b2 : W7.drew.cell? ⟨U, 0, none⟩ = some (.string un) := by have := cell_of_row _ U 0 _ _ _ (blk_drew hU7); simpa using this
          have b3 : W7.drew.cell? ⟨U, 1, none⟩ = some (.bool uq) := by have := cell_of_row _ U 1 _ _ _ (blk_drew hU7); simpa using this
          have b4 : W7.drew.cell? ⟨U, 2, none⟩ = some (.string (files i)) := by have := cell_of_row _ U 2 _ _ _ (blk_drew hU7); simpa using this
          have b5 : (W7.alloc (Obj.cells #[Value.string un, Value.bool uq, Value.string (files i)] 34)).cell? ⟨rb, 1, none⟩ = some (.slice Au us0.length cu) := by have := cell_of_row _ rb 1 _ _ _ (blk_alloc hR7 (Obj.cells #[Value.string un, Value.bool uq, Value.string (files i)] 34)); simpa using this
          have HCF : Aside0 (∀ w9, World.grownBy W7.drew w9 (Value.slice Au us0.length cu).ownBlock → w9.heap[rb]? = some (.cells #[Value.slice (some ad) ys.length c8, .slice Au us0.length cu, Value.int .i64 0] 54 (0, 0))) := ⟨fun w9 hg => (hg.block rb (blk_lt hR7) (Kd.R_ne hO7.out (blk_drew hR7) (by decide))).trans hR7⟩
          clear hUe hW7 hrbw hwU hUr hU7 hB7 hR7 hul z2 z3 v0 v1 v2
          obtain ⟨nu, hnu⟩ : ∃ nu, nu = us0.length := ⟨_, rfl⟩
          rw [← hnu] at b1 b5
          have HNU := Aside0.mk hnu
          clear hnu
          go_wp2
          refine Code.wp_mono (normalOnly_imp _) ?_
          go_region_law ((first | refine Kd.R_append_step kUs (w0 := W7.drew) (W := W7.drew) WL.heap.size (by rfl) (.tmp 113) (.tmp 115) 25 34 (.agg #[(.string ⟨#[]⟩), (.bool false), (.string ⟨#[]⟩)]) 40 ?aH Tryz.underlying25 (by kernel_rfl) rfl (by decide) (by omega) (.slice Au nu cu) us0 (un, uq, files i) [.string un, .bool uq, .string (files i)] (fun _ => True) (fun _ => False) ?aV ?aX ⟨_, _, rfl, rfl, ⟨_, _, rfl, rfl, rfl⟩⟩ (fun _ h => h.elim) (fun _ _ => trivial) ?aO (Below.refl _ _) ?aS ?aL ?_); (case aH => rfl); (case aV => rfl); (case aX => rfl); (case aO => rw [HNU.out]; exact hO7.out); (case aS => exact HSZ7.out); (case aL => have := HUL.out; show (us0.length + 1) * 40 ≤ _; omega); intro v9 w9 ho hb hg hat; obtain ⟨A9, c9, rfl⟩ := Kd.R_slice ho; have hc9 := HCF.out w9 (by rw [← HNU.out]; exact hg); have r0 : w9.cell? ⟨rb, 1, none⟩ = some (.slice Au nu cu) := (by have := cell_of_row _ rb 1 _ _ _ hc9; rw [← HNU.out] at this; simpa using this); have r1 := blk_frozen hc9 1; have HC9 := Aside0.mk hc9; have HO9 := Aside0.mk ho; have HB9 := Aside0.mk hb; clear hc9 ho hb hg hat)
          all_goals (try unfold normalOnly)
          all_goals (try dsimp only)
          all_goals
            obtain ⟨W8, hW8⟩ : ∃ W8, W8 = w9.setCell ⟨rb, 1, none⟩ (Value.slice A9 (us0.length + 1) c9) := ⟨_, rfl⟩
            rw [← hW8]
            have hR8 : W8.heap[rb]? = some (.cells #[Value.slice (some ad) ys.length c8, Value.slice A9 (us0.length + 1) c9, Value.int .i64 0] 54 (0, 0)) := by rw [hW8]; exact blk_put HC9.out 1 _ rfl
            have hO8 : Kd.R kUs 34 W8 WL.heap.size (fun _ => True) (.slice A9 (us0.length + 1) c9) (us0 ++ [(un, uq, files i)]) := by rw [hW8]; have := HO9.out; rw [List.length_append, List.length_singleton] at this; exact Kd.R_set this HC9.out (by decide) 1 _
            have hK8 : KeepBut WL W8 rb none := by
              have h7 := KeepBut.trans hKr.out (KeepBut.of_below HB7.out rb none) (.inl rfl)
              refine ⟨by rw [hW8]; have h1 := h7.1; have h2 := HB9.out.size; simp; exact Nat.le_trans h1 h2, fun k h1 h2 h3 => ?_⟩
              rw [hW8]
              exact (Below.heap_setCell _ ⟨rb, 1, none⟩ _ k h2).trans ((HB9.out.block k h1).trans (h7.2 k h1 h2 h3))
            have hB8 : Below w0.heap.size w0 W8 := by
              have h0 := HBL.out.size
              have hw0 := HK9.out.2.2.1
              have h9 : Below w0.heap.size W7.drew w9 := ⟨HB9.out.os, HB9.out.tape, HB9.out.output, HB9.out.size, fun k hk => HB9.out.block k (by omega)⟩
              rw [hW8]
              exact ((below_drew1 (below_step hBr.out HB7.out)).trans h9).setCell hw0 _
            have HZ := Aside0.mk (And.intro hR8 (And.intro hO8 (And.intro hK8 hB8)))
            clear hW8 hR8 hO8 hK8 hB8 r0 r1
            go_wp2
            go_roundg g1
            case measure => omega
            case rel => exact ⟨i + 1, _, _, by (try simp), ⟨by rw [HUS.out, ← hus0.out]; simp⟩, ⟨by omega⟩, ⟨HZ.out.1⟩, ⟨HZ.out.2.1⟩, ⟨HZ.out.2.2.1⟩, ⟨HZ.out.2.2.2⟩⟩
end Go.Proofs.YtolaiebjmhieiaaGreatDoor.OScan
end
section
namespace Go.Proofs.YtolaiebjmhieiaaGreatDoor.OScan
open Go.RowKit Go.Proofs.YtolaiebjmhieiaaGreatDoorW.PrintWords Go.Proofs.YtolaiebjmhieiaaGreatDoorW.PrintLast Go.Proofs.YtolaiebjmhieiaaGreatDoorW.PrintMore
set_option linter.unusedVariables false
set_option linter.unusedSimpArgs false
theorem finKind_pos (kw : List ByteArray) (kd : Int) (t : ByteArray) (h : 1 ≤ kd) : 1 ≤ finKind kw kd t := by unfold finKind; split <;> omega
theorem tokD_text (kw sg : List ByteArray) (s : ByteArray) (at0 : Int) (c : Bool) (hs : s.size ≤ 1000000) (h0 : 0 ≤ at0) (h1 : at0 ≤ s.size) (hl : sg.length ≤ 1000000) :
    at0 ≤ (tokD kw sg s at0 c).1.2.2.2 ∧ (tokD kw sg s at0 c).1.2.2.2 + (tokD kw sg s at0 c).1.2.2.1.size ≤ s.size ∧ ((tokD kw sg s at0 c).1.1 ≠ 0 → 1 ≤ (tokD kw sg s at0 c).1.2.2.1.size) := by
  obtain ⟨b, at1, c1, hb, hb0, hb1, hbs⟩ := before_tot s at0 sg c hs h0 h1 (K0 s sg) (by unfold K0; omega)
  have hb : ∀ v, lex_scanner_before.f (K0 s sg) s at0 v sg c = some (b, s, at1, v, c1) := hb
  by_cases he : at1 = (s.size : Int)
  · have hd : tokD kw sg s at0 c = ((0, b, ⟨#[]⟩, at1), at1, c1) := by unfold tokD; rw [hb .nilIface]; simp only; rw [if_pos he]
    rw [hd]
    have h2 : (⟨#[]⟩ : ByteArray).size = 0 := rfl
    exact ⟨hb0, by simp only [h2]; omega, by simp⟩
  · obtain ⟨n, kd, ht, hn, hn1, hk1⟩ := tries_tot s at1 sg c1 hs (by omega) (by omega) hl (K0 s sg) (by unfold K0; omega) (by unfold K0; omega) 6 0
    have hd : tokD kw sg s at0 c = ((finKind kw kd (s.extract at1.toNat (at1 + n).toNat), b, s.extract at1.toNat (at1 + n).toNat, at1), at1 + n, false) := by
      unfold tokD; rw [hb .nilIface]; simp only; rw [if_neg he, ht .nilIface]
    rw [hd]
    have h2 : (s.extract at1.toNat (at1 + n).toNat).size = n.toNat := by rw [ByteArray.size_extract]; omega
    exact ⟨hb0, by simp only [h2]; omega, fun _ => by simp only [h2]; omega⟩
theorem toksD_at (s : ByteArray) (hs : s.size ≤ 1000000) : ∀ (f : Nat) (at0 : Int) (c : Bool), 0 ≤ at0 → at0 ≤ s.size → ∀ (j : Nat) (t : Tk), (toksD kwL sgL s f at0 c)[j]? = some t → at0 + j ≤ t.2.2.2 ∧ t.2.2.2 + t.2.2.1.size ≤ s.size ∧ (t.1 ≠ 0 → 1 ≤ t.2.2.1.size)
  | 0, at0, c, _, _, j, t, h => by simp [toksD] at h
  | f + 1, at0, c, h0, h1, j, t, h => by
    have hl : sgL.length ≤ 1000000 := by rw [sg_len]; decide
    obtain ⟨g1, g2, g3⟩ := tokD_text kwL sgL s at0 c hs h0 h1 hl
    obtain ⟨p1, p2, p3, _⟩ := tokD_place kwL sgL s at0 c hs h0 h1 hl
    simp only [toksD] at h
    split at h
    · cases j with
      | zero =>
        obtain rfl : (tokD kwL sgL s at0 c).1 = t := by simpa using h
        exact ⟨by simpa using g1, g2, g3⟩
      | succ j => simp at h
    · rename_i hk
      cases j with
      | zero =>
        obtain rfl : (tokD kwL sgL s at0 c).1 = t := by simpa using h
        exact ⟨by simpa using g1, g2, g3⟩
      | succ j =>
        rw [List.getElem?_cons_succ] at h
        have := p3 hk
        obtain ⟨q1, q2, q3⟩ := toksD_at s hs f _ _ (by omega) p1 j t h
        exact ⟨by omega, q2, q3⟩
theorem toksD_len (s : ByteArray) (hs : s.size ≤ 1000000) (f : Nat) (at0 : Int) (c : Bool) (h0 : 0 ≤ at0) (h1 : at0 ≤ s.size) : ((toksD kwL sgL s f at0 c).length : Int) ≤ s.size - at0 + 1 := by
  rcases Nat.eq_zero_or_pos (toksD kwL sgL s f at0 c).length with h | h
  · omega
  · have hj : (toksD kwL sgL s f at0 c).length - 1 < (toksD kwL sgL s f at0 c).length := by omega
    obtain ⟨q1, q2, _⟩ := toksD_at s hs f at0 c h0 h1 _ _ (List.getElem?_eq_getElem hj)
    omega
theorem toksD_pos (s : ByteArray) (f : Nat) (at0 : Int) (c : Bool) : 1 ≤ (toksD kwL sgL s (f + 1) at0 c).length := by
  simp only [toksD]; split <;> simp
theorem toksD_two (s : ByteArray) (f : Nat) (at0 : Int) (c : Bool) (h : (tokD kwL sgL s at0 c).1.1 ≠ 0) : 2 ≤ (toksD kwL sgL s (f + 2) at0 c).length := by
  have hd : toksD kwL sgL s (f + 2) at0 c = (tokD kwL sgL s at0 c).1 :: toksD kwL sgL s (f + 1) (tokD kwL sgL s at0 c).2.1 (tokD kwL sgL s at0 c).2.2 := by
    rw [show f + 2 = (f + 1) + 1 from rfl, toksD, if_neg h]
  rw [hd, List.length_cons]
  have := toksD_pos s f (tokD kwL sgL s at0 c).2.1 (tokD kwL sgL s at0 c).2.2
  omega
theorem before_paren (s : ByteArray) (l : List UInt8) (v : Value) (sg : List ByteArray) (c : Bool) (hl : s.data.toList = 40 :: l) (hs : s.size ≤ 1000000) (k : Nat) :
    lex_scanner_before.f (k + 5) s 0 v sg c = some (s.extract 0 0, s, 0, v, c) := by
  have hsz : s.data.toList.length = s.size := by rw [← Lib.size_eq]
  have hpos : 0 < s.size := by rw [← hsz, hl]; simp
  have hb : bt s 0 = 40 := by
    unfold bt
    rw [dif_pos (by simpa using hpos)]
    have h1 : s[(0 : Int).toNat]'(by simpa using hpos) = 40 := by
      have h2 : s.data.toList[0]? = some 40 := by rw [hl]; rfl
      have h3 : s.data[0]? = some 40 := by simpa using h2
      have h4 := Array.getElem?_eq_some_iff.1 h3
      obtain ⟨h5, h6⟩ := h4
      exact h6
    rw [h1]; rfl
  have hR : (s.extract (0 : Int).toNat s.size).data.toList = 40 :: l := by
    rw [← hl]
    have : s.extract (0 : Int).toNat s.size = s := ByteArray.extract_zero_size
    rw [this]
  have hc : lex_scanner_comment.f s 0 v sg c = some (false, s, 0, v, c) := by
    have hr := rest_tot s 0 sg c hs (by omega) (by omega) v
    simp only [lex_scanner_comment.f, hr, Option.bind_some]
    generalize s.extract (0 : Int).toNat s.size = R at hR
    obtain ⟨t1, ht1, _⟩ := prefix_tot R ⟨#[47, 47]⟩
    obtain ⟨t2, ht2, _⟩ := prefix_tot R ⟨#[47, 42]⟩
    cases t1 with
    | true =>
      obtain ⟨l', hl'⟩ := prefix_two R 47 47 ht1
      rw [hR] at hl'
      exact absurd hl' (by simp)
    | false =>
      cases t2 with
      | true =>
        obtain ⟨l', hl'⟩ := prefix_two R 47 42 ht2
        rw [hR] at hl'
        exact absurd hl' (by simp)
      | false => simp only [ht1, ht2, Option.bind_some, Bool.false_eq_true, if_false]
  unfold lex_scanner_before.f
  rw [lex_scanner_before.l0, if_pos (by omega), if_pos (by omega), if_neg (by rw [hb]; decide), if_neg (by rw [hb]; decide), hb]
  rw [show ((40 : Int) == 9) = false from by decide]
  rw [lex_scanner_before.j1, if_neg (by decide), if_neg (by decide), if_neg (by decide)]
  rw [show ((40 : Int) == 13) = false from by decide]
  rw [lex_scanner_before.j2, if_neg (by decide), if_neg (by decide)]
  rw [lex_scanner_before.j3, if_neg (by decide), if_neg (by decide)]
  rw [lex_scanner_before.j4, if_neg (by decide), hc]
  simp only [Option.bind_some, Bool.false_eq_true, if_false]
  rw [if_pos (by omega), if_pos (by omega), if_pos (by omega)]
  rfl
theorem first_paren (s : ByteArray) (l : List UInt8) (hl : s.data.toList = 40 :: l) (hs : s.size ≤ 1000000) : (tokD kwL sgL s 0 true).1.1 ≠ 0 := by
  have hsz : s.data.toList.length = s.size := by rw [← Lib.size_eq]
  have hpos : 0 < s.size := by rw [← hsz, hl]; simp
  have hsl : sgL.length ≤ 1000000 := by rw [sg_len]; decide
  have hb : ∀ v, lex_scanner_before.f (K0 s sgL) s 0 v sgL true = some (s.extract 0 0, s, 0, v, true) := fun v => by
    have := before_paren s l v sgL true hl hs (5 * s.size + sgL.length + 95)
    exact this
  obtain ⟨n, kd, ht, hn, hn1, hk1⟩ := tries_tot s 0 sgL true hs (by omega) (by omega) hsl (K0 s sgL) (by unfold K0; omega) (by unfold K0; omega) 6 0
  have hd : tokD kwL sgL s 0 true = ((finKind kwL kd (s.extract (0 : Int).toNat (0 + n).toNat), s.extract 0 0, s.extract (0 : Int).toNat (0 + n).toNat, 0), 0 + n, false) := by
    unfold tokD; rw [hb .nilIface]; simp only; rw [if_neg (by omega), ht .nilIface]
  rw [hd]
  have := finKind_pos kwL kd (s.extract (0 : Int).toNat (0 + n).toNat) hk1
  simp only; omega
theorem scan_paren (s : ByteArray) (hs : s.size ≤ 190000) (he : (scanR (⟨#[40]⟩ ++ s)).2 = 0) : 2 ≤ (scanR (⟨#[40]⟩ ++ s)).1.length ∧ (scanR (⟨#[40]⟩ ++ s)).1.length ≤ 40000 ∧ ((scanR (⟨#[40]⟩ ++ s)).1.length ≤ s.size + 2) ∧
    ∀ (j : Nat) (t : Tk), (scanR (⟨#[40]⟩ ++ s)).1[j]? = some t → (j : Int) ≤ t.2.2.2 ∧ t.2.2.2 + t.2.2.1.size ≤ s.size + 1 ∧ (t.1 ≠ 0 → 1 ≤ t.2.2.1.size) := by
  have hsz : (⟨#[40]⟩ ++ s : ByteArray).size = s.size + 1 := by rw [ByteArray.size_append]; have : (⟨#[40]⟩ : ByteArray).size = 1 := rfl; omega
  have hl : (⟨#[40]⟩ ++ s : ByteArray).data.toList = 40 :: s.data.toList := by simp
  generalize (⟨#[40]⟩ ++ s : ByteArray) = S at *
  have hr : scanR S = (toksD kwL sgL S (S.size + 1) 0 true, 0) ∧ (toksD kwL sgL S (S.size + 1) 0 true).length ≤ 40000 := by
    unfold scanR at he ⊢
    rw [if_neg (by omega)] at he ⊢
    by_cases h : (toksD kwL sgL S (S.size + 1) 0 true).length > 40000
    · rw [if_pos h] at he; exact absurd he (by decide)
    · rw [if_neg h]; exact ⟨rfl, by omega⟩
  rw [hr.1]
  refine ⟨?_, hr.2, ?_, fun j t ht => ?_⟩
  · rw [hsz]; exact toksD_two S s.size 0 true (first_paren S _ hl (by omega))
  · have := toksD_len S (by omega) (S.size + 1) 0 true (by omega) (by omega)
    simp only; omega
  · obtain ⟨q1, q2, q3⟩ := toksD_at S (by omega) (S.size + 1) 0 true (by omega) (by omega) j t ht
    exact ⟨by omega, by omega, q3⟩
def FirstIn (s : ByteArray) (out : List Tk) : Prop := ∀ t : Tk, out[0]? = some t → t.2.2.1 = ⟨#[35]⟩ ∨ ((0 : Int) ≤ t.2.2.2 ∧ t.2.2.2 + (t.2.2.1.size : Int) ≤ (s.size : Int))
theorem wordsGo_tot (rec_ : ByteArray → Int → Option (List Tk)) (s : ByteArray) (add : Int) (hs : s.size ≤ 190000)
    (hrec : ∀ (a : Int) (add' : Int), 1 ≤ a → a ≤ s.size → ∃ r, rec_ (s.extract a.toNat s.size) add' = some r ∧ (r.length : Int) ≤ s.size - a + 1) :
    ∀ (zs out : List Tk) (i : Nat), out.length = i → i + zs.length ≤ s.size → (∀ (j : Nat) (t : Tk), zs[j]? = some t → (i + j + 1 : Int) ≤ t.2.2.2 ∧ t.2.2.2 + t.2.2.1.size ≤ s.size + 1 ∧ (t.1 ≠ 0 → 1 ≤ t.2.2.1.size)) →
      ∃ r, wordsGo rec_ s add zs out = some r ∧ r.length ≤ s.size + 1 ∧ (add = 0 → FirstIn s out → FirstIn s r)
  | [], out, i, hi, hl, _ => ⟨out, rfl, by omega, fun _ h => h⟩
  | t :: zs, out, i, hi, hl, h => by
    obtain ⟨q1, q2, q3⟩ := h 0 t rfl
    simp only [List.length_cons] at hl
    have hw : wFrom t.2.2.2 = t.2.2.2 := by unfold wFrom; rw [wr (a := t.2.2.2 - 1) (by omega) (by omega)]; exact wr (by omega) (by omega) |>.trans (by omega)
    by_cases hk : t.1 = 7
    · have h1 := q3 (by omega)
      obtain ⟨r, hr, hrl⟩ := hrec t.2.2.2 (wrap64 (add + wFrom t.2.2.2)) (by omega) (by omega)
      refine ⟨(out ++ [(6, t.2.1, ⟨#[35]⟩, wPlace add t.2.2.2)]) ++ r, ?_, ?_, fun _ hf => ?_⟩
      · simp only [wordsGo]
        rw [if_pos hk, hw, if_pos ⟨by omega, by omega⟩]
        rw [hw] at hr
        rw [hr]
        simp only [Option.bind_some]
        rw [if_pos (by omega)]
      · rw [List.length_append, List.length_append, List.length_singleton]; omega
      · intro u hu
        rw [List.append_assoc] at hu
        cases out with
        | nil =>
          simp at hu
          subst hu
          exact .inl rfl
        | cons o out => exact hf u (by simpa using hu)
    · obtain ⟨r, hr, hrl, hf⟩ := wordsGo_tot rec_ s add hs hrec zs (out ++ [(t.1, t.2.1, t.2.2.1, wPlace add t.2.2.2)]) (i + 1) (by simp [hi]) (by omega) (fun j u hu => by
        have := h (j + 1) u (by simpa using hu)
        push_cast at this ⊢
        exact ⟨by omega, this.2⟩)
      refine ⟨r, ?_, hrl, fun ha hf0 => hf ha ?_⟩
      · simp only [wordsGo]; rw [if_neg hk]; exact hr
      · intro u hu
        cases out with
        | nil =>
          simp at hu
          subst hu
          have hp : wPlace add t.2.2.2 = t.2.2.2 - 1 := by
            unfold wPlace; rw [ha, wr (a := t.2.2.2 - 1) (by omega) (by omega)]; exact wr (by omega) (by omega) |>.trans (by omega)
          exact .inr ⟨by simp only [hp]; omega, by simp only [hp]; omega⟩
        | cons o out => exact hf0 u (by simpa using hu)
theorem words_tot : ∀ (k : Nat) (s : ByteArray) (add : Int), s.size ≤ 190000 → s.size + 1 ≤ k → ∃ r, wordsF k s add = some r ∧ r.length ≤ s.size + 1 ∧ (add = 0 → FirstIn s r)
  | 0, s, add, _, hk => by omega
  | k + 1, s, add, hs, hk => by
    simp only [wordsF]
    by_cases he : (scanR (⟨#[40]⟩ ++ s)).2 = 0
    · obtain ⟨h1, h2, h3, h4⟩ := scan_paren s hs he
      rw [if_pos he, if_pos ⟨h1, by omega⟩]
      generalize (scanR (⟨#[40]⟩ ++ s)).1 = ys at *
      obtain ⟨r, hr, hrl, hf⟩ := wordsGo_tot (wordsF k) s add hs (fun a add' ha1 ha2 => by
        have hsz : (s.extract a.toNat s.size).size = s.size - a.toNat := by rw [ByteArray.size_extract]; omega
        obtain ⟨r, hr, hrl, _⟩ := words_tot k (s.extract a.toNat s.size) add' (by omega) (by omega)
        exact ⟨r, hr, by omega⟩) ((ys.take (ys.length - 1)).drop 1) [] 0 rfl (by rw [List.length_drop, List.length_take]; omega) (fun j t ht => by
        rw [List.getElem?_drop, List.getElem?_take] at ht
        split at ht
        · have := h4 _ t ht
          push_cast at this
          exact ⟨by omega, this.2⟩
        · cases ht)
      exact ⟨r, hr, hrl, fun ha => hf ha (fun t ht => by simp at ht)⟩
    · rw [if_neg he]
      exact ⟨[], rfl, by simp, fun _ t ht => by simp at ht⟩
end Go.Proofs.YtolaiebjmhieiaaGreatDoor.OScan
end
section
namespace Go.Proofs.YtolaiebjmhieiaaGreatDoor.OScan
open Go.RowKit Go.Proofs.YtolaiebjmhieiaaGreatDoorW.PrintWords Go.Proofs.YtolaiebjmhieiaaGreatDoorW.PrintLast Go.Proofs.YtolaiebjmhieiaaGreatDoorW.PrintMore
set_option linter.unusedVariables false
set_option linter.unusedSimpArgs false
theorem index_tot (xs : List ByteArray) (a : ByteArray) (hl : xs.length ≤ 1000000) : ∀ (d k : Nat) (i : Int), 0 ≤ i → i ≤ xs.length → (xs.length : Int) - i ≤ d → d < k → ∃ r, OCond.slices_Index_string_string.l0 k xs a (xs.length : Int) i = some r ∧ -1 ≤ r ∧ r < xs.length ∧ (0 ≤ r → r.toNat < xs.length ∧ a.toList = (rdOf ByteArray.empty xs r).toList) ∧ (r < 0 → ∀ j : Int, i ≤ j → j < xs.length → a.toList ≠ (rdOf ByteArray.empty xs j).toList)
  | d, 0, i, _, _, _, hk => by omega
  | d, k + 1, i, h0, h1, hd, hk => by
    rw [OCond.slices_Index_string_string.l0]
    by_cases h : i < (xs.length : Int)
    · rw [if_pos h, if_pos h0, if_pos h]
      by_cases he : a.toList = (rdOf ByteArray.empty xs i).toList
      · rw [if_pos he]
        exact ⟨i, rfl, by omega, h, fun _ => ⟨by omega, he⟩, fun h => by omega⟩
      · rw [if_neg he, wr (by omega) (by omega)]
        cases d with
        | zero => omega
        | succ d =>
          obtain ⟨r, hr, q1, q2, q3, q4⟩ := index_tot xs a hl d k (i + 1) (by omega) (by omega) (by omega) (by omega)
          refine ⟨r, hr, q1, q2, q3, fun hr0 j hj hj2 => ?_⟩
          by_cases hji : j = i
          · rw [hji]; exact he
          · exact q4 hr0 j (by omega) hj2
    · rw [if_neg h]
      exact ⟨-1, rfl, by omega, by omega, fun h => by omega, fun _ j hj hj2 => by omega⟩
theorem contains_tot (xs : List ByteArray) (a : ByteArray) (k : Nat) (hl : xs.length ≤ 1000000) (hk : xs.length < k) : ∃ b, OCond.slices_Contains_string_string.f k xs a = some b ∧ (b = true ↔ a ∈ xs) := by
  obtain ⟨r, hr, q1, q2, q3, q4⟩ := index_tot xs a hl xs.length k 0 (by omega) (by omega) (by omega) hk
  refine ⟨decide (r ≥ 0), ?_, ?_⟩
  · unfold OCond.slices_Contains_string_string.f OCond.slices_Index_string_string.f
    rw [hr]; rfl
  · have hrd : ∀ j : Int, rdOf ByteArray.empty xs j = xs.getD j.toNat ByteArray.empty := fun j => rfl
    have hinj : ∀ x y : ByteArray, x.toList = y.toList → x = y := fun x y h => by
      rw [ByteArray.toList_eq, ByteArray.toList_eq] at h
      exact Go.WideShapes.bytes_inj h
    rw [decide_eq_true_iff]
    constructor
    · intro h
      obtain ⟨h1, h2⟩ := q3 h
      have := hinj _ _ h2
      rw [this, hrd, List.getD_eq_getElem?_getD, List.getElem?_eq_getElem h1]
      exact List.getElem_mem h1
    · intro h
      obtain ⟨j, hj, he⟩ := List.getElem_of_mem h
      rcases Int.lt_or_le r 0 with hr0 | hr0
      · refine absurd ?_ (q4 hr0 j (by omega) (by omega))
        rw [hrd, List.getD_eq_getElem?_getD, show ((j : Int)).toNat = j from rfl, List.getElem?_eq_getElem hj, ← he]; rfl
      · exact hr0
theorem toS95_rd (r : List Tk) (h : 1 ≤ r.length) : ∃ t : Tk, r[0]? = some t ∧ OCond.rd_T95 (r.map OCond.toS95) 0 = OCond.toS95 t := by
  cases r with
  | nil => simp at h
  | cons t r => exact ⟨t, rfl, rfl⟩
theorem Words_tot (t : Tk) (h7 : t.1 = 7) (hs : t.2.2.1.size ≤ 190000) : ∃ (r : List Tk) (er : Int), OCond.cond_Words.f t.1 t.2.1 t.2.2.1 t.2.2.2 = some (r.map OCond.toS95, er) ∧ r.length ≤ t.2.2.1.size + 1 ∧ ∀ u : Tk, r[0]? = some u → u.2.2.1 = ⟨#[35]⟩ ∨ ((0 : Int) ≤ u.2.2.2 ∧ u.2.2.2 + (u.2.2.1.size : Int) + 1 ≤ (t.2.2.1.size : Int)) := by
  unfold OCond.cond_Words.f
  rw [if_pos h7]
  have hp := hasP_f t.2.2.1 35
  rw [hp, Option.bind_some]
  by_cases hh : hasP t.2.2.1 35 = true
  · have h1 := hasP_size hh
    rw [if_pos hh, if_pos (by omega)]
    have hsz : (t.2.2.1.extract 1 t.2.2.1.size).size = t.2.2.1.size - 1 := by rw [ByteArray.size_extract]; omega
    obtain ⟨r, hr, hrl, hf⟩ := words_tot ((t.2.2.1.extract 1 t.2.2.1.size).size + 2) (t.2.2.1.extract 1 t.2.2.1.size) 0 (by omega) (by omega)
    refine ⟨r, 0, ?_, by omega, fun u hu => ?_⟩
    · unfold OCond.cond_words.f
      rw [if_pos (by omega), hr]; rfl
    · rcases hf rfl u hu with h | ⟨h2, h3⟩
      · exact .inl h
      · exact .inr ⟨h2, by omega⟩
  · rw [if_neg hh]
    exact ⟨[], 3, rfl, by simp, fun u hu => by simp at hu⟩
theorem other_ne : (⟨#[111, 116, 104, 101, 114]⟩ : ByteArray).toList ≠ incL := by rw [ByteArray.toList_eq]; decide
theorem empty_ne : (⟨#[]⟩ : ByteArray).toList ≠ incL := by rw [ByteArray.toList_eq]; decide
theorem Kind_tot (t : Tk) (hs : t.2.2.1.size ≤ 190000) : ∃ kd, OCond.cond_Kind.f 20 t.1 t.2.1 t.2.2.1 t.2.2.2 = some kd ∧ (kd.toList = incL → ∃ (ws : List OCond.S95) (er a : Int), OCond.cond_Words.f t.1 t.2.1 t.2.2.1 t.2.2.2 = some (ws, er) ∧ 1 ≤ ws.length ∧ (OCond.rd_T95 ws 0).f3 = a ∧ 0 ≤ a ∧ a + 8 ≤ t.2.2.1.size) := by
  by_cases h7 : t.1 = 7
  · obtain ⟨r, er, hW, hrl, hf⟩ := Words_tot t h7 hs
    unfold OCond.cond_Kind.f
    rw [if_pos h7, hW, Option.bind_some]
    simp only
    by_cases hl : 1 ≤ r.length
    · have hl2 : ((r.map OCond.toS95).length : Int) > 0 := by rw [List.length_map]; omega
      rw [if_pos hl2, if_pos hl2]
      obtain ⟨u, hu, hrd⟩ := toS95_rd r hl
      rw [hrd]
      obtain ⟨b, hb, hbb⟩ := contains_tot ([(⟨#[105, 102]⟩ : ByteArray), (⟨#[105, 102, 100, 101, 102]⟩ : ByteArray), (⟨#[105, 102, 110, 100, 101, 102]⟩ : ByteArray), (⟨#[101, 108, 105, 102]⟩ : ByteArray), (⟨#[101, 108, 115, 101]⟩ : ByteArray), (⟨#[101, 110, 100, 105, 102]⟩ : ByteArray), (⟨#[100, 101, 102, 105, 110, 101]⟩ : ByteArray), (⟨#[117, 110, 100, 101, 102]⟩ : ByteArray), (⟨#[105, 110, 99, 108, 117, 100, 101]⟩ : ByteArray)] : List ByteArray) (OCond.toS95 u).f2 20 (by decide) (by decide)
      rw [hb, Option.bind_some]
      by_cases hbt : b = true
      · rw [if_pos hbt]
        refine ⟨_, rfl, fun hi => ⟨_, er, (OCond.toS95 u).f3, rfl, by rw [List.length_map]; exact hl, by rw [hrd], ?_⟩⟩
        have hi' : u.2.2.1.toList = incL := hi
        have hsz : u.2.2.1.size = 7 := by rw [← data_length, ← ByteArray.toList_eq, hi']; rfl
        rcases hf u hu with h | ⟨h1, h2⟩
        · rw [h] at hsz; exact absurd hsz (by decide)
        · exact ⟨h1, by show u.2.2.2 + 8 ≤ _; omega⟩
      · rw [if_neg hbt]
        exact ⟨_, rfl, fun h => absurd h other_ne⟩
    · have hl2 : ¬ ((r.map OCond.toS95).length : Int) > 0 := by rw [List.length_map]; omega
      rw [if_neg hl2]
      exact ⟨_, rfl, fun h => absurd h other_ne⟩
  · unfold OCond.cond_Kind.f
    rw [if_neg h7]
    exact ⟨_, rfl, fun h => absurd h empty_ne⟩
end Go.Proofs.YtolaiebjmhieiaaGreatDoor.OScan
end
section
namespace Go.Proofs.YtolaiebjmhieiaaGreatDoor.OScan
open Go.RowKit Go.Proofs.YtolaiebjmhieiaaGreatDoorW.PrintWords Go.Proofs.YtolaiebjmhieiaaGreatDoorW.PrintLast Go.Proofs.YtolaiebjmhieiaaGreatDoorW.PrintMore
set_option linter.unusedVariables false
set_option linter.unusedSimpArgs false
theorem lastIdx_l0 (s : ByteArray) (c : Int) (hs : s.size ≤ 4611686018427387904) : ∀ (d k : Nat) (x : Int), -1 ≤ x → x < s.size → x + 1 ≤ d → d < k → ∃ t, OJoin.bytealg_LastIndexByteString.l0 k s c x = some t ∧ -1 ≤ t ∧ t < (s.size : Int) ∨ (s.size = 0 ∧ OJoin.bytealg_LastIndexByteString.l0 k s c x = some (-1))
  | d, 0, x, _, _, _, hk => by omega
  | d, k + 1, x, h0, h1, hd, hk => by
    rw [OJoin.bytealg_LastIndexByteString.l0]
    by_cases h : x ≥ 0
    · rw [if_pos h, if_pos h, if_pos h1]
      by_cases hb : bt s x = c
      · rw [if_pos hb]; exact ⟨x, .inl ⟨rfl, by omega, h1⟩⟩
      · rw [if_neg hb, wr (by omega) (by omega)]
        cases d with
        | zero => omega
        | succ d => exact lastIdx_l0 s c hs d k (x - 1) (by omega) (by omega) (by omega) (by omega)
    · rw [if_neg h]
      exact ⟨-1, .inl ⟨rfl, by omega, by omega⟩⟩
theorem lastIdx_tot (s : ByteArray) (c : Int) (hs : s.size ≤ 4611686018427387904) (k : Nat) (hk : s.size < k) : ∃ t, OJoin.strings_LastIndexByte.f k s c = some t ∧ -1 ≤ t ∧ t < max 1 (s.size : Int) ∧ (s.size = 0 → t = -1) := by
  unfold OJoin.strings_LastIndexByte.f OJoin.bytealg_LastIndexByteString.f
  rw [wr (by omega) (by omega)]
  by_cases h0 : s.size = 0
  · cases k with
    | zero => omega
    | succ k =>
      rw [OJoin.bytealg_LastIndexByteString.l0, if_neg (by omega)]
      exact ⟨-1, rfl, by omega, by omega, fun _ => rfl⟩
  · obtain ⟨t, h | h⟩ := lastIdx_l0 s c hs s.size k ((s.size : Int) - 1) (by omega) (by omega) (by omega) hk
    · rw [h.1]; exact ⟨t, rfl, h.2.1, by omega, fun h => absurd h h0⟩
    · exact absurd h.1 h0
theorem cutPrefix_tot (a p : ByteArray) : ∃ r b, OJoin.strings_CutPrefix.f a p = some (r, b) ∧ (b = true → r.size + p.size = a.size) ∧ (b = false → r = a) := by
  unfold OJoin.strings_CutPrefix.f OJoin.stringslite_CutPrefix.f OJoin.stringslite_HasPrefix.f
  by_cases h : (a.size : Int) ≥ (p.size : Int)
  · rw [if_pos h, if_pos (by omega), if_pos h]
    simp only [Option.bind_some]
    by_cases hb : ((a.extract 0 ((p.size : Int) : Int).toNat).toList == p.toList) = true
    · rw [if_pos hb, if_pos (by omega), if_pos h]
      exact ⟨_, true, rfl, fun _ => by rw [ByteArray.size_extract]; omega, fun h => absurd h (by decide)⟩
    · rw [if_neg hb]
      exact ⟨_, false, rfl, (fun h => absurd h (by decide)), fun _ => rfl⟩
  · rw [if_neg h]
    exact ⟨_, false, rfl, (fun h => absurd h (by decide)), fun _ => rfl⟩
theorem joined_l0 : ∀ (e k : Nat) (d n : ByteArray), n.size ≤ e → n.size ≤ 1000000 → d.size ≤ 140737488355328 → e + d.size + 2 < k → ∃ r, OJoin.head_joined.l0 k d n = some r
  | e, 0, d, n, _, _, _, hk => by omega
  | e, k + 1, d, n, he, hn, hd, hk => by
    rw [OJoin.head_joined.l0]
    obtain ⟨r1, b1, h1, p1, _⟩ := cutPrefix_tot n ⟨#[46, 47]⟩
    have z1 : (⟨#[46, 47]⟩ : ByteArray).size = 2 := rfl
    rw [h1, Option.bind_some]
    simp only
    by_cases hb1 : b1 = true
    · rw [if_pos hb1]
      have := p1 hb1
      cases e with
      | zero => omega
      | succ e => exact joined_l0 e k d r1 (by omega) (by omega) hd (by omega)
    · rw [if_neg hb1]
      obtain ⟨r2, b2, h2, p2, _⟩ := cutPrefix_tot n ⟨#[46, 46, 47]⟩
      have z2 : (⟨#[46, 46, 47]⟩ : ByteArray).size = 3 := rfl
      rw [h2, Option.bind_some]
      simp only
      by_cases hb2 : b2 = true
      · rw [if_pos hb2]
        have := p2 hb2
        by_cases hx : d.toList = ([] : List UInt8)
        · rw [if_pos hx]; exact ⟨_, rfl⟩
        · rw [if_neg hx]
          have hds : d.size ≠ 0 := fun h => hx (by rw [ByteArray.toList_eq]; exact List.eq_nil_of_length_eq_zero (by rw [data_length]; exact h))
          obtain ⟨t, ht, t1, t2, _⟩ := lastIdx_tot d 47 (by omega) k (by omega)
          rw [ht, Option.bind_some]
          have hm0 : (0 : Int) ≤ mx 0 t := by unfold mx; split <;> omega
          have hm1 : mx 0 t ≤ (d.size : Int) := by unfold mx; split <;> omega
          rw [if_pos hm0, if_pos hm1]
          cases e with
          | zero => omega
          | succ e => exact joined_l0 e k _ r2 (by omega) (by omega) (by rw [ByteArray.size_extract]; omega) (by rw [ByteArray.size_extract]; omega)
      · rw [if_neg hb2]
        by_cases hx : d.toList = ([] : List UInt8)
        · rw [if_pos hx]; exact ⟨_, rfl⟩
        · rw [if_neg hx, if_pos (by omega), if_pos (by rw [ByteArray.size_append]; have : (⟨#[47]⟩ : ByteArray).size = 1 := rfl; omega)]
          exact ⟨_, rfl⟩
def joinR (d n : ByteArray) : ByteArray × Bool := (OJoin.head_joined.f (d.size + n.size + 5) d n).getD (⟨#[]⟩, false)
theorem joinR_of (d n : ByteArray) (hn : n.size ≤ 1000000) (hd : d.size ≤ 140737488355328) : JoinOf d n (joinR d n) := by
  obtain ⟨r, hr⟩ := joined_l0 n.size (d.size + n.size + 5) d n (Nat.le_refl _) hn hd (by omega)
  refine ⟨d.size + n.size + 5, ?_⟩
  unfold joinR OJoin.head_joined.f
  rw [hr]; rfl
def ldR (s : ByteArray) : Int := (OJoin.strings_LastIndexByte.f (s.size + 2) s 47).getD (-1)
theorem ldR_of (s : ByteArray) (hs : s.size ≤ 1000000) : OJoin.strings_LastIndexByte.f (s.size + 2) s 47 = some (ldR s) ∧ -1 ≤ ldR s ∧ ldR s < s.size := by
  obtain ⟨t, ht, t1, t2, t3⟩ := lastIdx_tot s 47 (by omega) (s.size + 2) (by omega)
  unfold ldR
  rw [ht]
  refine ⟨rfl, t1, ?_⟩
  show t < s.size
  rcases Nat.eq_zero_or_pos s.size with h | h
  · have := t3 h; omega
  · omega
def dirsR (ps : List ByteArray) (from_ : ByteArray) (q : Bool) : List ByteArray := if q = true then from_.extract 0 (max 0 (ldR from_)).toNat :: ps else ps
def findR (m : AL) (ps : List ByteArray) (from_ n : ByteArray) (q : Bool) : ByteArray := findGo m ((dirsR ps from_ q).map fun d => joinR d n)
theorem findGo_in (m : AL) : ∀ js, findGo m js = ⟨#[]⟩ ∨ (alGet m (findGo m js)).isSome = true
  | [] => .inl rfl
  | j :: js => by
    unfold findGo
    split
    · rename_i h; exact .inr h.2
    · exact findGo_in m js
end Go.Proofs.YtolaiebjmhieiaaGreatDoor.OScan
end
section
namespace Go.Proofs.YtolaiebjmhieiaaGreatDoor.OScan
set_option linter.unusedVariables false
def Two (gs : List Gr) (st : List Ope) : Prop := ∀ (j : Nat) (g : Gr), gs[j]? = some g → 2 ≤ g.1.length ∨ (1 ≤ g.1.length ∧ ∃ x ∈ st, x.1 = j)
theorem Two.line {gs : List Gr} {x x' : Ope} {st : List Ope} {a : Int} {y : Int × Int × Int} (h : Two gs (x :: st)) (hx : x'.1 = x.1 ∨ True) : ∀ (j : Nat) (g : Gr), (gs.set x.1 ((grAt gs x.1).1 ++ [a], y))[j]? = some g → 2 ≤ g.1.length ∨ (1 ≤ g.1.length ∧ ∃ z ∈ st, z.1 = j) := by
  intro j g hj
  by_cases hjx : x.1 = j
  · subst hjx
    rw [List.getElem?_set_self'] at hj
    cases hg : gs[x.1]? with
    | none => rw [hg] at hj; simp at hj
    | some g0 =>
      rw [hg] at hj
      simp at hj
      subst hj
      left
      have e : grAt gs x.1 = g0 := by simp [grAt, List.getD_eq_getElem?_getD, hg]
      rw [e]
      have := h x.1 g0 hg
      simp only [List.length_append, List.length_singleton]
      omega
  · rw [List.getElem?_set_ne hjx] at hj
    rcases h j g hj with h1 | ⟨h1, z, hz, hzj⟩
    · exact .inl h1
    · rcases List.mem_cons.1 hz with rfl | hz
      · exact absurd hzj hjx
      · exact .inr ⟨h1, z, hz, hzj⟩
theorem Two.step {k : ByteArray} {a : Int} {gs : List Gr} {st : List Ope} {r : List Gr × List Ope} (h : Two gs st) (hs : stepF k a gs st = some r) : Two r.1 r.2 := by
  unfold stepF at hs
  split at hs
  · obtain rfl := Option.some.inj hs
    intro j g hj
    show 2 ≤ g.1.length ∨ (1 ≤ g.1.length ∧ ∃ x ∈ (gs.length, 0, false) :: st, x.1 = j)
    rcases Nat.lt_or_ge j gs.length with hl | hl
    · have hj' : gs[j]? = some g := by
        have : (gs ++ _)[j]? = some g := hj
        rwa [List.getElem?_append_left hl] at this
      rcases h j g hj' with h1 | ⟨h1, z, hz, hzj⟩
      · exact .inl h1
      · exact .inr ⟨h1, z, List.mem_cons_of_mem _ hz, hzj⟩
    · have hj' : (gs ++ _)[j]? = some g := hj
      rw [List.getElem?_append_right hl] at hj'
      obtain ⟨h0, he⟩ := List.getElem?_eq_some_iff.1 hj'
      simp at h0
      have hjl : j = gs.length := by omega
      subst hjl
      simp at he
      subst he
      exact .inr ⟨by simp, _, List.mem_cons_self, rfl⟩
  · split at hs
    · obtain rfl := Option.some.inj hs
      exact h
    · split at hs
      · cases hs
      · rename_i x st'
        split at hs
        · cases hs
        · split at hs
          · obtain rfl := Option.some.inj hs
            intro j g hj
            rcases Two.line (x' := x) h (.inr trivial) j g hj with h1 | ⟨h1, z, hz, hzj⟩
            · exact .inl h1
            · exact .inr ⟨h1, z, List.mem_cons_of_mem _ hz, hzj⟩
          · obtain rfl := Option.some.inj hs
            exact fun j g hj => Two.line (x' := x) h (.inr trivial) j g hj
theorem two_go : ∀ (ks : List ByteArray) (i : Nat) (gs : List Gr) (st : List Ope) (r : List Gr × List Ope), Two gs st → grpGo ks i gs st = .inl r → Two r.1 r.2
  | [], i, gs, st, r, h, hg => by
    obtain rfl := Sum.inl.inj hg
    exact h
  | k :: ks, i, gs, st, r, h, hg => by
    rw [grpGo] at hg
    cases hs : stepF k i gs st with
    | none => rw [hs] at hg; cases hg
    | some r' =>
      rw [hs] at hg
      exact two_go ks (i + 1) r'.1 r'.2 r (h.step hs) hg
theorem groups_two (ks : List ByteArray) (he : (groupsR ks).2.1 = 0) : ∀ g ∈ (groupsR ks).1, 2 ≤ g.1.length := by
  intro g hg
  unfold groupsR at hg he
  split at hg
  · cases hg
  · rename_i hn
    rw [if_neg hn] at he
    cases hgo : grpGo ks 0 [] [] with
    | inr i => rw [hgo] at he; simp at he
    | inl r =>
      obtain ⟨gs, st⟩ := r
      rw [hgo] at hg he
      cases st with
      | cons x st => simp at he
      | nil =>
        simp only at hg
        obtain ⟨j, hj⟩ := List.mem_iff_getElem?.1 hg
        have := two_go ks 0 [] [] (gs, []) (fun j g hj => by simp at hj) hgo j g hj
        rcases this with h1 | ⟨_, z, hz, _⟩
        · exact h1
        · cases hz
theorem inv_go : ∀ (ks : List ByteArray) (i : Nat) (gs : List Gr) (st : List Ope) (r : List Gr × List Ope), GInv i gs → grpGo ks i gs st = .inl r → GInv (i + ks.length) r.1
  | [], i, gs, st, r, h, hg => by
    obtain rfl := Sum.inl.inj hg
    exact h
  | k :: ks, i, gs, st, r, h, hg => by
    rw [grpGo] at hg
    cases hs : stepF k i gs st with
    | none => rw [hs] at hg; cases hg
    | some r' =>
      rw [hs] at hg
      have := inv_go ks (i + 1) r'.1 r'.2 r (h.step hs) hg
      rw [List.length_cons, show i + (ks.length + 1) = i + 1 + ks.length by omega]
      exact this
theorem groups_inv (ks : List ByteArray) : (groupsR ks).1.length ≤ ks.length ∧ ∀ g ∈ (groupsR ks).1, g.1.length ≤ ks.length := by
  unfold groupsR
  split
  · exact ⟨Nat.zero_le _, fun g hg => by cases hg⟩
  · cases hgo : grpGo ks 0 [] [] with
    | inr i => exact ⟨Nat.zero_le _, fun g hg => by cases hg⟩
    | inl r =>
      obtain ⟨gs, st⟩ := r
      cases st with
      | cons x st => exact ⟨Nat.zero_le _, fun g hg => by cases hg⟩
      | nil =>
        have := inv_go ks 0 [] [] (gs, []) ⟨Nat.le_refl _, fun g hg => by cases hg⟩ hgo
        rw [Nat.zero_add] at this
        exact ⟨this.1, fun g hg => (this.2 g hg).1⟩
end Go.Proofs.YtolaiebjmhieiaaGreatDoor.OScan
end
