/- HeadOnce: for every list of files, every name and every list of places the law answers true, and all read behind the call as before; the listed tables are tied to the text of the program; no condition. Here: parts of its proof. -/
import Derived.Test.YtolaiebjmhieiaaGreatDoorM16
import Derived.Test.YtolaiebjmhieiaaGreatDoorM11
import Derived.Test.YtolaiebjmhieiaaGreatDoorM01
import Derived.StillTailTactics
section
namespace Go.Proofs.YtolaiebjmhieiaaGreatDoor.OScan
open Go.RowKit Go.Proofs.YtolaiebjmhieiaaGreatDoorW.PrintWords Go.Proofs.YtolaiebjmhieiaaGreatDoorW.PrintLast Go.Proofs.YtolaiebjmhieiaaGreatDoorW.PrintMore
set_option linter.unusedVariables false
set_option linter.unusedSimpArgs false
set_option maxHeartbeats 1000000 in
set_option maxRecDepth 100000 in
theorem open1_any (x : Fl) (w : World) (hG : Glob2 w) (hs : x.1.size ≤ 900000) :
    Calls Tryz.prog 58 #[.agg #[.string x.1, .string x.2]] w fun e w' => e = .returned (.bool (!isNameB x.1)) ∧ Below w.heap.size w w' := by
  obtain ⟨x1, x2⟩ := x
  simp only at hs ⊢
  have HB := below_alloc (Below.refl w.heap.size w) (Obj.cells #[Value.string x1, Value.string x2] 46)
  have H59 := isName_any x1 (w.alloc (Obj.cells #[Value.string x1, Value.string x2] 46)) (hG.below HB) hs
  have HBB := Aside0.mk HB
  clear HB hG
  go_enter Tryz.func58, Tryz.ntmps58
  go_wp2_with (go_at_call 59; go_loud (refine H59.mono ?_; rintro e w9 ⟨rfl, hb9⟩; have HB9 := Aside0.mk (below_step HBB.out hb9); clear hb9))
  go_ret
  exact ⟨rfl, HB9.out⟩
def filesGo : AL → List Fl → Option AL
  | m, [] => some m
  | m, f :: l => if (alGet m f.1).isSome = true then none else filesGo (alPut m f.1 (.string f.2)) l
def openF (files : List Fl) : Int × Option AL :=
  if 60 < files.length then (2, none)
  else if files.any (fun f => !isNameB f.1) = true then (3, none)
  else match filesGo [] files with | none => (5, none) | some m => (0, some m)
structure PrjIs (base : Nat) (w : World) (PB fm cm : Nat) (pv : Value) (m c : AL) : Prop where
  hP : w.heap[PB]? = some (.cells #[.map (some fm), pv, .int .i32 0, .int .u32 0, .map (some cm)] 87 (0, 0))
  hm : MapIs w fm m
  hc : MapIs w cm c
  bP : base ≤ PB
  bm : base ≤ fm
  bc : base ≤ cm
  ne : fm ≠ cm
def OpenQ (base : Nat) (w0 : World) (pv : Value) (r : Int × Option AL) (e : Ending) (w' : World) : Prop :=
  match r with
  | (er, none) => e = .returned (.tuple #[.pointer none, .int .i64 er]) ∧ Below base w0 w'
  | (er, some m) => (∃ PB fm cm, e = .returned (.tuple #[.pointer (some ⟨PB, 0, none⟩), .int .i64 er]) ∧ PrjIs base w' PB fm cm pv m []) ∧ Below base w0 w'
set_option maxHeartbeats 1000000 in
set_option maxRecDepth 100000 in
theorem open_any (files : List Fl) (A : Option Addr) (c : Nat) (Ap : Option Addr) (np cp : Nat) (w : World) (hG : Glob2 w) (HC : Kd.C kFl w A files.length files) (hc : files.length ≤ c) (hl : files.length ≤ 1000000) (hsz : ∀ f ∈ files, f.1.size ≤ 900000) :
    Calls Tryz.prog 31 #[.slice A files.length c, .slice Ap np cp] w (OpenQ w.heap.size w (.slice Ap np cp) (openF files)) := by
  have hmm : ∀ w, (Instr.makeMap 75 none).run Tryz.prog w = .ok (.map (some w.heap.size)) (w.alloc (.map #[] 0)) := fun _ => rfl
  have hmm2 : ∀ w, (Instr.makeMap 83 none).run Tryz.prog w = .ok (.map (some w.heap.size)) (w.alloc (.map #[] 0)) := fun _ => rfl
  obtain ⟨n, hn⟩ : ∃ n, n = files.length := ⟨_, rfl⟩
  by_cases hbig : 60 < files.length
  · have hr : openF files = (2, none) := by unfold openF; rw [if_pos hbig]
    rw [hr, ← hn]
    have hb1 : decide ((60 : Int) < (n : Int)) = true := decide_eq_true (by omega)
    clear hr HC hG
    go_enter Tryz.func31, Tryz.ntmps31
    go_wp2
    go_ret2
    exact ⟨rfl, Below.refl _ _⟩
  · have hb1 : decide ((60 : Int) < (n : Int)) = false := decide_eq_false (by omega)
    have HGG := Aside0.mk hG
    have HCC := Aside0.mk HC
    have HN := Aside0.mk hn
    have HSZ := Aside0.mk hsz
    have HBIG := Aside0.mk hbig
    have H57 : Aside0 (∀ W, Below w.heap.size w W → Calls Tryz.prog 57 #[.slice A n c, .func (.func 58) #[] #[]] W fun e w' => e = .returned (.bool (files.any fun f => !isNameB f.1)) ∧ Below W.heap.size W w') := ⟨fun W hb => by
      rw [hn]
      exact fl_any files (fun f => !isNameB f.1) W A c (Kd.C_below HC hb) hl (fun i x w' hx hb' => open1_any x w' ((hG.below hb).below hb') (hsz x (List.mem_of_getElem? hx)))⟩
    have hB3 := below_alloc (below_alloc (below_alloc (Below.refl w.heap.size w) (Obj.map #[] 0)) (Obj.map #[] 0)) (Obj.cells #[Value.map (some w.heap.size), Value.slice Ap np cp, Value.int IntKind.i32 0, Value.int IntKind.u32 0, Value.map (some (w.heap.size + 1))] 87)
    have H57' := (H57.out _ hB3).mono (R' := fun e w' => e = .returned (.bool (files.any fun f => !isNameB f.1)) ∧ Aside0 (Below w.heap.size w w') ∧ Aside0 (w'.heap[w.heap.size]? = some (.map #[] 0)) ∧ Aside0 (w'.heap[w.heap.size + 1]? = some (.map #[] 0)) ∧ Aside0 (w'.heap[w.heap.size + 1 + 1]? = some (.cells #[Value.map (some w.heap.size), Value.slice Ap np cp, Value.int IntKind.i32 0, Value.int IntKind.u32 0, Value.map (some (w.heap.size + 1))] 87 (0, 0)))) (fun e w' ⟨he, hb⟩ => ⟨he, ⟨below_step hB3 hb⟩, ⟨by
        rw [hb.block _ (by simp; omega), Below.heap_alloc _ _ _ (by simp only [alloc_size]; omega), Below.heap_alloc _ _ _ (by simp)]
        exact blk_new _ _⟩, ⟨by
        rw [hb.block _ (by simp; try omega), Below.heap_alloc _ _ _ (by simp)]
        exact alloc_at (by simp)⟩, ⟨by
        rw [hb.block _ (by simp)]
        exact alloc_at (by simp)⟩⟩)
    have hn6 : n ≤ 1000000 := by omega
    rw [← hn]
    clear hG HC hsz hbig hn hB3
    obtain ⟨bad, hbad⟩ : ∃ bad, bad = files.any fun f => !isNameB f.1 := ⟨_, rfl⟩
    rw [← hbad] at H57'
    have HBAD := Aside0.mk hbad
    clear hbad
    cases bad with
    | true =>
      have hr : openF files = (3, none) := by unfold openF; rw [if_neg HBIG.out, if_pos HBAD.out.symm]
      rw [hr]
      clear hr
      go_enter Tryz.func31, Tryz.ntmps31
      go_wp2_with (go_at_call 57; go_loud (refine H57'.mono ?_; rintro e w5 ⟨rfl, hb5, _⟩))
      go_ret2
      exact ⟨rfl, hb5.out⟩
    | false =>
      have hr : openF files = (match filesGo [] files with | none => (5, none) | some m => (0, some m)) := by unfold openF; rw [if_neg HBIG.out, if_neg (by rw [← HBAD.out]; decide)]
      rw [hr]
      clear hr
      generalize hfr : filesGo [] files = fr
      have HFR := Aside0.mk hfr
      clear hfr
      go_enter Tryz.func31, Tryz.ntmps31
      go_wp2_with (go_at_call 57; go_loud (refine H57'.mono ?_; rintro e w5 ⟨rfl, hb5, h51, h52, h53⟩))
      obtain ⟨fm, hfm⟩ : ∃ fm, fm = w.heap.size := ⟨_, rfl⟩
      obtain ⟨cm, hcm⟩ : ∃ cm, cm = w.heap.size + 1 := ⟨_, rfl⟩
      obtain ⟨PB, hPB⟩ : ∃ PB, PB = w.heap.size + 1 + 1 := ⟨_, rfl⟩
      rw [← hPB, ← hcm] at h53
      rw [← hcm] at h52
      rw [← hPB, ← hcm, ← hfm]
      have h51' := h51.out
      have h53' := h53.out
      rw [← hfm] at h51' h53'
      have HFM := Aside0.mk hfm
      have HCM := Aside0.mk hcm
      have HPB := Aside0.mk hPB
      have HM0 : Aside0 (MapIs w5 fm []) := ⟨⟨_, _, h51', rfl⟩⟩
      have HP0 := Aside0.mk h53'
      have hne : ¬ PB = fm := by omega
      have hne2 : ¬ fm = PB := by omega
      have hne3 : fm ≠ cm := by omega
      clear hfm hcm hPB h51 h53 h51' h53'
      go_loopg [24] n (fun kq v24 w' => ∃ (i : Nat) (m : AL), v24 = .int .i64 i ∧ Aside0 (kq + i = n) ∧ Aside0 (filesGo m (files.drop i) = fr) ∧ Aside0 (MapIs w' fm m) ∧ Aside0 (w'.heap[cm]? = some (.map #[] 0)) ∧ Aside0 (w'.heap[PB]? = some (.cells #[Value.map (some fm), Value.slice Ap np cp, Value.int IntKind.i32 0, Value.int IntKind.u32 0, Value.map (some cm)] 87 (0, 0))) ∧ Aside0 (Below w.heap.size w w'))
      case atStart => exact ⟨0, [], rfl, ⟨rfl⟩, HFR, HM0, h52, HP0, hb5⟩
      case round =>
        obtain ⟨i, m, rfl, hki, hgo, hM, hc5, hP5, hB⟩ := hrel
        have hki' := hki.out
        cases gk with
        | zero =>
          have hlt : decide ((i : Int) < (n : Int)) = false := decide_eq_false (by omega)
          have hg := hgo.out
          rw [List.drop_eq_nil_of_le (by rw [← HN.out]; omega)] at hg
          obtain rfl : fr = some m := hg.symm
          go_wp2
          go_ret2
          exact ⟨⟨PB, fm, cm, rfl, hP5.out, hM.out, ⟨_, _, hc5.out, rfl⟩, by have := HPB.out; omega, by have := HFM.out; omega, by have := HCM.out; omega, hne3⟩, hB.out⟩
        | succ g1 =>
          have hlt : decide ((i : Int) < (n : Int)) = true := decide_eq_true (by omega)
          have hii : (0 : Int) ≤ (i : Int) := by omega
          obtain ⟨x, hx⟩ : ∃ x, files[i]? = some x := ⟨_, List.getElem?_eq_getElem (by rw [← HN.out]; omega)⟩
          have hdr : files.drop i = x :: files.drop (i + 1) := by
            obtain ⟨hl', he'⟩ := List.getElem?_eq_some_iff.1 hx
            rw [List.drop_eq_getElem_cons hl', he']
          have hg := hgo.out
          rw [hdr, filesGo] at hg
          obtain ⟨ad, hA, hx0, hx1⟩ := fl_at HCC.out i (by rw [← HN.out]; omega) x hx
          obtain rfl := hA
          replace hx0 := (hB.out.cell (World.block_lt_of_cell? w _ hx0)).trans hx0
          replace hx1 := (hB.out.cell (World.block_lt_of_cell? w _ hx1)).trans hx1
          clear hx hdr
          obtain ⟨nm, tx⟩ := x
          simp only at hx0 hx1 hg
          go_wp2
          obtain ⟨W1, hW1⟩ : ∃ W1, W1 = wr.alloc (Obj.cells #[Value.string nm, Value.string tx] 46) := ⟨_, rfl⟩
          obtain ⟨T, hT⟩ : ∃ T, T = wr.heap.size := ⟨_, rfl⟩
          rw [← hW1, ← hT]
          have HBW : Aside0 (Below wr.heap.size wr W1) := ⟨by rw [hW1]; exact below_alloc (Below.refl _ _) _⟩
          have hTc : W1.heap[T]? = some (.cells #[Value.string nm, Value.string tx] 46 (0, 0)) := by rw [hW1, hT]; exact blk_new _ _
          have HTE := Aside0.mk hT
          clear hW1 hT
          have hP1 := (HBW.out.block _ (blk_lt hP5.out)).trans hP5.out
          have HM1 : Aside0 (MapIs W1 fm m) := ⟨hM.out.same (HBW.out.block _ hM.out.lt)⟩
          have HC1 : Aside0 (W1.heap[cm]? = some (.map #[] 0)) := ⟨(HBW.out.block _ (heap_lt hc5.out)).trans hc5.out⟩
          have HB1 : Aside0 (Below w.heap.size w W1) := ⟨below_step hB.out HBW.out⟩
          have hTP : ¬ T = PB := by have := HTE.out; have := blk_lt hP5.out; omega
          have t0 : W1.cell? ⟨T, 0, none⟩ = some (.string nm) := by have := cell_of_row W1 T 0 _ _ _ hTc; simpa using this
          have t1 : W1.cell? ⟨T, 1, none⟩ = some (.string tx) := by have := cell_of_row W1 T 1 _ _ _ hTc; simpa using this
          have p0 : W1.cell? ⟨PB, 0, none⟩ = some (.map (some fm)) := by have := cell_of_row W1 PB 0 _ _ _ hP1; simpa using this
          have hlk : ∀ k : Nat, (Instr.lookup 75 (.map (some fm)) (.string nm) true).run Tryz.prog (W1.drewN k) = .ok (.tuple #[(alGet m nm).getD (.string ⟨#[]⟩), .bool (alGet m nm).isSome]) (W1.drewN k) := fun k =>
            (show MapIs (W1.drewN k) fm m from HM1.out).getOk Tryz.underlying75 nm (.string ⟨#[]⟩) (fun _ => rfl)
          have HP1 := Aside0.mk hP1
          clear hM hc5 hP5 hB hTc hP1
          generalize hog : alGet m nm = og at *
          have HOG := Aside0.mk hog
          clear hog
          cases og with
          | some u =>
            rw [if_pos (show (some u).isSome = true from rfl)] at hg
            obtain rfl : fr = none := hg.symm
            simp only [Option.getD_some, Option.isSome_some] at hlk
            go_quiet (fail)
            go_wp2
            go_ret2
            exact ⟨rfl, pw_below_drewN HB1.out _⟩
          | none =>
            rw [if_neg (show ¬ (none : Option Value).isSome = true from by decide)] at hg
            have HGO := Aside0.mk hg
            clear hg
            simp only [Option.getD_none, Option.isSome_none] at hlk
            go_quiet (fail)
            obtain ⟨W2, hW2⟩ : ∃ W2, W2 = W1.drewN nq := ⟨_, rfl⟩
            rw [← hW2]
            have HM2 : Aside0 (MapIs W2 fm m) := ⟨by rw [hW2]; exact HM1.out⟩
            have HC2 : Aside0 (W2.heap[cm]? = some (.map #[] 0)) := ⟨by rw [hW2]; exact HC1.out⟩
            have HP2 : Aside0 (W2.heap[PB]? = some (.cells #[Value.map (some fm), Value.slice Ap np cp, Value.int IntKind.i32 0, Value.int IntKind.u32 0, Value.map (some cm)] 87 (0, 0))) := ⟨by rw [hW2]; exact HP1.out⟩
            have HB2 : Aside0 (Below w.heap.size w W2) := ⟨by rw [hW2]; exact pw_below_drewN HB1.out _⟩
            replace t0 : W2.cell? ⟨T, 0, none⟩ = some (.string nm) := by rw [hW2]; exact t0
            replace t1 : W2.cell? ⟨T, 1, none⟩ = some (.string tx) := by rw [hW2]; exact t1
            replace p0 : W2.cell? ⟨PB, 0, none⟩ = some (.map (some fm)) := by rw [hW2]; exact p0
            clear hW2 hlk HM1 HC1 HP1 HB1
            obtain ⟨W3, hrun, hM3, hO3⟩ := MapIs.put (W := W2.drew) (mt := 75) (e := 9) (show MapIs W2.drew fm m from HM2.out) Tryz.underlying75 nm (.string tx)
            have HM3 := Aside0.mk hM3
            have HO3 := Aside0.mk hO3
            clear hM3 hO3
            go_wp2
            go_region
            have HC3 : Aside0 (W3.heap[cm]? = some (.map #[] 0)) := ⟨(HO3.out.block _ (Ne.symm hne3)).trans HC2.out⟩
            have HP3 : Aside0 (W3.heap[PB]? = some (.cells #[Value.map (some fm), Value.slice Ap np cp, Value.int IntKind.i32 0, Value.int IntKind.u32 0, Value.map (some cm)] 87 (0, 0))) := ⟨(HO3.out.block _ hne).trans HP2.out⟩
            have HB3 : Aside0 (Below w.heap.size w W3) := ⟨OnlyAt.below (below_drew1 HB2.out) HO3.out (by have := HFM.out; omega)⟩
            clear hrun
            go_wp2
            go_roundg g1
            case measure => omega
            case rel => exact ⟨i + 1, _, by (try simp), ⟨by omega⟩, HGO, HM3, HC3, HP3, HB3⟩
def withF (files : List Fl) (name : ByteArray) : Int × Option AL :=
  match openF files with
  | (er, none) => (er, none)
  | (er, some m) => if (alGet m name).isSome = true then (er, some m) else (4, none)
theorem openF_err (files : List Fl) : ((openF files).2 = none ∧ ((openF files).1 = 2 ∨ (openF files).1 = 3 ∨ (openF files).1 = 5)) ∨ ∃ m, openF files = (0, some m) := by
  unfold openF
  split
  · exact .inl ⟨rfl, .inl rfl⟩
  · split
    · exact .inl ⟨rfl, .inr (.inl rfl)⟩
    · split
      · exact .inl ⟨rfl, .inr (.inr rfl)⟩
      · exact .inr ⟨_, rfl⟩
set_option maxHeartbeats 1000000 in
set_option maxRecDepth 100000 in
theorem with_any (files : List Fl) (name : ByteArray) (A : Option Addr) (c : Nat) (Ap : Option Addr) (np cp : Nat) (w : World) (hG : Glob2 w) (HC : Kd.C kFl w A files.length files) (hc : files.length ≤ c) (hl : files.length ≤ 1000000) (hsz : ∀ f ∈ files, f.1.size ≤ 900000) :
    Calls Tryz.prog 20 #[.slice A files.length c, .string name, .slice Ap np cp] w (OpenQ w.heap.size w (.slice Ap np cp) (withF files name)) := by
  have H31 := open_any files A c Ap np cp w hG HC hc hl hsz
  obtain ⟨n, hn⟩ : ∃ n, n = files.length := ⟨_, rfl⟩
  rw [← hn] at H31 ⊢
  clear hn HC hG hc hl hsz
  rcases openF_err files with ⟨h1, h2⟩ | ⟨m, hm⟩
  · obtain ⟨er, om⟩ : ∃ er, openF files = (er, none) := ⟨(openF files).1, by rw [← h1]⟩
    have hw : withF files name = (er, none) := by unfold withF; rw [om]
    rw [om] at H31 h2
    rw [hw]
    simp only at h2
    have hne : ¬ er = 0 := by omega
    have hne' : (er != 0) = true := by simp [hne]
    clear hw om h1 h2
    go_enter Tryz.func20, Tryz.ntmps20
    go_wp2_with (go_at_call 31; go_loud (refine H31.mono ?_; rintro e w5 ⟨rfl, hb5⟩; have HB5 := Aside0.mk hb5; clear hb5))
    go_ret2
    exact ⟨rfl, HB5.out⟩
  · rw [hm] at H31
    cases hg : alGet m name with
    | none =>
      have hw : withF files name = (4, none) := by unfold withF; rw [hm]; simp [hg]
      rw [hw]
      clear hw hm
      go_enter Tryz.func20, Tryz.ntmps20
      go_wp2_with (go_at_call 31; go_loud (refine H31.mono ?_; rintro e w5 ⟨⟨PB, fm, cm, rfl, hp⟩, hb5⟩; have HB5 := Aside0.mk hb5; have HP := Aside0.mk hp; have p0 : w5.cell? ⟨PB, 0, none⟩ = some (.map (some fm)) := (by have := cell_of_row w5 PB 0 _ _ _ hp.hP; simpa using this); have hlk : ∀ k : Nat, (Instr.lookup 75 (.map (some fm)) (.string name) true).run Tryz.prog (w5.drewN k) = .ok (.tuple #[.string ⟨#[]⟩, .bool false]) (w5.drewN k) := (fun k => by have := (show MapIs (w5.drewN k) fm m from hp.hm).getOk Tryz.underlying75 name (.string ⟨#[]⟩) (fun _ => rfl); rw [hg] at this; exact this); have hlk0 : (Instr.lookup 75 (.map (some fm)) (.string name) true).run Tryz.prog w5 = .ok (.tuple #[.string ⟨#[]⟩, .bool false]) w5 := (by have := hp.hm.getOk Tryz.underlying75 name (.string ⟨#[]⟩) (fun _ => rfl); rw [hg] at this; exact this); clear hb5 hp))
      go_ret2
      exact ⟨rfl, HB5.out⟩
    | some u =>
      have hw : withF files name = (0, some m) := by unfold withF; rw [hm]; simp [hg]
      rw [hw]
      clear hw hm
      go_enter Tryz.func20, Tryz.ntmps20
      go_wp2_with (go_at_call 31; go_loud (refine H31.mono ?_; rintro e w5 ⟨⟨PB, fm, cm, rfl, hp⟩, hb5⟩; have HB5 := Aside0.mk hb5; have HP := Aside0.mk hp; have p0 : w5.cell? ⟨PB, 0, none⟩ = some (.map (some fm)) := (by have := cell_of_row w5 PB 0 _ _ _ hp.hP; simpa using this); have hlk0 : (Instr.lookup 75 (.map (some fm)) (.string name) true).run Tryz.prog w5 = .ok (.tuple #[u, .bool true]) w5 := (by have := hp.hm.getOk Tryz.underlying75 name (.string ⟨#[]⟩) (fun _ => rfl); rw [hg] at this; exact this); clear hb5 hp))
      go_ret2
      exact ⟨⟨PB, fm, cm, rfl, HP.out⟩, HB5.out⟩
end Go.Proofs.YtolaiebjmhieiaaGreatDoor.OScan
end
section
namespace Go.Proofs.YtolaiebjmhieiaaGreatDoor.OScan
open Go.RowKit Go.Proofs.YtolaiebjmhieiaaGreatDoorW.PrintWords Go.Proofs.YtolaiebjmhieiaaGreatDoorW.PrintLast Go.Proofs.YtolaiebjmhieiaaGreatDoorW.PrintMore
set_option linter.unusedVariables false
set_option linter.unusedSimpArgs false
def blankB (b : UInt8) : Bool := ([32, 9] : List UInt8).contains b
def trimF : Nat → ByteArray → ByteArray
  | 0, s => s
  | k + 1, s => if s.size = 0 then s else if blankB (s.data.getD 0 0) = true then trimF k (s.extract 1 s.size) else s
theorem at0 (s : ByteArray) (h : 0 < s.size) : s.data.getD 0 0 = s[0]'h := by
  have h' : 0 < s.data.size := h
  simp only [Array.getD, h', dite_true]
  rfl
def trimB (s : ByteArray) : ByteArray := trimF s.size s
set_option maxHeartbeats 1000000 in
set_option maxRecDepth 100000 in
theorem trimA_any (s : ByteArray) (b : Nat) (w : World) (hs : s.size ≤ 1000000) (hset : ∀ x : UInt8, w.cell? ⟨b, x.toNat, none⟩ = some (.bool (blankB x))) :
    Calls Tryz.prog 129 #[.string s, .pointer (some ⟨b, 0, none⟩)] w fun e w' => e = .returned (.string (trimB s)) ∧ w' = w := by
  have H167 := fun x => Tryz.asciiSet_contains b x _ w (hset x)
  go_enter Tryz.func129, Tryz.ntmps129
  go_wp2
  go_loopg [0] s.size (fun kq v0 w' => ∃ (s' : ByteArray), v0 = .string s' ∧ w' = w ∧ Aside0 (kq = s'.size) ∧ Aside0 (trimB s' = trimB s) ∧ Aside0 (s'.size ≤ 1000000))
  case atStart => exact ⟨s, rfl, rfl, ⟨rfl⟩, ⟨rfl⟩, ⟨hs⟩⟩
  case round =>
    obtain ⟨s', rfl, rfl, hk, ht, hsz⟩ := hrel
    cases gk with
    | zero =>
      have h0 : s'.size = 0 := hk.out.symm
      go_wp2
      go_ret
      refine ⟨?_, rfl⟩
      rw [← ht.out, trimB, h0]
      rfl
    | succ g1 =>
      have h0 : (0 : Int) < (s'.size : Int) := by have := hk.out; omega
      have h1 : 0 < s'.size := by omega
      have h2 : (1 : Int) ≤ (s'.size : Int) := by omega
      have hex : (s'.extract 1 s'.size).size = g1 := by rw [ByteArray.size_extract]; have := hk.out; omega
      have hst : trimB s' = if blankB (s'[0]'h1) = true then trimB (s'.extract 1 s'.size) else s' := by
        have key : ∀ k, k = g1 + 1 → trimF k s' = if blankB (s'[0]'h1) = true then trimF g1 (s'.extract 1 s'.size) else s' := by
          rintro k rfl
          rw [trimF, if_neg (by omega), at0 s' h1]
        unfold trimB
        rw [hex]
        exact key _ hk.out.symm
      have hle : Aside0 ((s'.extract 1 s'.size).size ≤ 1000000) := ⟨by rw [hex]; have := hk.out; have := hsz.out; omega⟩
      have HEX := Aside0.mk hex
      have HST := Aside0.mk hst
      clear hex hst
      by_cases hbl : blankB (s'[0]'h1) = true
      · have H := H167 (s'[0]'h1)
        rw [hbl] at H
        go_wp2_with (go_at_call 167; go_loud (refine H.mono ?_; rintro e w9 ⟨rfl, rfl⟩))
        go_roundg g1
        case measure => omega
        case rel => exact ⟨_, rfl, rfl, ⟨HEX.out.symm⟩, ⟨by rw [← ht.out, HST.out, if_pos hbl]⟩, hle⟩
      · have hbf : blankB (s'[0]'h1) = false := by simpa using hbl
        have H := H167 (s'[0]'h1)
        rw [hbf] at H
        go_wp2_with (go_at_call 167; go_loud (refine H.mono ?_; rintro e w9 ⟨rfl, rfl⟩))
        go_ret
        refine ⟨?_, rfl⟩
        rw [← ht.out, HST.out, if_neg hbl]
        rfl
set_option maxHeartbeats 1000000 in
set_option maxRecDepth 100000 in
theorem trimLeft_any (s : ByteArray) (w : World) (hs : s.size ≤ 1000000) :
    Calls Tryz.prog 71 #[.string s, .string ⟨#[32, 9]⟩] w fun e w' => e = .returned (.string (trimB s)) ∧ Below w.heap.size w w' := by
  have H128 := Tryz.strings_makeASCIISet (fun _ => by kernel_rfl) ⟨#[32, 9]⟩ w (by decide) (ascii_of (by decide))
  have hz : ∀ w, (zeroValue 185).run Tryz.prog w = .ok (.agg (Array.replicate 256 (.bool false))) w := fun _ => by kernel_rfl
  have hS1 : (Lib.setCells (⟨#[32, 9]⟩ : ByteArray).data.toList).size = 256 := Lib.setCells_size _
  have hS2 : ∀ x : UInt8, (Lib.setCells (⟨#[32, 9]⟩ : ByteArray).data.toList)[x.toNat]? = some (.bool (blankB x)) := fun x => Lib.setCells_at [32, 9] x
  have hS3 : ∀ q ∈ (Lib.setCells (⟨#[32, 9]⟩ : ByteArray).data.toList).toList, q.oneCell' = true := by
    rw [Lib.setCells_eq]
    intro q hq
    simp only [Array.toList_map, List.mem_map] at hq
    obtain ⟨_, _, rfl⟩ := hq
    rfl
  generalize Lib.setCells (⟨#[32, 9]⟩ : ByteArray).data.toList = S at *
  have hZ : (Array.replicate 256 (Value.bool false)).size = 256 := by simp
  generalize Array.replicate 256 (Value.bool false) = Z at *
  obtain ⟨W1, hW1⟩ : ∃ W1, W1 = w.alloc (.cells S 185) := ⟨_, rfl⟩
  have HB1 : Aside0 (Below w.heap.size w W1) := ⟨by rw [hW1]; exact below_alloc (Below.refl _ _) _⟩
  rw [← hW1] at H128
  clear hW1
  obtain ⟨W2, hW2⟩ : ∃ W2, W2 = W1.alloc (.cells Z 185) := ⟨_, rfl⟩
  have hZc : W2.heap[W1.heap.size]? = some (.cells Z 185 (0, 0)) := by rw [hW2]; exact blk_new _ _
  obtain ⟨cur, hc1, hc2, hc3⟩ := setCells_row S.toList 0 W2 Z hZc (by simp [hS1, hZ])
  have hcur : cur = S := by
    apply Array.ext'
    rw [hc3]
    simp [hS1, hZ]
  rw [hcur] at hc1
  have hst : (storeCells ⟨W1.heap.size, 0, none⟩ S.toList).run Tryz.prog W2 = .ok () (W2.setCells W1.heap.size 0 S.toList) := by
    have := run_storeCells_cells (P := Tryz.prog) W1.heap.size 0 S.toList 0 W2 (fun j hj => by
      have : 0 + 0 + j < Z.size := by rw [hZ]; rw [Array.length_toList, hS1] at hj; omega
      rw [cell_of_row W2 W1.heap.size _ Z 185 (0, 0) hZc]
      simp only [Array.getElem?_eq_getElem this, Option.isSome_some]) (fun j _ => blk_frozen hZc _) hS3
    simpa using this
  obtain ⟨W3, hW3⟩ : ∃ W3, W3 = W2.setCells W1.heap.size 0 S.toList := ⟨_, rfl⟩
  rw [← hW3] at hc1 hst
  have HB3 : Aside0 (Below w.heap.size w W3) := by
    obtain ⟨s1, s2, s3, s4⟩ := setCells_same W1.heap.size S.toList 0 W2
    have hB2 : Below w.heap.size w W2 := by rw [hW2]; exact below_alloc HB1.out _
    have hle := HB1.out.size
    refine ⟨⟨?_, ?_, ?_, ?_, fun k hk => ?_⟩⟩
    · rw [hW3, s1]; exact hB2.os
    · rw [hW3, s2]; exact hB2.tape
    · rw [hW3, s3]; exact hB2.output
    · rw [hW3, s4]; exact hB2.size
    · rw [hW3, setCells_far S.toList 0 k (by omega)]; exact hB2.block k hk
  have HT : Aside0 (Calls Tryz.prog 129 #[.string s, .pointer (some ⟨W1.heap.size, 0, none⟩)] W3 fun e w' => e = .returned (.string (trimB s)) ∧ w' = W3) := ⟨trimA_any s W1.heap.size W3 hs (fun x => by rw [cell_of_row W3 W1.heap.size _ S 185 (0, 0) hc1]; exact hS2 x)⟩
  clear hW3 hc2 hc3 hcur hZc hS2 hS3 hc1
  rw [hW2] at hst
  clear hW2
  by_cases h0 : s.toList = ([] : List UInt8)
  · have c1 : (s.toList == ([] : List UInt8)) = true := beq_iff_eq.mpr h0
    have hz0 : s.size = 0 := by
      have := congrArg List.length h0
      rw [ByteArray.toList_eq, data_length] at this
      exact this
    have ht : trimB s = s := by unfold trimB; rw [hz0]; rfl
    rw [ht]
    clear h0
    go_enter Tryz.func71, Tryz.ntmps71
    go_wp2
    go_ret
    exact ⟨rfl, Below.refl _ _⟩
  · have c1 : (s.toList == ([] : List UInt8)) = false := beq_eq_false_iff_ne.mpr h0
    clear h0
    go_enter Tryz.func71, Tryz.ntmps71
    go_wp2_with (first | (go_at_call 128; go_loud (refine H128.mono ?_; rintro e w9 ⟨rfl, rfl⟩)) | (go_at_call 129; go_loud (refine HT.out.mono ?_; rintro e w9 ⟨rfl, rfl⟩)))
    go_ret
    exact ⟨rfl, HB3.out⟩
end Go.Proofs.YtolaiebjmhieiaaGreatDoor.OScan
end
section
namespace Go.Proofs.YtolaiebjmhieiaaGreatDoor.OScan
open Go.RowKit Go.Proofs.YtolaiebjmhieiaaGreatDoorW.PrintWords Go.Proofs.YtolaiebjmhieiaaGreatDoorW.PrintLast Go.Proofs.YtolaiebjmhieiaaGreatDoorW.PrintMore
set_option linter.unusedVariables false
set_option linter.unusedSimpArgs false
abbrev incL : List UInt8 := [105, 110, 99, 108, 117, 100, 101]
def useV (u : Option (ByteArray × Bool)) : Value := match u with
  | none => .agg #[.string ⟨#[]⟩, .bool false, .string ⟨#[]⟩]
  | some (n, q) => .agg #[.string n, .bool q, .string ⟨#[]⟩]
set_option maxHeartbeats 1000000 in
set_option maxRecDepth 100000 in
theorem inc_not (t : Tk) (kd : ByteArray) (w : World) (hG : Glob2 w) (hk : KindOf t kd) (hne : kd.toList ≠ incL) :
    Calls Tryz.prog 42 #[.agg #[.int .i64 t.1, .string t.2.1, .string t.2.2.1, .int .i64 t.2.2.2]] w fun e w' => e = .returned (.tuple #[useV none, .bool false]) ∧ Below w.heap.size w w' := by
  obtain ⟨k, hk⟩ := hk
  obtain ⟨t1, t2, t3, t4⟩ := t
  simp only at hk ⊢
  have hB := below_alloc (below_alloc (Below.refl w.heap.size w) (Obj.cells #[Value.int .i64 t1, Value.string t2, Value.string t3, Value.int .i64 t4] 95)) (Obj.cells #[Value.string ⟨#[]⟩, Value.bool false, Value.string ⟨#[]⟩] 34)
  have H67 := OCond.cond_Kind.calls k t1 t2 t3 t4 kd _ hk (hG.below hB)
  have HB := Aside0.mk hB
  have c1 : (kd.toList != incL) = true := bne_iff_ne.mpr hne
  have c1' : (kd.toList == incL) = false := beq_eq_false_iff_ne.mpr hne
  clear hB hG hk hne
  go_enter Tryz.func42, Tryz.ntmps42
  go_wp2_with (go_at_call 67; go_loud (refine H67.mono ?_; rintro e w9 ⟨rfl, hb9⟩; have h2 := (hb9.block (w.heap.size + 1) (by simp)).trans (alloc_at (by simp)); have u0 : w9.cell? ⟨w.heap.size + 1, 0, none⟩ = some (.string ⟨#[]⟩) := (by have := cell_of_row w9 _ 0 _ _ _ h2; simpa using this); have u1 : w9.cell? ⟨w.heap.size + 1, 1, none⟩ = some (.bool false) := (by have := cell_of_row w9 _ 1 _ _ _ h2; simpa using this); have u2 : w9.cell? ⟨w.heap.size + 1, 2, none⟩ = some (.string ⟨#[]⟩) := (by have := cell_of_row w9 _ 2 _ _ _ h2; simpa using this); have f0 := blk_frozen h2 0; have f1 := blk_frozen h2 1; have f2 := blk_frozen h2 2; have HB9 := Aside0.mk (below_step HB.out hb9); have H2 := Aside0.mk h2; clear hb9 h2))
  obtain ⟨W3, hW3⟩ : ∃ W3, W3 = (((w9.setCell { block := w.heap.size + 1, off := 0 } (Value.string { data := #[] })).setCell { block := w.heap.size + 1, off := 1 } (Value.bool false)).setCell { block := w.heap.size + 1, off := 2 } (Value.string { data := #[] })) := ⟨_, rfl⟩
  rw [← hW3]
  have h3 : W3.heap[w.heap.size + 1]? = some (.cells #[.string ⟨#[]⟩, .bool false, .string ⟨#[]⟩] 34 (0, 0)) := by
    rw [hW3]; exact blk_put (blk_put (blk_put H2.out 0 _ rfl) 1 _ rfl) 2 _ rfl
  have HB3 : Aside0 (Below w.heap.size w W3) := ⟨by rw [hW3]; exact below_set (below_set (below_set HB9.out (by omega)) (by omega)) (by omega)⟩
  clear u0 u1 u2 f0 f1 f2 hW3 H2
  have u0 : W3.cell? ⟨w.heap.size + 1, 0, none⟩ = some (.string ⟨#[]⟩) := by have := cell_of_row W3 _ 0 _ _ _ h3; simpa using this
  have u1 : W3.cell? ⟨w.heap.size + 1, 1, none⟩ = some (.bool false) := by have := cell_of_row W3 _ 1 _ _ _ h3; simpa using this
  have u2 : W3.cell? ⟨w.heap.size + 1, 2, none⟩ = some (.string ⟨#[]⟩) := by have := cell_of_row W3 _ 2 _ _ _ h3; simpa using this
  refine bodyPost_ret (v := .tuple #[useV none, .bool false]) ?res rfl ⟨rfl, HB3.out⟩
  case res =>
    unfold results
    rw [show Tryz.f42.results = #[.cell 2 34, .tmp 3] from rfl]
    go_simp
    rfl
theorem trimF_le : ∀ (k : Nat) (s : ByteArray), (trimF k s).size ≤ s.size
  | 0, s => Nat.le_refl _
  | k + 1, s => by
    unfold trimF
    split
    · exact Nat.le_refl _
    · split
      · exact Nat.le_trans (trimF_le k _) (by rw [ByteArray.size_extract]; omega)
      · exact Nat.le_refl _
theorem trimB_le (s : ByteArray) : (trimB s).size ≤ s.size := trimF_le _ _
def hasP (rest : ByteArray) (c : UInt8) : Bool := (OCond.strings_HasPrefix.f rest ⟨#[c]⟩).getD false
theorem hasP_f (rest : ByteArray) (c : UInt8) : OCond.strings_HasPrefix.f rest ⟨#[c]⟩ = some (hasP rest c) := by
  have h1 : (⟨#[c]⟩ : ByteArray).size = 1 := rfl
  unfold hasP
  unfold OCond.strings_HasPrefix.f OCond.stringslite_HasPrefix.f
  rw [h1]
  by_cases h : (rest.size : Int) ≥ ((1 : Nat) : Int)
  · rw [if_pos h, if_pos (by omega), if_pos h]; rfl
  · rw [if_neg h]; rfl
theorem hasP_size {rest : ByteArray} {c : UInt8} (h : hasP rest c = true) : 1 ≤ rest.size := by
  have h1 : (⟨#[c]⟩ : ByteArray).size = 1 := rfl
  unfold hasP at h
  unfold OCond.strings_HasPrefix.f OCond.stringslite_HasPrefix.f at h
  rw [h1] at h
  by_cases h2 : (rest.size : Int) ≥ ((1 : Nat) : Int)
  · omega
  · rw [if_neg h2] at h; simp at h
def between (rest : ByteArray) (c : UInt8) (q : Bool) : Option (ByteArray × Bool) :=
  let e := Lib.indexByte (rest.extract 1 rest.size).data.toList c
  if e < 0 then none else some (rest.extract 1 (1 + e).toNat, q)
theorem indexByte_bounds (s : ByteArray) (c : UInt8) : -1 ≤ Lib.indexByte s.data.toList c ∧ Lib.indexByte s.data.toList c < (s.size : Int) := by
  have h1 := Lib.indexByte_ge s.data.toList c
  refine ⟨h1, ?_⟩
  by_cases h : Lib.indexByte s.data.toList c = -1
  · rw [h]; omega
  · obtain ⟨o, ho⟩ := Int.eq_ofNat_of_zero_le (show 0 ≤ Lib.indexByte s.data.toList c by omega)
    obtain ⟨h2, _⟩ := Lib.indexByte_some ho
    have h3 := (List.getElem?_eq_some_iff.1 h2).1
    rw [data_length] at h3
    omega
def incP (rest : ByteArray) : Option (ByteArray × Bool) :=
  if hasP rest 34 = true then between rest 34 true else if hasP rest 60 = true then between rest 62 false else none
set_option maxHeartbeats 1000000 in
set_option maxRecDepth 100000 in
theorem inc_yes (t : Tk) (kd : ByteArray) (ws : List OCond.S95) (er a : Int) (w : World) (hG : Glob2 w) (hk : KindOf t kd) (hne : kd.toList = incL) (hW : OCond.cond_Words.f t.1 t.2.1 t.2.2.1 t.2.2.2 = some (ws, er))
    (hl : 1 ≤ ws.length) (ha : (OCond.rd_T95 ws 0).f3 = a) (h0 : 0 ≤ a) (h1 : a + 8 ≤ t.2.2.1.size) (hs : t.2.2.1.size ≤ 1000000) (r : Option (ByteArray × Bool)) (hr : r = incP (trimB (t.2.2.1.extract (a + 8).toNat t.2.2.1.size))) :
    Calls Tryz.prog 42 #[.agg #[.int .i64 t.1, .string t.2.1, .string t.2.2.1, .int .i64 t.2.2.2]] w fun e w' => e = .returned (.tuple #[useV r, .bool r.isSome]) ∧ Below w.heap.size w w' := by
  obtain ⟨k, hk⟩ := hk
  obtain ⟨t1, t2, t3, t4⟩ := t
  simp only at hk hW h1 hs hr ⊢
  have hB := below_alloc (below_alloc (Below.refl w.heap.size w) (Obj.cells #[Value.int .i64 t1, Value.string t2, Value.string t3, Value.int .i64 t4] 95)) (Obj.cells #[Value.string ⟨#[]⟩, Value.bool false, Value.string ⟨#[]⟩] 34)
  have H67 := OCond.cond_Kind.calls k t1 t2 t3 t4 kd _ hk (hG.below hB)
  have H70 := fun W hG' => OCond.cond_Words.calls t1 t2 t3 t4 ws er W hW hG'
  have HB := Aside0.mk hB
  have HG := Aside0.mk hG
  have c1 : (kd.toList != incL) = false := bne_eq_false_iff_eq.mpr hne
  have c1' : (kd.toList == incL) = true := beq_iff_eq.mpr hne
  obtain ⟨p, hp⟩ : ∃ p, p = a + 8 := ⟨_, rfl⟩
  rw [← hp] at hr
  have w1 : IntKind.i64.wrap (1 + a) = 1 + a := IntWalk.i64_in _ (by omega)
  have w2 : IntKind.i64.wrap (1 + a + 7) = p := by rw [IntWalk.i64_in _ (by omega)]; omega
  have w3 : (0 : Int) ≤ p := by omega
  have w4 : p ≤ (t3.size : Int) := by omega
  have HTL : Aside0 (∀ W, Calls Tryz.prog 71 #[.string (t3.extract p.toNat t3.size), .string ⟨#[32, 9]⟩] W fun e w' => e = .returned (.string (trimB (t3.extract p.toNat t3.size))) ∧ Below W.heap.size W w') := ⟨fun W => trimLeft_any _ W (by rw [ByteArray.size_extract]; omega)⟩
  clear hp h0 h1
  have hrl : (trimB (t3.extract p.toNat t3.size)).size ≤ 1000000 := Nat.le_trans (trimB_le _) (by rw [ByteArray.size_extract]; omega)
  generalize trimB (t3.extract p.toNat t3.size) = rest at *
  have H72 : Aside0 (∀ (c : UInt8) (W : World), Calls Tryz.prog 72 #[.string rest, .string ⟨#[c]⟩] W fun e w' => e = .returned (.bool (hasP rest c)) ∧ Below W.heap.size W w') := ⟨fun c W => (OCond.strings_HasPrefix.calls rest ⟨#[c]⟩ _ W (hasP_f rest c)).mono fun e w' ⟨h1, h2⟩ => ⟨h1, h2.below⟩⟩
  have HA := Aside0.mk ha
  have HL := Aside0.mk hl
  have HRR := Aside0.mk hr
  obtain ⟨m, hm⟩ : ∃ m, m = ws.length := ⟨_, rfl⟩
  have hlz : (0 : Int) < (m : Int) := by omega
  have hlm : 0 < m := by omega
  have HM := Aside0.mk hm
  clear hm hl
  clear hB hG hk hne hW ha hr
  go_enter Tryz.func42, Tryz.ntmps42
  go_wp2_with (first | (go_at_call 67; go_loud (refine H67.mono ?_; rintro e w9 ⟨rfl, hb9⟩; have h2 := (hb9.block (w.heap.size + 1) (by simp)).trans (alloc_at (by simp)); have h3 := (hb9.block w.heap.size (by simp; omega)).trans ((Below.heap_alloc _ _ _ (by simp)).trans (blk_new _ _)); have b0 : w9.cell? ⟨w.heap.size, 0, none⟩ = some (.int .i64 t1) := (by have := cell_of_row w9 _ 0 _ _ _ h3; simpa using this); have b1 : w9.cell? ⟨w.heap.size, 1, none⟩ = some (.string t2) := (by have := cell_of_row w9 _ 1 _ _ _ h3; simpa using this); have b2 : w9.cell? ⟨w.heap.size, 2, none⟩ = some (.string t3) := (by have := cell_of_row w9 _ 2 _ _ _ h3; simpa using this); have b3 : w9.cell? ⟨w.heap.size, 3, none⟩ = some (.int .i64 t4) := (by have := cell_of_row w9 _ 3 _ _ _ h3; simpa using this); have HB9 := Aside0.mk (below_step HB.out hb9); have H2 := Aside0.mk h2; have H3 := Aside0.mk h3; clear hb9 h2 h3)) | (go_at_call 70; go_loud (refine (H70 _ (HG.out.below HB9.out)).mono ?_; rintro e w7 ⟨v7, rfl, hr7, hb7⟩; obtain ⟨g7, c7, hv7, _⟩ := Kd.R_form hr7 (by have := HL.out; omega); rw [← HM.out] at hv7; subst hv7; obtain ⟨ad, e1, _, _, _, q3⟩ := OCond.at_T95 (Kd.R_reads' hr7).2.2 0 (by omega) (by have := HL.out; omega); obtain rfl : ad = ⟨g7, 0, none⟩ := (by injection e1 with e1; exact e1.symm); rw [HA.out] at q3; have q3' : w7.cell? ⟨g7, 3, none⟩ = some (.int .i64 a) := (by simpa [Addr.add] using q3); clear q3 e1; have HR7 := Aside0.mk hr7; have HB7 := Aside0.mk (below_step HB9.out hb7); have H27 := Aside0.mk ((hb7.block _ (blk_lt H2.out)).trans H2.out); have h37 := (hb7.block _ (blk_lt H3.out)).trans H3.out; have b2 : w7.cell? ⟨w.heap.size, 2, none⟩ = some (.string t3) := (by have := cell_of_row w7 _ 2 _ _ _ h37; simpa using this); clear hr7 hb7 h37)))
  go_still_tail 9, (by kernel_rfl)
  change wpList _ _ _ _ _ w7.drew
  obtain ⟨w6, hw6⟩ : ∃ w6, w6 = w7.drew := ⟨_, rfl⟩
  rw [← hw6]
  have HB6 : Aside0 (Below w.heap.size w w6) := ⟨by rw [hw6]; exact below_drew1 HB7.out⟩
  have H26 : Aside0 (w6.heap[w.heap.size + 1]? = some (.cells #[.string ⟨#[]⟩, .bool false, .string ⟨#[]⟩] 34 (0, 0))) := ⟨by rw [hw6]; exact H27.out⟩
  clear hw6 b0 b1 b2 b3 q3' HR7 H27 H2 H3 HB9 HB7
  go_wp2_with (go_at_call 71; go_loud (refine (HTL.out _).mono ?_; rintro e w5 ⟨rfl, hb5⟩; have HB5 := Aside0.mk (below_step HB6.out hb5); have H25 := Aside0.mk ((hb5.block _ (blk_lt H26.out)).trans H26.out); clear hb5))
  obtain ⟨B2, hB2⟩ : ∃ B2, B2 = w.heap.size + 1 := ⟨_, rfl⟩
  obtain ⟨MB, hMBe⟩ : ∃ MB, MB = w5.heap.size := ⟨_, rfl⟩
  rw [← hB2] at H25
  rw [← hB2, ← hMBe]
  obtain ⟨W0, hW0⟩ : ∃ W0, W0 = w5.alloc (Obj.cells #[Value.string { data := #[34, 34] }, Value.string { data := #[60, 62] }] 9) := ⟨_, rfl⟩
  rw [← hW0]
  have HB0 : Aside0 (Below w.heap.size w W0) := ⟨by rw [hW0]; exact below_alloc HB5.out _⟩
  have H20 : Aside0 (W0.heap[B2]? = some (.cells #[.string ⟨#[]⟩, .bool false, .string ⟨#[]⟩] 34 (0, 0))) := ⟨by rw [hW0]; exact blk_alloc H25.out _⟩
  have HM0 : Aside0 (W0.heap[MB]? = some (.cells #[Value.string { data := #[34, 34] }, Value.string { data := #[60, 62] }] 9 (0, 0))) := ⟨by rw [hW0, hMBe]; exact blk_new _ _⟩
  have HB2 : Aside0 (w.heap.size ≤ B2) := ⟨by omega⟩
  clear hW0 hB2 hMBe HB5 H25 HB6 H26
  have hincP : Aside0 (incP rest = if hasP rest 34 = true then between rest 34 true else if hasP rest 60 = true then between rest 62 false else none) := ⟨rfl⟩
  go_loopg [31] 2 (fun kq v31 w' => ∃ (i : Nat), v31 = .int .i64 i ∧ Aside0 (kq + i = 2) ∧ Aside0 (1 ≤ i → hasP rest 34 = false) ∧ Aside0 (2 ≤ i → hasP rest 60 = false) ∧ Aside0 (w'.heap[B2]? = some (.cells #[.string ⟨#[]⟩, .bool false, .string ⟨#[]⟩] 34 (0, 0))) ∧ Aside0 (w'.heap[MB]? = some (.cells #[Value.string { data := #[34, 34] }, Value.string { data := #[60, 62] }] 9 (0, 0))) ∧ Aside0 (Below w.heap.size w w'))
  case atStart => exact ⟨0, rfl, ⟨rfl⟩, ⟨fun h => absurd h (by decide)⟩, ⟨fun h => absurd h (by decide)⟩, H20, HM0, HB0⟩
  case round =>
    obtain ⟨i, rfl, hki, h34, h60, h2r, hMB, hB⟩ := hrel
    have hki' := hki.out
    obtain rfl | rfl | rfl : i = 0 ∨ i = 1 ∨ i = 2 := by omega
    · obtain rfl : gk = 2 := by omega
      have hc : (wr.cell? ⟨MB, 0, none⟩) = some (.string ⟨#[34, 34]⟩) := by have := cell_of_row wr _ 0 _ _ _ hMB.out; simpa using this
      cases hp : hasP rest 34 with
      | false =>
        have H := H72.out 34
        rw [hp] at H
        have HP := Aside0.mk hp
        clear hp
        go_wp2_with (go_at_call 72; go_loud (refine (H _).mono ?_; rintro e w4 ⟨rfl, hb4⟩; have HB4 := Aside0.mk (below_step hB.out hb4); have h24 := Aside0.mk ((hb4.block _ (blk_lt h2r.out)).trans h2r.out); have hMB4 := Aside0.mk ((hb4.block _ (blk_lt hMB.out)).trans hMB.out); clear hb4))
        go_roundg 1
        case measure => omega
        case rel => exact ⟨1, by (try simp), ⟨rfl⟩, ⟨fun _ => HP.out⟩, ⟨fun h => absurd h (by decide)⟩, h24, hMB4, HB4⟩
      | true =>
        have H := H72.out 34
        rw [hp] at H
        have hsz := hasP_size hp
        have hsz' : (1 : Int) ≤ (rest.size : Int) := by omega
        have HP := Aside0.mk hp
        clear hp
        obtain ⟨e1, e2⟩ := indexByte_bounds (rest.extract 1 rest.size) 34
        have H73 : Aside0 (∀ W, Calls Tryz.prog 73 #[.string (rest.extract 1 rest.size), .int .u8 34] W fun e w' => e = .returned (.int .i64 (Lib.indexByte (rest.extract 1 rest.size).data.toList 34)) ∧ w' = W) := ⟨fun W => Tryz.strings_IndexByte _ 34 W⟩
        have hrb : r = (let e := Lib.indexByte (rest.extract 1 rest.size).data.toList 34; if e < 0 then none else some (rest.extract 1 (1 + e).toNat, true)) := by rw [HRR.out, hincP.out, if_pos HP.out]; rfl
        generalize Lib.indexByte (rest.extract 1 rest.size).data.toList 34 = ev at *
        have hes : ((rest.extract 1 rest.size).size : Int) = rest.size - 1 := by rw [ByteArray.size_extract]; omega
        rw [hes] at e2
        clear hes
        go_wp2_with (go_at_call 72; go_loud (refine (H _).mono ?_; rintro e w4 ⟨rfl, hb4⟩; have HB4 := Aside0.mk (below_step hB.out hb4); have h24 := (hb4.block _ (blk_lt h2r.out)).trans h2r.out; replace hc := (hb4.cell (World.block_lt_of_cell? wr _ hc)).trans hc; clear hb4))
        go_quiet (first | (go_at_call 73; refine Calls.quiet_of_same (H73.out _)))
        obtain ⟨w2_, hw2⟩ : ∃ w2_, w2_ = w4.drewN nq := ⟨_, rfl⟩
        rw [← hw2]
        have HB2_ : Aside0 (Below w.heap.size w w2_) := ⟨by rw [hw2]; exact pw_below_drewN HB4.out _⟩
        have h22 : w2_.heap[B2]? = some (.cells #[.string ⟨#[]⟩, .bool false, .string ⟨#[]⟩] 34 (0, 0)) := by rw [hw2]; exact h24
        replace hc : w2_.cell? ⟨MB, 0, none⟩ = some (.string ⟨#[34, 34]⟩) := by rw [hw2]; exact hc
        clear hw2 h24
        have u0 : w2_.cell? ⟨B2, 0, none⟩ = some (.string ⟨#[]⟩) := by have := cell_of_row w2_ _ 0 _ _ _ h22; simpa using this
        have u1 : w2_.cell? ⟨B2, 1, none⟩ = some (.bool false) := by have := cell_of_row w2_ _ 1 _ _ _ h22; simpa using this
        have u2 : w2_.cell? ⟨B2, 2, none⟩ = some (.string ⟨#[]⟩) := by have := cell_of_row w2_ _ 2 _ _ _ h22; simpa using this
        have f0 := blk_frozen h22 0
        have f1 := blk_frozen h22 1
        have f2 := blk_frozen h22 2
        have H22 := Aside0.mk h22
        clear h22
        (try dsimp only at hrb)
        by_cases hev : ev < 0
        · rw [if_pos hev] at hrb
          subst hrb
          have hd : decide (ev < 0) = true := decide_eq_true hev
          go_wp2
          obtain ⟨W3, hW3⟩ : ∃ W3, W3 = ((w2_.setCell ⟨B2, 0, none⟩ (Value.string ⟨#[]⟩)).setCell ⟨B2, 1, none⟩ (Value.bool false)).setCell ⟨B2, 2, none⟩ (Value.string ⟨#[]⟩) := ⟨_, rfl⟩
          rw [← hW3]
          have h3 : W3.heap[B2]? = some (.cells #[.string ⟨#[]⟩, .bool false, .string ⟨#[]⟩] 34 (0, 0)) := by
            rw [hW3]; exact blk_put (blk_put (blk_put H22.out 0 _ rfl) 1 _ rfl) 2 _ rfl
          have HB3 : Aside0 (Below w.heap.size w W3) := ⟨by rw [hW3]; exact below_set (below_set (below_set HB2_.out HB2.out) HB2.out) HB2.out⟩
          clear u0 u1 u2 f0 f1 f2 hW3
          have u0 : W3.cell? ⟨B2, 0, none⟩ = some (.string ⟨#[]⟩) := by have := cell_of_row W3 _ 0 _ _ _ h3; simpa using this
          have u1 : W3.cell? ⟨B2, 1, none⟩ = some (.bool false) := by have := cell_of_row W3 _ 1 _ _ _ h3; simpa using this
          have u2 : W3.cell? ⟨B2, 2, none⟩ = some (.string ⟨#[]⟩) := by have := cell_of_row W3 _ 2 _ _ _ h3; simpa using this
          refine bodyPost_ret (v := .tuple #[useV none, .bool false]) ?res rfl ⟨rfl, HB3.out⟩
          case res =>
            unfold results
            rw [show Tryz.f42.results = #[.cell 2 34, .tmp 3] from rfl]
            go_simp
            first | done | rfl
        · rw [if_neg hev] at hrb
          subst hrb
          have hd : decide (ev < 0) = false := decide_eq_false hev
          have g1 : IntKind.i64.wrap (1 + ev) = 1 + ev := IntWalk.i64_in _ (by omega)
          have g2 : (1 : Int) ≤ 1 + ev := by omega
          have g3 : 1 + ev ≤ (rest.size : Int) := by omega
          go_wp2
          go_region
          obtain ⟨W3, hW3⟩ : ∃ W3, W3 = (((w2_.setCell ⟨B2, 0, none⟩ (Value.string (rest.extract 1 (1 + ev).toNat))).setCell ⟨B2, 1, none⟩ (Value.bool true)).setCell ⟨B2, 2, none⟩ (Value.string ⟨#[]⟩)).drew := ⟨_, rfl⟩
          refine (show Exit.then _ _ _ _ W3 → _ from fun h => by rw [hW3] at h; exact h) ?_
          have h3 : W3.heap[B2]? = some (.cells #[.string (rest.extract 1 (1 + ev).toNat), .bool true, .string ⟨#[]⟩] 34 (0, 0)) := by
            rw [hW3]; refine blk_drew ?_; exact blk_put (blk_put (blk_put H22.out 0 _ rfl) 1 _ rfl) 2 _ rfl
          have HB3 : Aside0 (Below w.heap.size w W3) := ⟨by rw [hW3]; refine below_drew1 ?_; exact below_set (below_set (below_set HB2_.out HB2.out) HB2.out) HB2.out⟩
          clear u0 u1 u2 f0 f1 f2 hW3
          have u0 : W3.cell? ⟨B2, 0, none⟩ = some (.string (rest.extract 1 (1 + ev).toNat)) := by have := cell_of_row W3 _ 0 _ _ _ h3; simpa using this
          have u1 : W3.cell? ⟨B2, 1, none⟩ = some (.bool true) := by have := cell_of_row W3 _ 1 _ _ _ h3; simpa using this
          have u2 : W3.cell? ⟨B2, 2, none⟩ = some (.string ⟨#[]⟩) := by have := cell_of_row W3 _ 2 _ _ _ h3; simpa using this
          go_wp2
          refine bodyPost_ret (v := .tuple #[useV (some ((rest.extract 1 (1 + ev).toNat), true)), .bool true]) ?res rfl ⟨rfl, HB3.out⟩
          case res =>
            unfold results
            rw [show Tryz.f42.results = #[.cell 2 34, .tmp 3] from rfl]
            go_simp
            first | done | rfl
    · obtain rfl : gk = 1 := by omega
      have hc : (wr.cell? ⟨MB, 1, none⟩) = some (.string ⟨#[60, 62]⟩) := by have := cell_of_row wr _ 1 _ _ _ hMB.out; simpa using this
      cases hp : hasP rest 60 with
      | false =>
        have H := H72.out 60
        rw [hp] at H
        have HP := Aside0.mk hp
        clear hp
        go_wp2_with (go_at_call 72; go_loud (refine (H _).mono ?_; rintro e w4 ⟨rfl, hb4⟩; have HB4 := Aside0.mk (below_step hB.out hb4); have h24 := Aside0.mk ((hb4.block _ (blk_lt h2r.out)).trans h2r.out); have hMB4 := Aside0.mk ((hb4.block _ (blk_lt hMB.out)).trans hMB.out); clear hb4))
        go_roundg 0
        case measure => omega
        case rel => exact ⟨2, by (try simp), ⟨rfl⟩, ⟨fun _ => h34.out (by omega)⟩, ⟨fun h => HP.out⟩, h24, hMB4, HB4⟩
      | true =>
        have H := H72.out 60
        rw [hp] at H
        have hsz := hasP_size hp
        have hsz' : (1 : Int) ≤ (rest.size : Int) := by omega
        have HP := Aside0.mk hp
        clear hp
        obtain ⟨e1, e2⟩ := indexByte_bounds (rest.extract 1 rest.size) 62
        have H73 : Aside0 (∀ W, Calls Tryz.prog 73 #[.string (rest.extract 1 rest.size), .int .u8 62] W fun e w' => e = .returned (.int .i64 (Lib.indexByte (rest.extract 1 rest.size).data.toList 62)) ∧ w' = W) := ⟨fun W => Tryz.strings_IndexByte _ 62 W⟩
        have hrb : r = (let e := Lib.indexByte (rest.extract 1 rest.size).data.toList 62; if e < 0 then none else some (rest.extract 1 (1 + e).toNat, false)) := by rw [HRR.out, hincP.out, if_neg (by rw [h34.out (by omega)]; decide), if_pos HP.out]; rfl
        generalize Lib.indexByte (rest.extract 1 rest.size).data.toList 62 = ev at *
        have hes : ((rest.extract 1 rest.size).size : Int) = rest.size - 1 := by rw [ByteArray.size_extract]; omega
        rw [hes] at e2
        clear hes
        go_wp2_with (go_at_call 72; go_loud (refine (H _).mono ?_; rintro e w4 ⟨rfl, hb4⟩; have HB4 := Aside0.mk (below_step hB.out hb4); have h24 := (hb4.block _ (blk_lt h2r.out)).trans h2r.out; replace hc := (hb4.cell (World.block_lt_of_cell? wr _ hc)).trans hc; clear hb4))
        go_quiet (first | (go_at_call 73; refine Calls.quiet_of_same (H73.out _)))
        obtain ⟨w2_, hw2⟩ : ∃ w2_, w2_ = w4.drewN nq := ⟨_, rfl⟩
        rw [← hw2]
        have HB2_ : Aside0 (Below w.heap.size w w2_) := ⟨by rw [hw2]; exact pw_below_drewN HB4.out _⟩
        have h22 : w2_.heap[B2]? = some (.cells #[.string ⟨#[]⟩, .bool false, .string ⟨#[]⟩] 34 (0, 0)) := by rw [hw2]; exact h24
        replace hc : w2_.cell? ⟨MB, 1, none⟩ = some (.string ⟨#[60, 62]⟩) := by rw [hw2]; exact hc
        clear hw2 h24
        have u0 : w2_.cell? ⟨B2, 0, none⟩ = some (.string ⟨#[]⟩) := by have := cell_of_row w2_ _ 0 _ _ _ h22; simpa using this
        have u1 : w2_.cell? ⟨B2, 1, none⟩ = some (.bool false) := by have := cell_of_row w2_ _ 1 _ _ _ h22; simpa using this
        have u2 : w2_.cell? ⟨B2, 2, none⟩ = some (.string ⟨#[]⟩) := by have := cell_of_row w2_ _ 2 _ _ _ h22; simpa using this
        have f0 := blk_frozen h22 0
        have f1 := blk_frozen h22 1
        have f2 := blk_frozen h22 2
        have H22 := Aside0.mk h22
        clear h22
        (try dsimp only at hrb)
        by_cases hev : ev < 0
        · rw [if_pos hev] at hrb
          subst hrb
          have hd : decide (ev < 0) = true := decide_eq_true hev
          go_wp2
          obtain ⟨W3, hW3⟩ : ∃ W3, W3 = ((w2_.setCell ⟨B2, 0, none⟩ (Value.string ⟨#[]⟩)).setCell ⟨B2, 1, none⟩ (Value.bool false)).setCell ⟨B2, 2, none⟩ (Value.string ⟨#[]⟩) := ⟨_, rfl⟩
          rw [← hW3]
          have h3 : W3.heap[B2]? = some (.cells #[.string ⟨#[]⟩, .bool false, .string ⟨#[]⟩] 34 (0, 0)) := by
            rw [hW3]; exact blk_put (blk_put (blk_put H22.out 0 _ rfl) 1 _ rfl) 2 _ rfl
          have HB3 : Aside0 (Below w.heap.size w W3) := ⟨by rw [hW3]; exact below_set (below_set (below_set HB2_.out HB2.out) HB2.out) HB2.out⟩
          clear u0 u1 u2 f0 f1 f2 hW3
          have u0 : W3.cell? ⟨B2, 0, none⟩ = some (.string ⟨#[]⟩) := by have := cell_of_row W3 _ 0 _ _ _ h3; simpa using this
          have u1 : W3.cell? ⟨B2, 1, none⟩ = some (.bool false) := by have := cell_of_row W3 _ 1 _ _ _ h3; simpa using this
          have u2 : W3.cell? ⟨B2, 2, none⟩ = some (.string ⟨#[]⟩) := by have := cell_of_row W3 _ 2 _ _ _ h3; simpa using this
          refine bodyPost_ret (v := .tuple #[useV none, .bool false]) ?res rfl ⟨rfl, HB3.out⟩
          case res =>
            unfold results
            rw [show Tryz.f42.results = #[.cell 2 34, .tmp 3] from rfl]
            go_simp
            first | done | rfl
        · rw [if_neg hev] at hrb
          subst hrb
          have hd : decide (ev < 0) = false := decide_eq_false hev
          have g1 : IntKind.i64.wrap (1 + ev) = 1 + ev := IntWalk.i64_in _ (by omega)
          have g2 : (1 : Int) ≤ 1 + ev := by omega
          have g3 : 1 + ev ≤ (rest.size : Int) := by omega
          go_wp2
          go_region
          obtain ⟨W3, hW3⟩ : ∃ W3, W3 = (((w2_.setCell ⟨B2, 0, none⟩ (Value.string (rest.extract 1 (1 + ev).toNat))).setCell ⟨B2, 1, none⟩ (Value.bool false)).setCell ⟨B2, 2, none⟩ (Value.string ⟨#[]⟩)).drew := ⟨_, rfl⟩
          refine (show Exit.then _ _ _ _ W3 → _ from fun h => by rw [hW3] at h; exact h) ?_
          have h3 : W3.heap[B2]? = some (.cells #[.string (rest.extract 1 (1 + ev).toNat), .bool false, .string ⟨#[]⟩] 34 (0, 0)) := by
            rw [hW3]; refine blk_drew ?_; exact blk_put (blk_put (blk_put H22.out 0 _ rfl) 1 _ rfl) 2 _ rfl
          have HB3 : Aside0 (Below w.heap.size w W3) := ⟨by rw [hW3]; refine below_drew1 ?_; exact below_set (below_set (below_set HB2_.out HB2.out) HB2.out) HB2.out⟩
          clear u0 u1 u2 f0 f1 f2 hW3
          have u0 : W3.cell? ⟨B2, 0, none⟩ = some (.string (rest.extract 1 (1 + ev).toNat)) := by have := cell_of_row W3 _ 0 _ _ _ h3; simpa using this
          have u1 : W3.cell? ⟨B2, 1, none⟩ = some (.bool false) := by have := cell_of_row W3 _ 1 _ _ _ h3; simpa using this
          have u2 : W3.cell? ⟨B2, 2, none⟩ = some (.string ⟨#[]⟩) := by have := cell_of_row W3 _ 2 _ _ _ h3; simpa using this
          go_wp2
          refine bodyPost_ret (v := .tuple #[useV (some ((rest.extract 1 (1 + ev).toNat), false)), .bool true]) ?res rfl ⟨rfl, HB3.out⟩
          case res =>
            unfold results
            rw [show Tryz.f42.results = #[.cell 2 34, .tmp 3] from rfl]
            go_simp
            first | done | rfl
    · obtain rfl : gk = 0 := by omega
      have hrn : r = none := by rw [HRR.out, hincP.out, if_neg (by rw [h34.out (by omega)]; decide), if_neg (by rw [h60.out (by omega)]; decide)]
      subst hrn
      have u0 : wr.cell? ⟨B2, 0, none⟩ = some (.string ⟨#[]⟩) := by have := cell_of_row wr _ 0 _ _ _ h2r.out; simpa using this
      have u1 : wr.cell? ⟨B2, 1, none⟩ = some (.bool false) := by have := cell_of_row wr _ 1 _ _ _ h2r.out; simpa using this
      have u2 : wr.cell? ⟨B2, 2, none⟩ = some (.string ⟨#[]⟩) := by have := cell_of_row wr _ 2 _ _ _ h2r.out; simpa using this
      have f0 := blk_frozen h2r.out 0
      have f1 := blk_frozen h2r.out 1
      have f2 := blk_frozen h2r.out 2
      go_wp2
      obtain ⟨W3, hW3⟩ : ∃ W3, W3 = ((wr.setCell ⟨B2, 0, none⟩ (Value.string ⟨#[]⟩)).setCell ⟨B2, 1, none⟩ (Value.bool false)).setCell ⟨B2, 2, none⟩ (Value.string ⟨#[]⟩) := ⟨_, rfl⟩
      rw [← hW3]
      have h3 : W3.heap[B2]? = some (.cells #[.string ⟨#[]⟩, .bool false, .string ⟨#[]⟩] 34 (0, 0)) := by
        rw [hW3]; exact blk_put (blk_put (blk_put h2r.out 0 _ rfl) 1 _ rfl) 2 _ rfl
      have HB3 : Aside0 (Below w.heap.size w W3) := ⟨by rw [hW3]; exact below_set (below_set (below_set hB.out HB2.out) HB2.out) HB2.out⟩
      clear u0 u1 u2 f0 f1 f2 hW3
      have u0 : W3.cell? ⟨B2, 0, none⟩ = some (.string ⟨#[]⟩) := by have := cell_of_row W3 _ 0 _ _ _ h3; simpa using this
      have u1 : W3.cell? ⟨B2, 1, none⟩ = some (.bool false) := by have := cell_of_row W3 _ 1 _ _ _ h3; simpa using this
      have u2 : W3.cell? ⟨B2, 2, none⟩ = some (.string ⟨#[]⟩) := by have := cell_of_row W3 _ 2 _ _ _ h3; simpa using this
      refine bodyPost_ret (v := .tuple #[useV none, .bool false]) ?res rfl ⟨rfl, HB3.out⟩
      case res =>
        unfold results
        rw [show Tryz.f42.results = #[.cell 2 34, .tmp 3] from rfl]
        go_simp
        first | done | rfl
end Go.Proofs.YtolaiebjmhieiaaGreatDoor.OScan
end
