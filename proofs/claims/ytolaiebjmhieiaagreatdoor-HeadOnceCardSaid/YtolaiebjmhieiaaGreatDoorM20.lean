/- HeadOnce: for every list of files, every name and every list of places the law answers true, and all read behind the call as before; the listed tables are tied to the text of the program; no condition. Here: parts of its proof. -/
import Derived.Test.YtolaiebjmhieiaaGreatDoorM19

section
namespace Go.Proofs.YtolaiebjmhieiaaGreatDoor.OScan
open Go.RowKit Go.Proofs.YtolaiebjmhieiaaGreatDoorW.PrintWords Go.Proofs.YtolaiebjmhieiaaGreatDoorW.PrintLast Go.Proofs.YtolaiebjmhieiaaGreatDoorW.PrintMore
set_option linter.unusedVariables false
set_option linter.unusedSimpArgs false
def fsOf : List Us → List ByteArray
  | [] => []
  | u :: l => if u.2.2.toList = [] then fsOf l else u.2.2 :: fsOf l
theorem fsOf_mem : ∀ {l : List Us} {y : ByteArray}, y ∈ fsOf l → ∃ u ∈ l, u.2.2 = y ∧ y.toList ≠ []
  | u :: l, y, h => by
    unfold fsOf at h
    split at h
    · obtain ⟨u', h1, h2⟩ := fsOf_mem h
      exact ⟨u', List.mem_cons_of_mem _ h1, h2⟩
    · rename_i hne
      rcases List.mem_cons.1 h with rfl | h
      · exact ⟨u, List.mem_cons_self .., rfl, hne⟩
      · obtain ⟨u', h1, h2⟩ := fsOf_mem h
        exact ⟨u', List.mem_cons_of_mem _ h1, h2⟩
theorem us_at {w : World} {A : Option Addr} {n : Nat} {xs : List Us} (h : Kd.C kUs w A n xs) (i : Nat) (h1 : i < n) (x : Us) (hx : xs[i]? = some x) : ∃ ad, A = some ad ∧ w.cell? (ad.add (i * 3)) = some (.string x.1) ∧ w.cell? ⟨(ad.add (i * 3)).block, (ad.add (i * 3)).off + 1, none⟩ = some (.bool x.2.1) ∧ w.cell? ⟨(ad.add (i * 3)).block, (ad.add (i * 3)).off + 2, none⟩ = some (.string x.2.2) := by
  obtain ⟨ad, c, e, _, hK, hc0⟩ := Kd.C_get h x i (by omega) (by omega)
  have hxi : xs.getD (i : Int).toNat x = x := by simp [List.getD_eq_getElem?_getD, hx]
  rw [hxi] at hK
  have hc : ∀ j u, c[j]? = some u → w.cell? (ad.add (i * 3 + j)) = some u := hc0
  obtain ⟨_, _, rfl, rfl, ⟨_, _, rfl, rfl, rfl⟩⟩ := hK
  exact ⟨ad, e, hc 0 _ rfl, by rw [← add_field _ _ 1 (by omega)]; exact hc 1 _ rfl, by rw [← add_field _ _ 2 (by omega)]; exact hc 2 _ rfl⟩
section
variable {us : ByteArray → List Us} {er : ByteArray → Int} {w0 : World} {m : AL} {pv : Value} {PB fm cm : Nat} {I : Ids}
def WalkQ (us : ByteArray → List Us) (er : ByteArray → Int) (w0 : World) (m : AL) (pv : Value) (PB fm cm : Nat) (I : Ids) (name : ByteArray) (met out : List ByteArray) (v : Value) (w : World) (e : Ending) (w' : World) : Prop :=
  ∃ (er' : Int) (met' out' : List ByteArray) (v' : Value), e = .returned (.int .i64 er') ∧ Graph.Walk er (fun n => fsOf (us n)) name met out er' met' out' ∧ WS us er w0 m pv PB fm cm I w' v' met' out' ∧ WF cm I w v w' v'
def ReadC (us : ByteArray → List Us) (er : ByteArray → Int) (w0 : World) (m : AL) (pv : Value) (PB fm cm : Nat) (n : ByteArray) : Prop :=
  ∀ (W : World), PS us er w0 m pv PB fm cm W → Calls Tryz.prog 21 #[.pointer (some ⟨PB, 0, none⟩), .string n] W fun e w' => ∃ rb, e = .returned (.pointer (some ⟨rb, 0, none⟩)) ∧ RdIs w0.heap.size w' rb (us n) (er n) ∧ PS us er w0 m pv PB fm cm w' ∧ W.heap.size ≤ w'.heap.size ∧ ∀ k, k < W.heap.size → k ≠ cm → w'.heap[k]? = W.heap[k]?
set_option maxHeartbeats 1000000 in
set_option maxRecDepth 100000 in
theorem walk_met (name : ByteArray) (met out : List ByteArray) (v : Value) (w : World) (hm : name ∈ met) (S : WS us er w0 m pv PB fm cm I w v met out) :
    Calls Tryz.prog 52 #[.string name, .pointer (some ⟨I.MC, 0, none⟩), .pointer (some ⟨I.PC, 0, none⟩), .pointer (some ⟨I.OC, 0, none⟩), .pointer (some ⟨I.WC, 0, none⟩)] w (WalkQ us er w0 m pv PB fm cm I name met out v w) := by
  have hB := below_alloc (Below.refl w.heap.size w) (Obj.cells #[Value.string name] 9)
  have S1 := S.step hB
  obtain ⟨al, hM, hal⟩ := S1.mm
  have hlk := hM.get Tryz.underlying112 name (.bool false) (fun _ => rfl)
  rw [(hal name).1 hm] at hlk
  simp only [Option.getD_some] at hlk
  have c1 : (w.alloc (Obj.cells #[Value.string name] 9)).cell? ⟨I.MC, 0, none⟩ = some (.map (some I.mm)) := by have := cell_of_row _ I.MC 0 _ _ _ S1.mc; simpa using this
  have c2 : (w.alloc (Obj.cells #[Value.string name] 9)).cell? ⟨w.heap.size, 0, none⟩ = some (.string name) := by have := cell_of_row (w.alloc (Obj.cells #[Value.string name] 9)) w.heap.size 0 _ _ _ (blk_new _ _); simp
  have HS := Aside0.mk S1
  have HB := Aside0.mk hB
  have HM := Aside0.mk hm
  clear S S1 hB hM hal hm
  go_enter_defers Tryz.func52, Tryz.ntmps52
  go_wp2_with (fail)
  exact ⟨_, results_tmp rfl _ _ _, 0, met, out, v, rfl, .met HM.out, HS.out, WF.of_below HB.out⟩
set_option maxHeartbeats 1000000 in
set_option maxRecDepth 100000 in
theorem walk_bad (name : ByteArray) (met out : List ByteArray) (v : Value) (w : World) (hm : name ∉ met) (he : er name ≠ 0) (hR : ReadC us er w0 m pv PB fm cm name) (S : WS us er w0 m pv PB fm cm I w v met out) :
    Calls Tryz.prog 52 #[.string name, .pointer (some ⟨I.MC, 0, none⟩), .pointer (some ⟨I.PC, 0, none⟩), .pointer (some ⟨I.OC, 0, none⟩), .pointer (some ⟨I.WC, 0, none⟩)] w (WalkQ us er w0 m pv PB fm cm I name met out v w) := by
  have hB := below_alloc (Below.refl w.heap.size w) (Obj.cells #[Value.string name] 9)
  have S1 := S.step hB
  obtain ⟨al, hM, hal⟩ := S1.mm
  have hlk := hM.get Tryz.underlying112 name (.bool false) (fun _ => rfl)
  rw [(hal name).2 hm] at hlk
  simp only [Option.getD_none] at hlk
  have c1 : (w.alloc (Obj.cells #[Value.string name] 9)).cell? ⟨I.MC, 0, none⟩ = some (.map (some I.mm)) := by have := cell_of_row _ I.MC 0 _ _ _ S1.mc; simpa using this
  have c2 : (w.alloc (Obj.cells #[Value.string name] 9)).cell? ⟨w.heap.size, 0, none⟩ = some (.string name) := by have := cell_of_row (w.alloc (Obj.cells #[Value.string name] 9)) w.heap.size 0 _ _ _ (blk_new _ _); simp
  obtain ⟨W2, hrun, hM2, hO2⟩ := hM.put (mt := 112) (e := 4) Tryz.underlying112 name (.bool true)
  have S2 := S1.put name al hal hM2 hO2
  have hmm := hM.lt
  have hNB : w.heap.size ≠ I.mm := fun e => by
    obtain ⟨_, ⟨es, cl, h4, _⟩, _⟩ := S.mm
    have := OScan.heap_lt h4
    omega
  have n2 := (hO2.block w.heap.size hNB).trans (blk_new w (Obj.cells #[Value.string name] 9))
  have d1 : W2.cell? ⟨I.PC, 0, none⟩ = some (.pointer (some ⟨PB, 0, none⟩)) := by have := cell_of_row _ I.PC 0 _ _ _ S2.pc; simpa using this
  have d2 : W2.cell? ⟨w.heap.size, 0, none⟩ = some (.string name) := by have := cell_of_row _ w.heap.size 0 _ _ _ n2; simpa using this
  have H21 := hR W2 S2.ps
  have F2 : WF cm I w v W2 v := (WF.of_below hB).trans (WF.put hO2)
  have er0 : (er name != 0) = true := by simpa using he
  have HS := Aside0.mk S2
  have HF := Aside0.mk F2
  have HM := Aside0.mk (And.intro hm he)
  generalize her : er name = ern at H21 er0
  have HER := Aside0.mk her
  clear S S1 S2 hB hM hal hm he hM2 hO2 n2 F2 hmm hNB hR her
  go_enter_defers Tryz.func52, Tryz.ntmps52
  go_wp2_with (go_at_call 21; go_loud (refine H21.mono ?_; rintro e w3 ⟨rb, rfl, hrd, hps, hsz, hkp⟩; obtain ⟨vl, vu, hrb, hus⟩ := hrd.2; have r2 : w3.cell? ⟨rb, 2, none⟩ = some (.int .i64 ern) := (by have := cell_of_row _ rb 2 _ _ _ hrb; simpa using this); have HS3 := Aside0.mk (HS.out.read hps hsz hkp); have HF3 := Aside0.mk (HF.out.trans (WF.read hsz hkp)); clear hrd hps hsz hkp hrb hus))
  refine ⟨_, results_tmp rfl _ _ _, ern, name :: met, out, v, rfl, ?_, HS3.out, HF3.out⟩
  rw [← HER.out]
  exact .bad HM.out.1 HM.out.2
end
end Go.Proofs.YtolaiebjmhieiaaGreatDoor.OScan
end
section
namespace Go.Proofs.YtolaiebjmhieiaaGreatDoor.OScan
open Go.RowKit Go.Proofs.YtolaiebjmhieiaaGreatDoorW.PrintWords Go.Proofs.YtolaiebjmhieiaaGreatDoorW.PrintLast Go.Proofs.YtolaiebjmhieiaaGreatDoorW.PrintMore
set_option linter.unusedVariables false
set_option linter.unusedSimpArgs false
section
variable {us : ByteArray → List Us} {er : ByteArray → Int} {w0 : World} {m : AL} {pv : Value} {PB fm cm : Nat} {I : Ids}
theorem walk_door (name : ByteArray) (met out met1 out1 : List ByteArray) (v v1 : Value) (w W1 wr : World) (NB : Nat) (e : Int) (S : WS us er w0 m pv PB fm cm I wr v1 met1 out1) (hN : wr.heap[NB]? = some (.cells #[.string name] 9 (0, 0))) (hF : WF cm I w v W1 v) (F : WF cm I W1 v wr v1) (hl : out1.length ≤ 1000) (hw : Graph.Walks er (fun n => fsOf (us n)) (fsOf (us name)) (name :: met) out e met1 out1) (hm : name ∉ met) (he : er name = 0) (u : FrameMode) :
    CallsD Tryz.prog 53 #[.pointer (some ⟨I.OC, 0, none⟩), .pointer (some ⟨NB, 0, none⟩)] u wr fun e' u' w' => u' = u ∧ (e' = .returned (.tuple #[]) ∧ ∃ (met' out' : List ByteArray) (v' : Value), Graph.Walk er (fun n => fsOf (us n)) name met out e met' out' ∧ WS us er w0 m pv PB fm cm I w' v' met' out' ∧ WF cm I w v w' v') := by
  have hOC := S.oc
  have hoc := blk_lt hOC
  have hbo := S.bo
  have hb0 := S.b0
  refine (app_deferred I.OC NB I.bA u wr v1 out1 name hOC hN S.out (by omega) hl).mono ?_
  rintro e' u' w' ⟨rfl, rfl, v', h1, h2, h3, h4, h5, h6, h7, h8⟩
  have F' : WF cm I wr v1 w' v' := ⟨h3, fun k k1 _ _ k4 k5 => h4 k k1 k4 k5, h5⟩
  have far : ∀ {k t : Nat} {cs : Array Value}, wr.heap[k]? = some (.cells cs t (0, 0)) → t ≠ 23 → t ≠ 9 → w'.heap[k]? = wr.heap[k]? := fun {k t cs} h ht ht9 => h4 k (blk_lt h) (by
    rintro rfl
    rw [hOC] at h
    injection h with h
    injection h with _ h
    exact ht h.symm) (Kd.R_ne S.out h (by omega))
  have hown : ∀ k, v1.ownBlock = some k → ∃ cells, wr.heap[k]? = some (.cells cells 9 (0, 0)) := Kd.R_typed S.out
  have hbase : ∀ k, some k = v1.ownBlock → I.bA ≤ k := fun k hk => by
    obtain ⟨inner, ho⟩ := Kd.R_own S.out
    exact own_base ho k hk.symm
  have mapfar : ∀ {k : Nat} {es : Array MapEntry} {cl : Nat}, wr.heap[k]? = some (.map es cl) → w'.heap[k]? = wr.heap[k]? := fun {k es cl} h => h4 k (heap_lt h) (by
    rintro rfl
    rw [hOC] at h
    cases h) (by
    intro hk
    obtain ⟨cells, hc⟩ := hown k hk.symm
    rw [h] at hc
    cases hc)
  obtain ⟨al, hM, hal⟩ := S.mm
  obtain ⟨c, hP, hC⟩ := S.ps.prj
  have hmmf : w'.heap[I.mm]? = wr.heap[I.mm]? := by obtain ⟨es, cl, h, _⟩ := hM; exact mapfar h
  refine ⟨rfl, rfl, met1, out1 ++ [name], v', .go hm he hw, ⟨S.ps.kept ⟨by rw [h6]; exact S.ps.below.os, by rw [h7]; exact S.ps.below.tape, by rw [h8]; exact S.ps.below.output, by have := S.ps.below.size; omega, fun k hk => ?_⟩ (fun k hk => ?_), (far S.mc (by decide) (by decide)).trans S.mc, (far S.pc (by decide) (by decide)).trans S.pc, h1, (far S.wc (by decide) (by decide)).trans S.wc, ⟨al, hM.same hmmf, hal⟩, h2, S.b0, S.bo, S.bm, S.nf, S.nc⟩, (hF.trans F).trans F'⟩
  · refine (h4 k (by have := S.ps.below.size; omega) (by omega) ?_).trans (S.ps.below.block k hk)
    intro hk2
    have := hbase k hk2
    omega
  · rcases hk with rfl | rfl | rfl | ⟨cs, h | h⟩
    · exact far hP.hP (by decide) (by decide)
    · obtain ⟨es, cl, h, _⟩ := hP.hm; exact mapfar h
    · obtain ⟨es, cl, h, _⟩ := hP.hc; exact mapfar h
    · exact far h (by decide) (by decide)
    · exact far h (by decide) (by decide)
set_option maxHeartbeats 2000000 in
set_option maxRecDepth 100000 in
theorem walk_new (k : Nat) (names : List ByteArray) (name : ByteArray) (met out : List ByteArray) (v : Value) (w : World) (hm : name ∉ met) (he : er name = 0) (hn : name ∈ names)
    (huF : ∀ u ∈ us name, u.2.2.toList ≠ [] → (alGet m u.2.2).isSome = true) (hul : (us name).length ≤ 1000000) (hk : Graph.left names met ≤ k + 1) (hl : out.length + Graph.left names met ≤ 1000)
    (hlen : ∀ (n : ByteArray) (met out : List ByteArray) (e : Int) (met' out' : List ByteArray), Graph.Walk er (fun n => fsOf (us n)) n met out e met' out' → n ∈ names → (∀ x ∈ met, x ∈ met') ∧ out'.length + Graph.left names met' ≤ out.length + Graph.left names met)
    (hnm : ∀ n, (alGet m n).isSome = true → n ∈ names)
    (hIH : ∀ (name : ByteArray) (met out : List ByteArray) (v : Value) (w : World), (alGet m name).isSome = true → Graph.left names met ≤ k → out.length + Graph.left names met ≤ 1000 → WS us er w0 m pv PB fm cm I w v met out → Calls Tryz.prog 52 #[.string name, .pointer (some ⟨I.MC, 0, none⟩), .pointer (some ⟨I.PC, 0, none⟩), .pointer (some ⟨I.OC, 0, none⟩), .pointer (some ⟨I.WC, 0, none⟩)] w (WalkQ us er w0 m pv PB fm cm I name met out v w))
    (hR : ReadC us er w0 m pv PB fm cm name) (S : WS us er w0 m pv PB fm cm I w v met out) :
    Calls Tryz.prog 52 #[.string name, .pointer (some ⟨I.MC, 0, none⟩), .pointer (some ⟨I.PC, 0, none⟩), .pointer (some ⟨I.OC, 0, none⟩), .pointer (some ⟨I.WC, 0, none⟩)] w (WalkQ us er w0 m pv PB fm cm I name met out v w) := by
  have hmf : ∀ (fn : Fn) (first cap : Array Value) (w : World), (Instr.makeFunc fn first cap).run Tryz.prog w = .ok (.func fn first cap) w := fun _ _ _ _ => rfl
  have hB := below_alloc (Below.refl w.heap.size w) (Obj.cells #[Value.string name] 9)
  have S1 := S.step hB
  obtain ⟨al, hM, hal⟩ := S1.mm
  have hlk := hM.get Tryz.underlying112 name (.bool false) (fun _ => rfl)
  rw [(hal name).2 hm] at hlk
  simp only [Option.getD_none] at hlk
  have c1 : (w.alloc (Obj.cells #[Value.string name] 9)).cell? ⟨I.MC, 0, none⟩ = some (.map (some I.mm)) := by have := cell_of_row _ I.MC 0 _ _ _ S1.mc; simpa using this
  have c2 : (w.alloc (Obj.cells #[Value.string name] 9)).cell? ⟨w.heap.size, 0, none⟩ = some (.string name) := by have := cell_of_row (w.alloc (Obj.cells #[Value.string name] 9)) w.heap.size 0 _ _ _ (blk_new _ _); simp
  obtain ⟨W2, hrun, hM2, hO2⟩ := hM.put (mt := 112) (e := 4) Tryz.underlying112 name (.bool true)
  have S2 := S1.put name al hal hM2 hO2
  have hmm := hM.lt
  have hNB : w.heap.size ≠ I.mm := fun e => by
    obtain ⟨_, ⟨es, cl, h4, _⟩, _⟩ := S.mm
    have := OScan.heap_lt h4
    omega
  have hNC : w.heap.size ≠ cm := fun e => by
    obtain ⟨c, hP, _⟩ := S.ps.prj
    have := hP.hc.lt
    omega
  have hNO : w.heap.size ≠ I.OC := fun e => by
    have := blk_lt S.oc
    omega
  have hNV : some w.heap.size ≠ v.ownBlock := fun e => by
    have := Kd.R_lt S.out _ e.symm
    omega
  have n2 := (hO2.block w.heap.size hNB).trans (blk_new w (Obj.cells #[Value.string name] 9))
  have d1 : W2.cell? ⟨I.PC, 0, none⟩ = some (.pointer (some ⟨PB, 0, none⟩)) := by have := cell_of_row _ I.PC 0 _ _ _ S2.pc; simpa using this
  have d2 : W2.cell? ⟨w.heap.size, 0, none⟩ = some (.string name) := by have := cell_of_row _ w.heap.size 0 _ _ _ n2; simpa using this
  have H21 := hR W2 S2.ps
  have F1 : WF cm I w v W2 v := (WF.of_below hB).trans (WF.put hO2)
  have hc2 := Graph.left_cons hn hm
  have HS := Aside0.mk S2
  have HF := Aside0.mk F1
  have HM := Aside0.mk (And.intro hm he)
  have HNB := Aside0.mk (And.intro hNC (And.intro hNB (And.intro hNO hNV)))
  have HN2 := Aside0.mk n2
  have HLL := Aside0.mk (show Graph.left names (name :: met) ≤ k ∧ out.length + Graph.left names (name :: met) ≤ 999 by omega)
  have HUF := Aside0.mk huF
  have HUL := Aside0.mk hul
  have HLEN := Aside0.mk hlen
  have HNM := Aside0.mk hnm
  have HIH := Aside0.mk hIH
  rw [he] at H21
  obtain ⟨NB, hNBe⟩ : ∃ NB, NB = w.heap.size := ⟨_, rfl⟩
  clear S S1 S2 hB hM hal hm he hM2 hO2 n2 F1 hmm hNB hNC hNO hNV hR hc2 hk hl huF hul hlen hnm hIH hn
  have HNBe := Aside0.mk hNBe
  clear hNBe
  obtain ⟨l, hlus⟩ : ∃ l, l = us name := ⟨_, rfl⟩
  rw [← hlus] at H21 HUF HUL
  have HUS := Aside0.mk hlus
  clear hlus
  obtain ⟨L, hL⟩ : ∃ L, L = l.length := ⟨_, rfl⟩
  rw [← hL] at HUL
  have HLE := Aside0.mk hL
  clear hL
  go_enter_defers Tryz.func52, Tryz.ntmps52
  go_wp2_with (go_at_call 21; go_loud (refine H21.mono ?_; rintro e w3 ⟨rb, rfl, hrd, hps, hsz, hkp⟩; obtain ⟨vl, vu, hrb, hus⟩ := hrd.2; obtain ⟨Au, cu, rfl⟩ := Kd.R_slice hus; rw [← HLE.out] at hrb hus; have r2 : w3.cell? ⟨rb, 2, none⟩ = some (.int .i64 0) := (by have := cell_of_row _ rb 2 _ _ _ hrb; simpa using this); have r1 : w3.cell? ⟨rb, 1, none⟩ = some (.slice Au L cu) := (by have := cell_of_row _ rb 1 _ _ _ hrb; simpa using this); have HS3 := Aside0.mk (HS.out.read hps hsz hkp); have HF3 := Aside0.mk (HF.out.trans (WF.read hsz hkp)); have HN3 : Aside0 (w3.heap[w.heap.size]? = some (.cells #[.string name] 9 (0, 0))) := ⟨(hkp _ (blk_lt HN2.out) HNB.out.1).trans HN2.out⟩; have HU3 := Aside0.mk hus; clear hrd hps hsz hkp hrb hus))
  clear H21 hrun hlk c1 c2 d1 d2 r2 r1
  have HN3' : Aside0 (w3.heap[NB]? = some (.cells #[.string name] 9 (0, 0)) ∧ NB ≠ cm ∧ NB ≠ I.mm ∧ NB ≠ I.OC ∧ some NB ≠ v.ownBlock) := ⟨by rw [HNBe.out]; exact ⟨HN3.out, HNB.out⟩⟩
  rw [← HNBe.out]
  clear HN3 HNB
  go_loopg [34] L (fun kq v34 w' => ∃ (i : Nat) (met1 out1 : List ByteArray) (v1 : Value), v34 = .int .i64 i ∧ Aside0 (kq + i = L) ∧ Aside0 (WS us er w0 m pv PB fm cm I w' v1 met1 out1) ∧ Aside0 (WF cm I w3 v w' v1) ∧ Aside0 (∀ e m' o', Graph.Walks er (fun n => fsOf (us n)) (fsOf (l.drop i)) met1 out1 e m' o' → Graph.Walks er (fun n => fsOf (us n)) (fsOf l) (name :: met) out e m' o') ∧ Aside0 (Graph.left names met1 ≤ k ∧ out1.length + Graph.left names met1 ≤ 999) ∧ Aside0 (∀ (j : Nat) (cs : Array Value), w3.heap[j]? = some (Obj.cells cs 34 (0, 0)) → w'.heap[j]? = w3.heap[j]?))
  case atStart => exact ⟨0, name :: met, out, v, rfl, ⟨rfl⟩, HS3, ⟨WF.of_below (Below.refl _ _)⟩, ⟨fun _ _ _ h => h⟩, HLL, ⟨fun _ _ _ => rfl⟩⟩
  case round =>
    obtain ⟨i, met1, out1, v1, rfl, hki, hS, hFr, hWs, hLb, hK34⟩ := hrel
    have hki' := hki.out
    have hNr : Aside0 (wr.heap[NB]? = some (.cells #[.string name] 9 (0, 0))) := ⟨(hFr.out.keep NB (blk_lt HN3'.out.1) HN3'.out.2.1 HN3'.out.2.2.1 HN3'.out.2.2.2.1 HN3'.out.2.2.2.2).trans HN3'.out.1⟩
    cases gk with
    | zero =>
      have hlt : decide ((i : Int) < (L : Int)) = false := decide_eq_false (by omega)
      go_wp2
      refine leaves_cons (f := 53) (args := #[.pointer (some ⟨I.OC, 0, none⟩), .pointer (some ⟨NB, 0, none⟩)]) (by simp) (by simp [go_sem]) ?_
      have hwk : Graph.Walks er (fun n => fsOf (us n)) (fsOf (us name)) (name :: met) out 0 met1 out1 := by
        rw [← HUS.out]
        refine hWs.out 0 met1 out1 ?_
        rw [List.drop_eq_nil_of_le (by rw [← HLE.out]; omega)]
        exact .nil
      refine (walk_door name met out met1 out1 v v1 w w3 wr NB 0 hS.out hNr.out HF3.out hFr.out (by have := hLb.out.2; omega) hwk HM.out.1 HM.out.2 .returning).mono ?_
      rintro e u' w'' ⟨rfl, rfl, met', out', v', hw, hs, hf⟩
      exact ⟨_, results_tmp rfl _ _ _, 0, met', out', v', rfl, hw, hs, hf⟩
    | succ g1 =>
      have hlt : decide ((i : Int) < (L : Int)) = true := decide_eq_true (by omega)
      have hii : (0 : Int) ≤ (i : Int) := by omega
      have hLu := HUL.out
      obtain ⟨x, hx⟩ : ∃ x, l[i]? = some x := ⟨_, List.getElem?_eq_getElem (by rw [← HLE.out]; omega)⟩
      have HUr : Kd.R kUs 34 wr w0.heap.size (fun _ => True) (.slice Au L cu) l := Kd.R_mono (Kd.R_step (Kd.R_bound HU3.out) (fun k ho _ => by
        obtain ⟨_, _, _, q, hq, cs, hc⟩ := ho
        obtain rfl : q = 34 := by
          rcases List.mem_cons.1 hq with h | h
          · exact h
          · exact absurd (show q ∈ ([] : List Nat) from h) (by simp)
        exact hK34.out _ _ hc)) (fun _ _ => trivial)
      obtain ⟨ad, hAd, hx0, hx1, hx2⟩ := us_at (Kd.R_reads' HUr).2.2 i (by rw [← HLE.out]; omega) x hx
      obtain rfl := hAd
      have hdr : l.drop i = x :: l.drop (i + 1) := by
        obtain ⟨hl', he'⟩ := List.getElem?_eq_some_iff.1 hx
        rw [List.drop_eq_getElem_cons hl', he']
      have hxm := List.mem_of_getElem? hx
      obtain ⟨un, uq, uf⟩ := x
      simp only at hx0 hx1 hx2
      have hB4 := below_alloc (Below.refl wr.heap.size wr) (Obj.cells #[Value.string un, Value.bool uq, Value.string uf] 34)
      have S4 := hS.out.step hB4
      have HB4 := Aside0.mk hB4
      have k4 : (wr.alloc (Obj.cells #[Value.string un, Value.bool uq, Value.string uf] 34)).cell? ⟨I.WC, 0, none⟩ = some (.func (.func 52) #[] #[.pointer (some ⟨I.MC, 0, none⟩), .pointer (some ⟨I.PC, 0, none⟩), .pointer (some ⟨I.OC, 0, none⟩), .pointer (some ⟨I.WC, 0, none⟩)]) := by have := cell_of_row _ I.WC 0 _ _ _ S4.wc; simpa [walkV] using this
      by_cases huf : uf.toList = []
      · have e1 : (uf.toList == ([] : List UInt8)) = true := by rw [huf]; rfl
        have hfs : fsOf (l.drop i) = fsOf (l.drop (i + 1)) := by rw [hdr, fsOf, if_pos huf]
        have HFS := Aside0.mk hfs
        clear hx hxm hdr HUr huf hB4 S4 hfs k4
        go_wp2
        obtain ⟨We, hWe⟩ : ∃ We, We = wr.alloc (Obj.cells #[Value.string un, Value.bool uq, Value.string uf] 34) := ⟨_, rfl⟩
        rw [← hWe] at HB4 ⊢
        clear hWe
        go_roundg g1
        case measure => omega
        case rel => exact ⟨i + 1, met1, out1, v1, by (try simp), ⟨by omega⟩, ⟨hS.out.step HB4.out⟩, ⟨hFr.out.trans (WF.of_below HB4.out)⟩, ⟨by rw [← HFS.out]; exact hWs.out⟩, hLb, ⟨fun j cs h => (HB4.out.block j (Nat.lt_of_lt_of_le (blk_lt h) hFr.out.size)).trans (hK34.out j cs h)⟩⟩
      · have e1 : (uf.toList == ([] : List UInt8)) = false := beq_eq_false_iff_ne.mpr huf
        have hsome := HUF.out _ hxm huf
        have hfs : fsOf (l.drop i) = uf :: fsOf (l.drop (i + 1)) := by rw [hdr, fsOf, if_neg huf]
        have H52 := HIH.out uf met1 out1 v1 _ hsome hLb.out.1 (by have := hLb.out.2; omega) S4
        have HFS := Aside0.mk hfs
        have HSO := Aside0.mk hsome
        clear hx hxm hdr HUr huf hB4 S4 hfs hsome
        go_wp2_with (go_at_call 52; go_loud (refine H52.mono ?_; rintro e w5 ⟨er5, met5, out5, v5, rfl, hw5, hs5, hf5⟩; have HW5 := Aside0.mk hw5; have HS5 := Aside0.mk hs5; have HF5 := Aside0.mk hf5; clear hw5 hs5 hf5))
        · rename_i h5
          have h5' : er5 ≠ 0 := by simpa using h5
          have hwk : Graph.Walks er (fun n => fsOf (us n)) (fsOf (us name)) (name :: met) out er5 met5 out5 := by
            rw [← HUS.out]
            refine hWs.out er5 met5 out5 ?_
            rw [HFS.out]
            exact .err HW5.out h5'
          have F5 : WF cm I w3 v w5 v5 := (hFr.out.trans (WF.of_below HB4.out)).trans HF5.out
          have hNr5 : w5.heap[NB]? = some (.cells #[.string name] 9 (0, 0)) := (F5.keep NB (blk_lt HN3'.out.1) HN3'.out.2.1 HN3'.out.2.2.1 HN3'.out.2.2.2.1 HN3'.out.2.2.2.2).trans HN3'.out.1
          have hln := (HLEN.out _ _ _ _ _ _ HW5.out (HNM.out _ HSO.out)).2
          refine leaves_cons (f := 53) (args := #[.pointer (some ⟨I.OC, 0, none⟩), .pointer (some ⟨NB, 0, none⟩)]) (by simp) (by simp [go_sem]) ?_
          refine (walk_door name met out met5 out5 v v5 w w3 w5 NB er5 HS5.out hNr5 HF3.out F5 (by have := hLb.out.2; omega) hwk HM.out.1 HM.out.2 .returning).mono ?_
          rintro e u' w'' ⟨rfl, rfl, met', out', v', hw, hs, hf⟩
          exact ⟨_, results_tmp rfl _ _ _, er5, met', out', v', rfl, hw, hs, hf⟩
        · rename_i h5
          have h5' : er5 = 0 := by simpa using h5
          subst h5'
          have hln := HLEN.out _ _ _ _ _ _ HW5.out (HNM.out _ HSO.out)
          have hmono := Graph.left_mono (names := names) hln.1
          go_roundg g1
          case measure => omega
          case rel => exact ⟨i + 1, met5, out5, v5, by (try simp), ⟨by omega⟩, HS5, ⟨(hFr.out.trans (WF.of_below HB4.out)).trans HF5.out⟩, ⟨fun e m' o' h => hWs.out e m' o' (by rw [HFS.out]; exact .cons HW5.out h)⟩, ⟨by have := hLb.out; omega⟩, ⟨fun j cs h => by
            have h1 := hK34.out j cs h
            have h2 := HB4.out.block j (Nat.lt_of_lt_of_le (blk_lt h) hFr.out.size)
            have h3 := (hS.out.step HB4.out).far HF5.out (k := j) (t := 34) (cs := cs) (h2.trans (h1.trans h)) (by decide) (by decide) (by decide)
            exact h3.trans (h2.trans h1)⟩⟩
end
end Go.Proofs.YtolaiebjmhieiaaGreatDoor.OScan
end
section
namespace Go.Proofs.YtolaiebjmhieiaaGreatDoor.OScan
open Go.RowKit Go.Proofs.YtolaiebjmhieiaaGreatDoorW.PrintWords Go.Proofs.YtolaiebjmhieiaaGreatDoorW.PrintLast Go.Proofs.YtolaiebjmhieiaaGreatDoorW.PrintMore
set_option linter.unusedVariables false
set_option linter.unusedSimpArgs false
section
variable {us : ByteArray → List Us} {er : ByteArray → Int} {w0 : World} {m : AL} {pv : Value} {PB fm cm : Nat}
structure Env (us : ByteArray → List Us) (er : ByteArray → Int) (w0 : World) (m : AL) (pv : Value) (PB fm cm : Nat) (names : List ByteArray) : Prop where
  nm : ∀ n, (alGet m n).isSome = true → n ∈ names
  rd : ∀ n, (alGet m n).isSome = true → ReadC us er w0 m pv PB fm cm n
  fs : ∀ n, ∀ u ∈ us n, u.2.2.toList ≠ [] → (alGet m u.2.2).isSome = true
  len : ∀ n, (us n).length ≤ 1000000
  small : names.length ≤ 1000
theorem Env.in_ {names : List ByteArray} (E : Env us er w0 m pv PB fm cm names) : ∀ x, ∀ y ∈ fsOf (us x), y ∈ names := fun x y hy => by
  obtain ⟨u, h1, h2, h3⟩ := fsOf_mem hy
  exact E.nm y (by rw [← h2]; exact E.fs x u h1 (by rw [h2]; exact h3))
theorem walk_any {I : Ids} {names : List ByteArray} (E : Env us er w0 m pv PB fm cm names) : ∀ (k : Nat) (name : ByteArray) (met out : List ByteArray) (v : Value) (w : World), (alGet m name).isSome = true → Graph.left names met ≤ k → out.length + Graph.left names met ≤ 1000 → WS us er w0 m pv PB fm cm I w v met out →
    Calls Tryz.prog 52 #[.string name, .pointer (some ⟨I.MC, 0, none⟩), .pointer (some ⟨I.PC, 0, none⟩), .pointer (some ⟨I.OC, 0, none⟩), .pointer (some ⟨I.WC, 0, none⟩)] w (WalkQ us er w0 m pv PB fm cm I name met out v w) := by
  intro k
  induction k with
  | zero =>
    intro name met out v w hn hk hl S
    by_cases hm : name ∈ met
    · exact walk_met name met out v w hm S
    · have := Graph.left_cons (E.nm name hn) hm
      omega
  | succ k ih =>
    intro name met out v w hn hk hl S
    by_cases hm : name ∈ met
    · exact walk_met name met out v w hm S
    · by_cases he : er name = 0
      · exact walk_new k names name met out v w hm he (E.nm name hn) (E.fs name) (E.len name) hk hl (fun n met out e met' out' h hn => Graph.walk_len er (fun n => fsOf (us n)) E.in_ n met out e met' out' h hn) E.nm ih (E.rd name hn) S
      · exact walk_bad name met out v w hm he (E.rd name hn) S
theorem left_le {α : Type} (names met : List α) : Graph.left names met ≤ names.length := by
  unfold Graph.left; exact List.length_filter_le _ _
set_option maxHeartbeats 1000000 in
set_option maxRecDepth 100000 in
theorem all_any {names : List ByteArray} (E : Env us er w0 m pv PB fm cm names) (name : ByteArray) (w : World) (hn : (alGet m name).isSome = true) (P : PS us er w0 m pv PB fm cm w) :
    Calls Tryz.prog 26 #[.pointer (some ⟨PB, 0, none⟩), .string name] w fun e w' => ∃ (er' : Int) (met' out' : List ByteArray) (v' : Value), e = .returned (.tuple #[v', .int .i64 er']) ∧ Graph.Walk er (fun n => fsOf (us n)) name [] [] er' met' out' ∧ Kd.R Kd.string 9 w' w.heap.size (fun _ => True) v' (if er' = 0 then out' else []) ∧ PS us er w0 m pv PB fm cm w' ∧ w.heap.size ≤ w'.heap.size ∧ ∀ k, k < w.heap.size → k ≠ cm → w'.heap[k]? = w.heap[k]? := by
  have hmf : ∀ (fn : Fn) (first cap : Array Value) (w : World), (Instr.makeFunc fn first cap).run Tryz.prog w = .ok (.func fn first cap) w := fun _ _ _ _ => rfl
  have hmm : ∀ w, (Instr.makeMap 112 none).run Tryz.prog w = .ok (.map (some w.heap.size)) (w.alloc (.map #[] 0)) := fun _ => rfl
  obtain ⟨S, hS⟩ : ∃ S, S = w.heap.size := ⟨_, rfl⟩
  have H52 : Calls Tryz.prog 52 #[.string name, .pointer (some ⟨w.heap.size + 1 + 1 + 1, 0, none⟩), .pointer (some ⟨w.heap.size, 0, none⟩), .pointer (some ⟨w.heap.size + 1, 0, none⟩), .pointer (some ⟨w.heap.size + 1 + 1 + 1 + 1, 0, none⟩)] (((((w.alloc (Obj.cells #[Value.pointer (some ⟨PB, 0, none⟩)] 47)).alloc (Obj.cells #[Value.slice none 0 0] 23)).alloc (Obj.map #[] 0)).alloc (Obj.cells #[Value.map (some (w.heap.size + 1 + 1))] 112)).alloc (Obj.cells #[Value.func (.func 52) #[] #[.pointer (some ⟨w.heap.size + 1 + 1 + 1, 0, none⟩), .pointer (some ⟨w.heap.size, 0, none⟩), .pointer (some ⟨w.heap.size + 1, 0, none⟩), .pointer (some ⟨w.heap.size + 1 + 1 + 1 + 1, 0, none⟩)]] 113)) fun e w' => ∃ (er' : Int) (met' out' : List ByteArray) (v' : Value), e = .returned (.int .i64 er') ∧ Graph.Walk er (fun n => fsOf (us n)) name [] [] er' met' out' ∧ w'.heap[w.heap.size + 1]? = some (.cells #[v'] 23 (0, 0)) ∧ Kd.R Kd.string 9 w' w.heap.size (fun _ => True) v' out' ∧ PS us er w0 m pv PB fm cm w' ∧ w.heap.size ≤ w'.heap.size ∧ ∀ k, k < w.heap.size → k ≠ cm → w'.heap[k]? = w.heap[k]? := by
    obtain ⟨W1, hW1⟩ : ∃ W1, W1 = w.alloc (Obj.cells #[Value.pointer (some ⟨PB, 0, none⟩)] 47) := ⟨_, rfl⟩
    have s1 : W1.heap.size = w.heap.size + 1 := by rw [hW1, alloc_size]
    have p1 : W1.heap[w.heap.size]? = some (.cells #[Value.pointer (some ⟨PB, 0, none⟩)] 47 (0, 0)) := by rw [hW1]; exact blk_new _ _
    have b1 : Below w.heap.size w W1 := by rw [hW1]; exact below_alloc (Below.refl _ _) _
    rw [← hW1]
    obtain ⟨W2, hW2⟩ : ∃ W2, W2 = W1.alloc (Obj.cells #[Value.slice none 0 0] 23) := ⟨_, rfl⟩
    have s2 : W2.heap.size = w.heap.size + 1 + 1 := by rw [hW2, alloc_size, s1]
    have p2 : W2.heap[w.heap.size + 1]? = some (.cells #[Value.slice none 0 0] 23 (0, 0)) := by rw [hW2, ← s1]; exact blk_new _ _
    have b2 : Below W1.heap.size W1 W2 := by rw [hW2]; exact below_alloc (Below.refl _ _) _
    rw [← hW2]
    obtain ⟨W3, hW3⟩ : ∃ W3, W3 = W2.alloc (Obj.map #[] 0) := ⟨_, rfl⟩
    have s3 : W3.heap.size = w.heap.size + 1 + 1 + 1 := by rw [hW3, alloc_size, s2]
    have p3 : W3.heap[w.heap.size + 1 + 1]? = some (.map #[] 0) := by rw [hW3, ← s2]; exact blk_new _ _
    have b3 : Below W2.heap.size W2 W3 := by rw [hW3]; exact below_alloc (Below.refl _ _) _
    rw [← hW3]
    obtain ⟨W4, hW4⟩ : ∃ W4, W4 = W3.alloc (Obj.cells #[Value.map (some (w.heap.size + 1 + 1))] 112) := ⟨_, rfl⟩
    have s4 : W4.heap.size = w.heap.size + 1 + 1 + 1 + 1 := by rw [hW4, alloc_size, s3]
    have p4 : W4.heap[w.heap.size + 1 + 1 + 1]? = some (.cells #[Value.map (some (w.heap.size + 1 + 1))] 112 (0, 0)) := by rw [hW4, ← s3]; exact blk_new _ _
    have b4 : Below W3.heap.size W3 W4 := by rw [hW4]; exact below_alloc (Below.refl _ _) _
    rw [← hW4]
    obtain ⟨W5, hW5⟩ : ∃ W5, W5 = W4.alloc (Obj.cells #[Value.func (.func 52) #[] #[.pointer (some ⟨w.heap.size + 1 + 1 + 1, 0, none⟩), .pointer (some ⟨w.heap.size, 0, none⟩), .pointer (some ⟨w.heap.size + 1, 0, none⟩), .pointer (some ⟨w.heap.size + 1 + 1 + 1 + 1, 0, none⟩)]] 113) := ⟨_, rfl⟩
    have s5 : W5.heap.size = w.heap.size + 1 + 1 + 1 + 1 + 1 := by rw [hW5, alloc_size, s4]
    have p5 : W5.heap[w.heap.size + 1 + 1 + 1 + 1]? = some (.cells #[Value.func (.func 52) #[] #[.pointer (some ⟨w.heap.size + 1 + 1 + 1, 0, none⟩), .pointer (some ⟨w.heap.size, 0, none⟩), .pointer (some ⟨w.heap.size + 1, 0, none⟩), .pointer (some ⟨w.heap.size + 1 + 1 + 1 + 1, 0, none⟩)]] 113 (0, 0)) := by rw [hW5, ← s4]; exact blk_new _ _
    have b5 : Below W4.heap.size W4 W5 := by rw [hW5]; exact below_alloc (Below.refl _ _) _
    rw [← hW5]
    have hb : Below w.heap.size w W5 := below_step (below_step (below_step (below_step b1 b2) b3) b4) b5
    have hb0 := P.below.size
    obtain ⟨c, hP, _⟩ := P.prj
    have hfl := hP.hm.lt
    have hcl := hP.hc.lt
    have f1 := (b5.block (w.heap.size + 1 + 1 + 1) (by omega)).trans p4
    have f2 := (b5.block w.heap.size (by omega)).trans ((b4.block w.heap.size (by omega)).trans ((b3.block w.heap.size (by omega)).trans ((b2.block w.heap.size (by omega)).trans p1)))
    have f3 := (b5.block (w.heap.size + 1) (by omega)).trans ((b4.block (w.heap.size + 1) (by omega)).trans ((b3.block (w.heap.size + 1) (by omega)).trans p2))
    have f4 := (b5.block (w.heap.size + 1 + 1) (by omega)).trans ((b4.block (w.heap.size + 1 + 1) (by omega)).trans p3)
    let I : Ids := ⟨w.heap.size + 1 + 1 + 1, w.heap.size, w.heap.size + 1, w.heap.size + 1 + 1 + 1 + 1, w.heap.size + 1 + 1, w.heap.size⟩
    have S5 : WS us er w0 m pv PB fm cm I W5 (.slice none 0 0) [] [] := {
      ps := P.step hb
      mc := f1
      pc := f2
      oc := f3
      wc := p5
      mm := ⟨[], ⟨_, _, f4, rfl⟩, fun n => ⟨fun h => by simp at h, fun _ => rfl⟩⟩
      out := Kd.R_nil _ _ _ _ _
      b0 := hb0
      bo := Nat.le_succ _
      bm := by show w.heap.size ≤ w.heap.size + 1 + 1; omega
      nf := by show w.heap.size + 1 + 1 ≠ fm; omega
      nc := by show w.heap.size + 1 + 1 ≠ cm; omega }
    have hsm := E.small
    have hll := left_le names []
    refine (walk_any E names.length name [] [] (.slice none 0 0) W5 hn hll (by simp; omega) S5).mono ?_
    rintro e w' ⟨er', met', out', v', rfl, hw, hs, hf⟩
    refine ⟨er', met', out', v', rfl, hw, hs.oc, hs.out, hs.ps, by have := hf.size; omega, fun k h1 h2 => ?_⟩
    exact (hf.keep k (by omega) h2 (by show k ≠ w.heap.size + 1 + 1; omega) (by show k ≠ w.heap.size + 1; omega) (by simp [Value.ownBlock])).trans (hb.block k h1)
  clear E P hn hS
  go_enter Tryz.func26, Tryz.ntmps26
  go_wp2_with (go_at_call 52; go_loud (refine H52.mono ?_; rintro e w6 ⟨er6, met6, out6, v6, rfl, hw6, ho6, hr6, hp6, hs6, hk6⟩; obtain ⟨A6, c6, rfl⟩ := Kd.R_slice hr6; have o6 : w6.cell? ⟨w.heap.size + 1, 0, none⟩ = some (.slice A6 out6.length c6) := (by have := cell_of_row _ _ 0 _ _ _ ho6; simpa using this); have HX6 := Aside0.mk (And.intro hw6 (And.intro hr6 (And.intro hp6 (And.intro hs6 hk6)))); clear hw6 ho6 hr6 hp6 hs6 hk6))
  · rename_i h5
    have h5' : er6 ≠ 0 := by simpa using h5
    go_ret2
    obtain ⟨h1, h2, h3, h4, h6⟩ := HX6.out
    exact ⟨er6, met6, out6, _, rfl, h1, by rw [if_neg h5']; exact Kd.R_nil _ _ _ _ _, h3, h4, h6⟩
  · rename_i h5
    have h5' : er6 = 0 := by simpa using h5
    subst h5'
    go_ret2
    obtain ⟨h1, h2, h3, h4, h6⟩ := HX6.out
    exact ⟨0, met6, out6, _, rfl, h1, by rw [if_pos rfl]; exact h2, h3, h4, h6⟩
end
end Go.Proofs.YtolaiebjmhieiaaGreatDoor.OScan
end
section
namespace Go.Proofs.YtolaiebjmhieiaaGreatDoor.OScan
open Go.RowKit Go.Proofs.YtolaiebjmhieiaaGreatDoorW.PrintWords Go.Proofs.YtolaiebjmhieiaaGreatDoorW.PrintLast Go.Proofs.YtolaiebjmhieiaaGreatDoorW.PrintMore
open Go.MuLone
set_option linter.unusedVariables false
set_option linter.unusedSimpArgs false
set_option maxHeartbeats 1000000 in
set_option maxRecDepth 100000 in
theorem read_e2 (m c : AL) (name text : ByteArray) (pv : Value) (PB fm cm : Nat) (w0 w : World) (HP : PrjIs w0.heap.size w PB fm cm pv m c) (HB : Below w0.heap.size w0 w) (hG : Glob2 w0) (hc : alGet c name = none)
    (ht : (alGet m name).getD (.string ⟨#[]⟩) = .string text) (hsz : text.size ≤ 140737488355328) (hs0 : (scanR text).2 = 0) (ks : List ByteArray) (hyl : (scanR text).1.length ≤ 900000) (hkl : ks.length = (scanR text).1.length)
    (hK : ∀ (i : Nat) (t : Tk), (scanR text).1[i]? = some t → ∃ r, ks[i]? = some r ∧ KindOf t r) (he : (groupsR ks).2.1 ≠ 0) :
    Calls Tryz.prog 21 #[.pointer (some ⟨PB, 0, none⟩), .string name] w fun e w' => ∃ rb, e = .returned (.pointer (some ⟨rb, 0, none⟩)) ∧ ReadQ w0 w w' PB cm c name rb [] (groupsR ks).2.1 := by
  have hP := HP.hP
  have hPB := blk_lt hP
  have p2 : w.cell? ⟨PB, 2, none⟩ = some (.int .i32 0) := by have := cell_of_row w PB 2 _ _ _ hP; simpa using this
  have f2 := blk_frozen hP 2
  have hP1 := blk_put hP 2 (.int .i32 1) rfl
  have hcP : cm ≠ PB := by
    rintro e
    obtain ⟨es, cl, h1, _⟩ := HP.hc
    rw [e, hP] at h1
    cases h1
  have hfP : fm ≠ PB := by
    rintro e
    obtain ⟨es, cl, h1, _⟩ := HP.hm
    rw [e, hP] at h1
    cases h1
  have hcs := HP.hc.lt
  have hfs := HP.hm.lt
  have HL := lock_free Tryz.muLib ⟨PB, 2, none⟩ w p2 f2
  obtain ⟨W1, hW1⟩ : ∃ W1, W1 = w.setCell ⟨PB, 2, none⟩ (.int .i32 1) := ⟨_, rfl⟩
  rw [← hW1] at HL hP1
  have hs1 : W1.heap.size = w.heap.size := by rw [hW1]; simp
  have k1 : ∀ k, k ≠ PB → W1.heap[k]? = w.heap[k]? := fun k hk => by rw [hW1]; exact Below.heap_setCell _ ⟨PB, 2, none⟩ _ k hk
  have B1 : Below w0.heap.size w0 W1 := by rw [hW1]; exact HB.setCell HP.bP _
  have hM1 : MapIs W1 cm c := HP.hc.same (k1 _ hcP)
  have hF1 : MapIs W1 fm m := HP.hm.same (k1 _ hfP)
  obtain ⟨W2, hW2⟩ : ∃ W2, W2 = W1.alloc (.cells #[Value.slice none 0 0, Value.slice none 0 0, Value.int .i64 0] 54) := ⟨_, rfl⟩
  have B2 : Below w0.heap.size w0 W2 := by rw [hW2]; exact below_alloc B1 _
  have k2 : ∀ k, k < w.heap.size → W2.heap[k]? = W1.heap[k]? := fun k hk => by rw [hW2]; exact Below.heap_alloc _ _ _ (by omega)
  have hM2 : MapIs W2 cm c := hM1.same (k2 _ hcs)
  have hF2 : MapIs W2 fm m := hF1.same (k2 _ hfs)
  obtain ⟨rb, hrb⟩ : ∃ rb, rb = W1.heap.size := ⟨_, rfl⟩
  have hR2 : W2.heap[rb]? = some (.cells #[Value.slice none 0 0, Value.slice none 0 0, Value.int .i64 0] 54 (0, 0)) := by rw [hW2, hrb]; exact blk_new _ _
  have hs2 : W2.heap.size = w.heap.size + 1 := by rw [hW2, alloc_size, hs1]
  obtain ⟨W3, hrun, hM3, hO3⟩ := hM2.put (mt := 83) (e := 50) Tryz.underlying83 name (.pointer (some ⟨rb, 0, none⟩))
  have hF3 : MapIs W3 fm m := hF2.same (hO3.block _ HP.ne)
  have B3 : Below w0.heap.size w0 W3 := hO3.below B2 HP.bc
  have hlk1 := hM1.getOk Tryz.underlying83 name (.pointer none) (fun _ => rfl)
  rw [hc] at hlk1
  simp only [Option.getD_none, Option.isSome_none] at hlk1
  have hlk3 := hF3.get Tryz.underlying75 name (.string ⟨#[]⟩) (fun _ => rfl)
  rw [ht] at hlk3
  have hP2 := (k2 _ hPB).trans hP1
  have hP3 := (hO3.block _ (Ne.symm hcP)).trans hP2
  have hR3 := (hO3.block rb (by omega)).trans hR2
  have a1 : W1.cell? ⟨PB, 4, none⟩ = some (.map (some cm)) := by have := cell_of_row _ PB 4 _ _ _ hP1; simpa using this
  have a2 : W2.cell? ⟨PB, 4, none⟩ = some (.map (some cm)) := by have := cell_of_row _ PB 4 _ _ _ hP2; simpa using this
  have a3 : W3.cell? ⟨PB, 0, none⟩ = some (.map (some fm)) := by have := cell_of_row _ PB 0 _ _ _ hP3; simpa using this
  have H40 := scan_both text W3 (hG.below B3) hsz
  have K3 : ∀ k, k < w.heap.size → k ≠ PB → k ≠ cm → W3.heap[k]? = w.heap[k]? := fun k h1 h2 h3 => (hO3.block k h3).trans ((k2 k h1).trans (k1 k h2))
  have s3 : w.heap.size < W3.heap.size := by rw [hO3.size, hs2]; omega
  have er0 : ((groupsR ks).2.1 != 0) = true := by simpa using he
  rw [hs0] at H40
  have hrbs : rb < W3.heap.size := blk_lt hR3
  have hPs : PB < W3.heap.size := blk_lt hP3
  have hcs3 : cm < W3.heap.size := hM3.lt
  have hrP : rb ≠ PB := by omega
  have hrc : rb ≠ cm := by omega
  generalize (scanR text).1 = ys at *
  have H41 : Aside0 (∀ (W : World) (A : Option Addr) (c : Nat), Kd.C kTk W A ys.length ys → ys.length ≤ c → Below w0.heap.size w0 W → Calls Tryz.prog 41 #[.slice A ys.length c] W fun e w' => ∃ v, e = .returned (.tuple #[v, .int .i64 (groupsR ks).2.1, .int .i64 (groupsR ks).2.2]) ∧ Kd.R kGr 134 w' W.heap.size (fun _ => True) v (groupsR ks).1 ∧ Below W.heap.size W w') := ⟨fun W A c h1 h2 h3 => groups_any ys ks W A c h1 h2 (hG.below h3) hyl hkl hK⟩
  generalize (groupsR ks).2.1 = er at *
  generalize (groupsR ks).2.2 = gat at *
  generalize (groupsR ks).1 = ggs at *
  rw [hW2] at hrun a2
  rw [hrb] at hrun
  have HX := Aside0.mk (And.intro hR3 (And.intro hP3 (And.intro hM3 (And.intro B3 K3))))
  have HRB := Aside0.mk hrb
  have HPP := Aside0.mk HP
  have HYP := Aside0.mk (And.intro hP (And.intro s3 (And.intro hrbs (And.intro hPs (And.intro hcs3 (And.intro hrP hrc))))))
  have HS1 := Aside0.mk hs1
  clear hM1 hF1 B1 k1 hM2 hF2 B2 k2 hR2 hs2 hO3 hF3 B3 hP2 hP3 hR3 hP1 hW1 hW2 HP hP p2 f2 hs1 K3 s3 hrb hrbs hPs hcs3 hrP hrc hcs hfs hcP hfP hPB he hM3 HB hG hc ht hsz hs0 hkl hK hyl
  go_enter_defers Tryz.func21, Tryz.ntmps21
  go_wp2_with (first | (go_at_call 38; go_loud (refine HL.mono ?_; rintro e w' ⟨rfl, rfl⟩)) | (go_at_call 40; go_loud (refine H40.mono ?_; rintro e w8 ⟨v8, rfl, hr8, hb8⟩; obtain ⟨A8, c8, rfl⟩ := Kd.R_slice hr8; obtain ⟨hR3, hP3, hM3, B3, K3⟩ := HX.out; obtain ⟨_, _, hrbs, hPs, hcs3, _, _⟩ := HYP.out; have hR8 := (hb8.block _ hrbs).trans hR3; have hP8 := (hb8.block _ hPs).trans hP3; have m0 : w8.cell? ⟨rb, 0, none⟩ = some (.slice none 0 0) := (by have := cell_of_row _ rb 0 _ _ _ hR8; simpa using this); have m2 : w8.cell? ⟨rb, 2, none⟩ = some (.int .i64 0) := (by have := cell_of_row _ rb 2 _ _ _ hR8; simpa using this); have g0 := blk_frozen hR8 0; have g2 := blk_frozen hR8 2; rw [HRB.out] at m0 m2 g0 g2; have HR8 := Aside0.mk hR8; have HP8 := Aside0.mk hP8; have HT8 := Aside0.mk hr8; have HB8 := Aside0.mk hb8; clear hr8 hb8 hR3 hP3 hM3 B3 K3 hrbs hPs hcs3 hR8 hP8)))
  obtain ⟨W9, hW9⟩ : ∃ W9, W9 = ((w8.setCell { block := w'.heap.size, off := 0 } (Value.slice A8 ys.length c8)).setCell { block := w'.heap.size, off := 2 } (Value.int IntKind.i64 0)) := ⟨_, rfl⟩
  rw [← hW9]
  rw [← HRB.out] at hW9 ⊢
  obtain ⟨hR3, hP3, hM3, B3, K3⟩ := HX.out
  obtain ⟨hP, s3, hrbs, hPs, hcs3, hrP, hrc⟩ := HYP.out
  have hR9a := blk_put HR8.out 0 (Value.slice A8 ys.length c8) rfl
  have hR9 : W9.heap[rb]? = some (.cells #[Value.slice A8 ys.length c8, Value.slice none 0 0, Value.int .i64 0] 54 (0, 0)) := by rw [hW9]; exact blk_put hR9a 2 _ rfl
  have hP9 : W9.heap[PB]? = some (.cells #[Value.map (some fm), pv, Value.int .i32 1, Value.int .u32 0, Value.map (some cm)] 87 (0, 0)) := by rw [hW9]; exact blk_far (blk_far HP8.out (Ne.symm hrP) _) (Ne.symm hrP) _
  have k9 : ∀ k, k ≠ rb → W9.heap[k]? = w8.heap[k]? := fun k hk => by rw [hW9]; exact (Below.heap_setCell _ ⟨rb, 2, none⟩ _ k hk).trans (Below.heap_setCell _ ⟨rb, 0, none⟩ _ k hk)
  have hrb0 : w.heap.size ≤ rb := by have h1 := HRB.out; have h2 := HS1.out; omega
  have hw0 : w0.heap.size ≤ rb := by have := HPP.out.bP; have := blk_lt hP; omega
  have B9 : Below w0.heap.size w0 W9 := by rw [hW9]; exact ((below_step B3 HB8.out).setCell hw0 _).setCell hw0 _
  have hs98 : W9.heap.size = w8.heap.size := by rw [hW9]; simp
  have hT9 : Kd.R kTk 95 W9 W3.heap.size (fun _ => True) (.slice A8 ys.length c8) ys := by rw [hW9]; exact Kd.R_set (Kd.R_set HT8.out HR8.out (by decide) 0 _) hR9a (by decide) 2 _
  have hC9 := Kd.R_reads' hT9
  refine (H41.out W9 A8 c8 hC9.2.2 hC9.2.1 B9).mono ?_
  rintro e w10 ⟨v10, rfl, hr10, hb10⟩
  have hR10 := (hb10.block _ (blk_lt hR9)).trans hR9
  have hP10 := (hb10.block _ (blk_lt hP9)).trans hP9
  have q0 : w10.cell? ⟨rb, 0, none⟩ = some (.slice A8 ys.length c8) := by have := cell_of_row _ rb 0 _ _ _ hR10; simpa using this
  have q2 : w10.cell? ⟨rb, 2, none⟩ = some (.int .i64 0) := by have := cell_of_row _ rb 2 _ _ _ hR10; simpa using this
  have q3 := blk_frozen hR10 2
  have HP10 := Aside0.mk hP10
  have HR10 := Aside0.mk hR10
  have HB10 := Aside0.mk hb10
  have HK9 := Aside0.mk (And.intro k9 (And.intro hrb0 (And.intro hw0 (And.intro B9 hs98))))
  clear hR9a hR9 hP9 k9 hrb0 hw0 B9 hs98 hT9 hC9 hb10 hR10 hP10 hR3 hP3 hM3 B3 K3 hP s3 hrbs hPs hcs3 hrP hrc m0 m2 g0 g2 hW9
  go_wp2
  obtain ⟨W11, hW11⟩ : ∃ W11, W11 = w10.setCell { block := rb, off := 2 } (Value.int IntKind.i64 er) := ⟨_, rfl⟩
  rw [← hW11]
  obtain ⟨hR3, hP3, hM3, B3, K3⟩ := HX.out
  obtain ⟨hP, s3, hrbs, hPs, hcs3, hrP, hrc⟩ := HYP.out
  obtain ⟨k9, hrb0, hw0, B9, hs98⟩ := HK9.out
  have hR11 : W11.heap[rb]? = some (.cells #[Value.slice A8 ys.length c8, Value.slice none 0 0, Value.int .i64 er] 54 (0, 0)) := by rw [hW11]; exact blk_put HR10.out 2 _ rfl
  have hP11 : W11.heap[PB]? = some (.cells #[Value.map (some fm), pv, Value.int .i32 1, Value.int .u32 0, Value.map (some cm)] 87 (0, 0)) := by rw [hW11]; exact blk_far HP10.out (Ne.symm hrP) _
  have k11 : ∀ k, k < W3.heap.size → k ≠ rb → W11.heap[k]? = W3.heap[k]? := fun k h1 hk => by
    have h8 := HB8.out.size
    rw [hW11]
    exact (Below.heap_setCell _ ⟨rb, 2, none⟩ _ k hk).trans ((HB10.out.block k (by omega)).trans ((k9 k hk).trans (HB8.out.block k h1)))
  have B11 : Below w0.heap.size w0 W11 := by rw [hW11]; exact (below_step B9 HB10.out).setCell hw0 _
  have d1 : W11.cell? ⟨PB, 2, none⟩ = some (.int .i32 1) := by have := cell_of_row _ PB 2 _ _ _ hP11; simpa using this
  have d2 := blk_frozen hP11 2
  refine leaves_cons (f := 39) (args := #[.pointer (some ⟨PB, 2, none⟩)]) (by simp) (by simp [go_sem]) ?_
  refine (unlock_deferred Tryz.muLib ⟨PB, 2, none⟩ .returning W11 d1 d2).mono ?_
  rintro e u' w'' ⟨rfl, rfl, rfl⟩
  refine ⟨_, results_tmp rfl _ _ _, rb, rfl, ⟨⟨hw0, _, _, blk_far hR11 hrP _, Kd.R_nil _ _ _ _ _⟩, hrb0, hM3.same ?_, ?_, B11.setCell HPP.out.bP _, fun k h1 h2 h3 => ?_⟩⟩
  · exact (Below.heap_setCell _ ⟨PB, 2, none⟩ _ cm (by
      rintro e
      obtain ⟨es, cl, h1, _⟩ := HPP.out.hc
      have e' : cm = PB := e
      rw [e', hP] at h1
      cases h1)).trans (k11 cm hcs3 (Ne.symm hrc))
  · rw [hP]; exact blk_put hP11 2 _ rfl
  · exact (Below.heap_setCell _ ⟨PB, 2, none⟩ _ k h2).trans ((k11 k (by omega) (by omega)).trans (K3 k h1 h2 h3))
end Go.Proofs.YtolaiebjmhieiaaGreatDoor.OScan
end
