/- HeadOnce: for every list of files, every name and every list of places the law answers true, and all read behind the call as before; the listed tables are tied to the text of the program; no condition. Here: parts of its proof. -/
import Derived.Test.YtolaiebjmhieiaaGreatDoorM11
import Derived.Test.YtolaiebjmhieiaaGreatDoorM02
import Derived.Test.YtolaiebjmhieiaaGreatDoorM03
import Derived.Test.YtolaiebjmhieiaaGreatDoorProg
import Derived.Below
import Derived.Deep.Draws
import Derived.Deep.AppendLies
import Derived.Maps.AppendAt
import Derived.OwnWalk
import Derived.Laws.BytesArg
import Derived.Laws.MakeOwn
import Derived.Laws.OwnMore
import Derived.Deep.OwnRows
import Derived.Tactics
import Derived.Lib.ConvBytes
import Derived.Laws.Slices
import Derived.WalkKit
import Derived.KernelRfl
import Derived.RowKit3
import Derived.Deep.LoopGhost
import Derived.Deep.QuietTactic
import Derived.BigQuiet
import Derived.WideLaws
import Derived.Deep.DeepCutAuto
import Derived.Deep.CutBlock
import Derived.Deep.RegionHeld3
import Derived.Laws.Rows
import Derived.Lib.AppendStr
import Derived.ArgAppend
import Derived.Laws.IdiomCopy
import Derived.OrdersHeld
import Derived.Laws.BitsLemmas
import Derived.RowKit
section
namespace Go.Proofs.YtolaiebjmhieiaaGreatDoor.OScan
open Go.RowKit Go.Proofs.YtolaiebjmhieiaaGreatDoorW.PrintWords Go.Proofs.YtolaiebjmhieiaaGreatDoorW.PrintLast Go.Proofs.YtolaiebjmhieiaaGreatDoorW.PrintMore
set_option linter.unusedVariables false
set_option linter.unusedSimpArgs false
set_option maxRecDepth 100000 in
theorem kw_apart : (List.range kwL.length).all (fun k => (kwL.take k).all (fun x => !(kwL.getD k ⟨#[]⟩ == x))) = true := by decide
set_option maxRecDepth 100000 in
theorem kw_len : kwL.length = 28 := by decide
set_option maxRecDepth 100000 in
theorem sg_len : sgL.length = 47 := by decide
def kwP (k : Nat) : AL := (kwL.take k).map fun t => (t, Value.bool true)
theorem kwP_put (k : Nat) (h : k < kwL.length) : alPut (kwP k) (kwL.getD k ⟨#[]⟩) (.bool true) = kwP (k + 1) := by
  rw [alPut_new]
  · unfold kwP
    rw [List.take_succ_eq_append_getElem h, List.map_append]
    simp [List.getD_eq_getElem?_getD, List.getElem?_eq_getElem h]
  · intro p hp
    have h1 := List.all_eq_true.1 kw_apart k (List.mem_range.2 h)
    obtain ⟨x, hx, rfl⟩ := List.mem_map.1 hp
    have := List.all_eq_true.1 h1 x hx
    simpa using this
theorem info95 : (Tryz.prog.info? 95).map (fun i => (i.zero, i.size, i.bytes)) = some (some (.agg #[(.int .i64 0), (.string ⟨#[]⟩), (.string ⟨#[]⟩), (.int .i64 0)]), 4, 48) := by kernel_rfl
theorem strC (W : World) (b : Nat) (l : List ByteArray) (ty : TypeId) (hb : W.heap[b]? = some (.cells (l.map Value.string).toArray ty)) (hl : l.length ≤ 9223372036854775807) : Kd.C Kd.string W (some ⟨b, 0, none⟩) l.length l := by
  refine ⟨rfl, hl, fun _ => ⟨_, rfl, fun j p hp => ⟨[.string p], rfl, rfl, fun i u hu => ?_⟩⟩⟩
  have hi : i = 0 := by
    rcases i with _ | i
    · rfl
    · simp at hu
  subst hi
  simp at hu
  subst hu
  rw [add_plain]
  refine (blk_cell hb _).trans ?_
  simp [Kd.string, Kd.scalar, hp]
theorem alloc_old {W : World} {i : Nat} {o x : Obj} (h : W.heap[i]? = some x) : (W.alloc o).heap[i]? = some x := (Below.heap_alloc W o i (heap_lt h)).trans h
theorem alloc_size (W : World) (o : Obj) : (W.alloc o).heap.size = W.heap.size + 1 := by simp
theorem alloc2_old (w : World) (o1 o2 : Obj) (i : Nat) (hi : i < w.heap.size) : ((w.alloc o1).alloc o2).heap[i]? = w.heap[i]? := (Below.heap_alloc _ _ _ (by rw [alloc_size]; omega)).trans (Below.heap_alloc _ _ _ hi)
theorem alloc_at {W : World} {o : Obj} {i : Nat} (h : i = W.heap.size) : (W.alloc o).heap[i]? = some o := by subst h; exact blk_new W o
theorem alloc4 (w : World) (o1 o2 o3 o4 : Obj) : ((((w.alloc o1).alloc o2).alloc o3).alloc o4).heap[w.heap.size]? = some o1 ∧ ((((w.alloc o1).alloc o2).alloc o3).alloc o4).heap[w.heap.size + 1]? = some o2 ∧
    ((((w.alloc o1).alloc o2).alloc o3).alloc o4).heap[w.heap.size + 1 + 1]? = some o3 ∧ ((((w.alloc o1).alloc o2).alloc o3).alloc o4).heap[w.heap.size + 1 + 1 + 1]? = some o4 ∧ ((((w.alloc o1).alloc o2).alloc o3).alloc o4).heap.size = w.heap.size + 1 + 1 + 1 + 1 := by
  refine ⟨alloc_old (alloc_old (alloc_old (alloc_at rfl))), alloc_old (alloc_old (alloc_at ?_)), alloc_old (alloc_at ?_), alloc_at ?_, ?_⟩ <;> simp only [alloc_size]
def kTk : Kd Tk := Kd.pair (Kd.int .i64) (Kd.pair Kd.string (Kd.pair Kd.string (Kd.int .i64)))
theorem set_other {W : World} {b i : Nat} {o : Obj} (h : i ≠ b) : (Go.ChangeMaps.setBlock W b o).heap[i]? = W.heap[i]? := (onlyAt_set W b o).block i h
theorem set_at {W : World} {b : Nat} {o : Obj} (h : b < W.heap.size) : (Go.ChangeMaps.setBlock W b o).heap[b]? = some o := by simp [Go.ChangeMaps.setBlock, h]
theorem KwMap.at_ {w w' : World} {v : Value} {kw : List ByteArray} (h : KwMap w v kw) (hb : Below w.heap.size w w') : KwMap w' v kw := by
  obtain ⟨b, es, clock, rfl, hm, he⟩ := h
  exact ⟨b, es, clock, rfl, (hb.block b (heap_lt hm)).trans hm, he⟩
theorem kTk_mkM (w : World) (base : Nat) (ok : Nat → Prop) (x : Tk) : kTk.M w base ok x [.int .i64 x.1, .string x.2.1, .string x.2.2.1, .int .i64 x.2.2.2] := ⟨[.int .i64 x.1], [.string x.2.1, .string x.2.2.1, .int .i64 x.2.2.2], rfl, rfl, ⟨[.string x.2.1], [.string x.2.2.1, .int .i64 x.2.2.2], rfl, rfl, ⟨[.string x.2.2.1], [.int .i64 x.2.2.2], rfl, rfl, rfl⟩⟩⟩
def scanR (s : ByteArray) : List Tk × Int :=
  if s.size > 200000 then ([], 2) else
  if (toksD kwL sgL s (s.size + 1) 0 true).length > 40000 then ([], 2) else (toksD kwL sgL s (s.size + 1) 0 true, 0)
set_option maxHeartbeats 8000000 in
set_option maxRecDepth 100000 in
theorem scan_long (s : ByteArray) (w : World) (hs : 200000 < s.size) (hs2 : s.size ≤ 140737488355328) :
    Calls Tryz.prog 40 #[.string s] w fun e w' => ∃ v, e = .returned (.tuple #[v, .int .i64 (scanR s).2]) ∧ Kd.R kTk 95 w' w.heap.size (fun _ => True) v (scanR s).1 ∧ Below w.heap.size w w' := by
  have hr : scanR s = ([], 2) := by unfold scanR; rw [if_pos hs]
  rw [hr]
  have hd : decide ((200000 : Int) < (s.size : Int)) = true := decide_eq_true (by omega)
  clear hr
  go_enter Tryz.func40, Tryz.ntmps40
  go_wp2
  go_ret2
  exact ⟨_, rfl, Kd.R_nil _ _ _ _ _, Below.refl _ _⟩
set_option maxHeartbeats 8000000 in
set_option maxRecDepth 100000 in
theorem scan_any (s : ByteArray) (w : World) (hG : Glob2 w) (hs : s.size ≤ 200000) :
    Calls Tryz.prog 40 #[.string s] w fun e w' => ∃ v, e = .returned (.tuple #[v, .int .i64 (scanR s).2]) ∧ Kd.R kTk 95 w' w.heap.size (fun _ => True) v (scanR s).1 ∧ Below w.heap.size w w' := by
  have hd : decide ((200000 : Int) < (s.size : Int)) = false := decide_eq_false (by omega)
  have hsL := sg_len
  have hkL := kw_len
  have HG := Aside0.mk hG
  clear hG
  have hmm : ∀ w, (Instr.makeMap 112 none).run Tryz.prog w = .ok (.map (some w.heap.size)) (w.alloc (.map #[] 0)) := fun _ => rfl
  go_enter Tryz.func40, Tryz.ntmps40
  go_wp2_with (first | (go_at_call 64; go_loud (refine (signs_any _ (HG.out.below (by exact below_alloc (Below.refl _ _) _))).mono ?_; rintro e w1 ⟨rfl, rfl⟩)) | (go_at_call 65; go_loud (refine (keys_any _ (HG.out.below (by repeat (first | exact Below.refl _ _ | apply below_alloc)))).mono ?_; rintro e w1 ⟨rfl, rfl⟩)))
  obtain ⟨W4, hW4⟩ : ∃ W4, (((w.alloc (Obj.map #[] 0)).alloc (Obj.cells (List.map Value.string sgL).toArray 9)).alloc (Obj.cells #[Value.string s, Value.int IntKind.i64 0, Value.map (some w.heap.size), Value.slice (some { block := w.heap.size + 1, off := 0 }) 47 47, Value.bool true] 125)).alloc (Obj.cells (List.map Value.string kwL).toArray 9) = W4 := ⟨_, rfl⟩
  rw [hW4]
  have h5 := alloc4 w (Obj.map #[] 0) (Obj.cells (List.map Value.string sgL).toArray 9) (Obj.cells #[Value.string s, Value.int IntKind.i64 0, Value.map (some w.heap.size), Value.slice (some { block := w.heap.size + 1, off := 0 }) 47 47, Value.bool true] 125) (Obj.cells (List.map Value.string kwL).toArray 9)
  rw [hW4] at h5
  obtain ⟨hHb, hHs, hHg, hHk, hS4'⟩ := h5
  have hB4 : Aside0 (Below w.heap.size w W4) := ⟨by rw [← hW4]; repeat (first | exact Below.refl _ _ | apply below_alloc)⟩
  have hS4 : Aside0 (W4.heap.size = w.heap.size + 1 + 1 + 1 + 1) := ⟨hS4'⟩
  clear hS4'
  have hM0 : Aside0 (MapIs W4 w.heap.size (kwP 0)) := ⟨⟨_, _, hHb, rfl⟩⟩
  have hbs : w.heap.size < w.heap.size + 1 := by omega
  have hsg : w.heap.size + 1 < w.heap.size + 1 + 1 := by omega
  have hgk : w.heap.size + 1 + 1 < w.heap.size + 1 + 1 + 1 := by omega
  have hWb : Aside0 (w.heap.size ≤ w.heap.size) := ⟨Nat.le_refl _⟩
  have HW0 : Aside0 (w.heap.size = w.heap.size) := ⟨rfl⟩
  obtain ⟨b, hb⟩ : ∃ b, Aside0 (w.heap.size = b) := ⟨_, ⟨rfl⟩⟩
  have hW4' := hW4
  clear hW4 hHb
  have hW4'' := Aside0.mk hW4'
  clear hW4'
  go_loopw [19] (fun i wr => ∃ k : Nat, Aside0 (k ≤ 28) ∧ i = .int .i64 k ∧ Aside0 (MapIs wr w.heap.size (kwP k)) ∧ Aside0 (OnlyAt W4 wr w.heap.size)) (fun i _ => 28 - (intOf i).toNat)
  case atStart => exact ⟨0, ⟨by omega⟩, rfl, hM0, ⟨OnlyAt.refl _ _⟩⟩
  case round =>
    obtain ⟨k, hk, rfl, hM, hO⟩ := hrel
    have hk' := hk.out
    have hcm : wr.cell? ⟨w.heap.size + 1 + 1, 2, none⟩ = some (.map (some w.heap.size)) := (hO.out.cell (a := ⟨w.heap.size + 1 + 1, 2, none⟩) (by show w.heap.size + 1 + 1 ≠ w.heap.size; omega)).trans ((blk_cell hHg 2).trans rfl)
    by_cases hlt : k < 28
    · have hkc : wr.cell? ⟨w.heap.size + 1 + 1 + 1, k, none⟩ = some (.string (kwL.getD k ⟨#[]⟩)) := by
        refine (hO.out.cell (a := ⟨w.heap.size + 1 + 1 + 1, k, none⟩) (by show w.heap.size + 1 + 1 + 1 ≠ w.heap.size; omega)).trans ((blk_cell hHk k).trans ?_)
        simp [List.getD_eq_getElem?_getD, List.getElem?_eq_getElem (show k < kwL.length by omega)]
      obtain ⟨wN, hrun, hMN, hON⟩ := hM.out.put (mt := 112) (e := 4) Tryz.underlying112 (kwL.getD k ⟨#[]⟩) (.bool true)
      rw [kwP_put k (by omega)] at hMN
      have HMN := Aside0.mk hMN
      have HON := Aside0.mk (hO.out.trans hON)
      clear hMN hON
      generalize kwL.getD k ⟨#[]⟩ = key at hkc hrun
      have hltI : decide ((k : Int) < 28) = true := decide_eq_true (by omega)
      go_wp2
      go_roundw
      case rel => exact ⟨k + 1, ⟨by omega⟩, by go_num, HMN, HON⟩
      case measure => simp [intOf]; omega
    · have hltI : decide ((k : Int) < 28) = false := decide_eq_false (by omega)
      go_wp2
      obtain rfl : k = 28 := by omega
      have hM1 := hM.out
      have hP : kwP 28 = kwL.map fun t => (t, Value.bool true) := by unfold kwP; rw [List.take_of_length_le (by omega)]
      rw [hP] at hM1
      have hO1 := hO.out
      obtain ⟨es, clock, hes, hel⟩ := hM1
      obtain ⟨w0, hw0⟩ : ∃ w0, Aside0 (Go.ChangeMaps.setBlock ((w.alloc (Obj.map #[] 0)).alloc (Obj.cells (List.map Value.string sgL).toArray 9)) w.heap.size (.map es clock) = w0) := ⟨_, ⟨rfl⟩⟩
      have hsz0' : w0.heap.size = w.heap.size + 1 + 1 := by rw [← hw0.out]; simp [Go.ChangeMaps.setBlock]
      have hsz0 : Aside0 (w0.heap.size = w.heap.size + 1 + 1) := ⟨hsz0'⟩
      have hb0 : w0.heap[w.heap.size]? = some (.map es clock) := by rw [← hw0.out]; exact set_at (by simp; omega)
      have hother : ∀ i, i < w.heap.size + 1 + 1 → i ≠ w.heap.size → w0.heap[i]? = W4.heap[i]? := by
        intro i hi hne
        rw [← hw0.out, set_other hne, ← hW4''.out]
        exact (alloc2_old _ _ _ i (by rw [alloc_size, alloc_size]; exact hi)).symm
      have hBs : Aside0 (Below w0.heap.size w0 wr) := ⟨by
        refine ⟨?_, ?_, ?_, ?_, ?_⟩
        · rw [hO1.os, ← hw0.out, ← hW4''.out]; rfl
        · rw [hO1.tape, ← hw0.out, ← hW4''.out]; rfl
        · rw [hO1.output, ← hw0.out, ← hW4''.out]; rfl
        · rw [hO1.size, hS4.out, hsz0']; omega
        · intro i hi
          rw [hsz0'] at hi
          by_cases hne : i = w.heap.size
          · subst hne; rw [hes, hb0]
          · rw [hO1.block i hne, hother i hi hne]⟩
      have hww : Aside0 (w.heap.size ≤ w0.heap.size) := ⟨by rw [hsz0']; omega⟩
      have hB0 : Below w.heap.size w w0 := by
        rw [← hw0.out]
        exact (onlyAt_set _ _ _).below (by repeat (first | exact Below.refl _ _ | apply below_alloc)) (Nat.le_refl _)
      have hB0' := Aside0.mk hB0
      have hG0 : Aside0 (Glob w0) := ⟨HG.out.1.below hB0⟩
      have hKw : Aside0 (KwMap w0 (.map (some w.heap.size)) kwL) := ⟨MapIs.kw ⟨es, clock, hb0, hel⟩⟩
      have hI0 : Aside0 (IsS125 w0 wr (w.heap.size + 1 + 1) s 0 (.map (some w.heap.size)) sgL true) := ⟨by
        refine ⟨some ⟨w.heap.size + 1, 0, none⟩, 47, ?_, by rw [hsz0']; exact Nat.le_refl _, ?_⟩
        · rw [hO1.block _ (by omega), hHg, hsL]
        · refine strC w0 _ _ 9 ?_ (by omega)
          rw [hother _ (by omega) (by omega), hHs]⟩
      clear hO1 hes hel hw0 hsz0' hb0 hother hB0 hHs hHg hHk hM hO hB4 hM0 hcm hmm
      go_loopg [7] (s.size + 1) (fun kq v7 w' => ∃ (l : List Tk) (at0 : Int) (c : Bool), Aside0 (toksD kwL sgL s (s.size + 1) 0 true = l ++ toksD kwL sgL s kq at0 c) ∧ Aside0 (0 ≤ at0 ∧ at0 ≤ s.size ∧ (s.size : Int) - at0 < kq) ∧ Aside0 (l.length ≤ 40000) ∧ Aside0 (Kd.R kTk 95 w' w0.heap.size (fun k => k ≠ w.heap.size + 1 + 1) v7 l) ∧ Aside0 (IsS125 w0 w' (w.heap.size + 1 + 1) s at0 (.map (some w.heap.size)) sgL c) ∧ Aside0 (Below w0.heap.size w0 w'))
      case atStart => exact ⟨[], 0, true, ⟨rfl⟩, ⟨by omega⟩, ⟨by simp⟩, ⟨Kd.R_nil _ _ _ _ _⟩, hI0, hBs⟩
      case round =>
        clear hI0 hBs
        obtain ⟨l, at0, c, hT, hat, hl, hR, hI, hB⟩ := hrel
        cases gk with
        | zero => have := hat.out; omega
        | succ k1 =>
          have H66 := token_any kwL sgL s at0 (.map (some w.heap.size)) c (w.heap.size + 1 + 1) w0 wr hI.out hB.out hG0.out (hKw.out.at_ hB.out) (by omega) hat.out.1 hat.out.2.1 (by omega)
          have hpl := tokD_place kwL sgL s at0 c (by omega) hat.out.1 hat.out.2.1 (by omega)
          have hT1 : toksD kwL sgL s (k1 + 1) at0 c = if (tokD kwL sgL s at0 c).1.1 = 0 then [(tokD kwL sgL s at0 c).1] else (tokD kwL sgL s at0 c).1 :: toksD kwL sgL s k1 (tokD kwL sgL s at0 c).2.1 (tokD kwL sgL s at0 c).2.2 := rfl
          have hT2 := hT.out
          rw [hT1] at hT2
          clear hT hT1
          generalize tokD kwL sgL s at0 c = r at *
          obtain ⟨⟨kd, bf, tx, a1⟩, at2, c2⟩ := r
          simp only [tkV] at H66 hpl hT2
          have HT := Aside0.mk hT2
          have HP := Aside0.mk hpl
          clear hT2 hpl
          have hgl : w.heap.size + 1 + 1 < wr.heap.size := hI.out.lt
          obtain ⟨bl, hbl⟩ : ∃ bl, Aside0 (decide ((40000 : Int) < ((l ++ [(kd, bf, tx, a1)]).length : Int)) = bl) := ⟨_, ⟨rfl⟩⟩
          obtain ⟨bk, hbk⟩ : ∃ bk, (kd == 0) = bk := ⟨_, rfl⟩
          cases bl <;> cases bk
          all_goals go_wp2_with (first | (go_at_call 66; go_loud (refine H66.mono ?_; rintro e w5 ⟨rfl, hi5, hb5, hk5⟩; have HI5 := Aside0.mk hi5; have HB5 := Aside0.mk hb5; have HR5 := Aside0.mk (Kd.R_keep hR.out hk5 (fun k hk => hk)); clear hi5 hb5 hk5)) | (at_builtin; go_loud (refine Kd.R_append kTk (w0 := w0) w0.heap.size rfl (.tmp 31) (.tmp 33) 52 95 (.agg #[(.int .i64 0), (.string ⟨#[]⟩), (.string ⟨#[]⟩), (.int .i64 0)]) 48 rfl Tryz.underlying52 info95 rfl (by decide) (by omega) u7 l (kd, bf, tx, a1) [.int .i64 kd, .string bf, .string tx, .int .i64 a1] (fun k => k ≠ w.heap.size + 1 + 1) (fun _ => False) rfl (by rw [alloc_size]; rfl) (kTk_mkM _ _ _ (kd, bf, tx, a1)) (fun _ hk => hk.elim) ?aF ?aO ?aB ?aS ?aL ?_; (case aF => intro k hk; have hh := HI5.out.lt; rw [alloc_size] at hk; omega); (case aO => exact Kd.R_alloc HR5.out _); (case aB => exact below_alloc HB5.out _); (case aS => exact below_size (below_alloc HB5.out _)); (case aL => rw [show (48 : Nat) = 48 from rfl]; have := hl.out; omega); intro v1 w6 ho hb6 hg6 _; have hT8 := (hg6.block w5.heap.size (by rw [alloc_size]; omega) (fun he => absurd ((Kd.R_bound HR5.out).1 _ he.symm).2.2.1 (Nat.lt_irrefl _))).trans (blk_new w5 _); have c8 := (blk_cell hT8 0).trans rfl; clear hT8; have HI6 := Aside0.mk ((HI5.out.alloc _).grown hg6 (fun he => HR5.out.1 _ he.symm rfl)); obtain ⟨ad, cp, rfl⟩ := Kd.R_slice1 ho (by simp); obtain ⟨ln, hln⟩ : ∃ ln, ln = (l ++ [(kd, bf, tx, a1)]).length := ⟨_, rfl⟩; rw [← hln]; rw [← hln] at ho; have hdl := hbl.out; rw [← hln] at hdl; have Hln := Aside0.mk hln; clear hln; have HR6 := Aside0.mk ho; have HB6 := Aside0.mk hb6; clear ho hb6 hg6)))
          · go_roundg k1
            case measure => omega
            case rel =>
              have h1 := HT.out
              have hk0 : kd ≠ 0 := by simpa using hbk
              rw [if_neg hk0] at h1
              have h2 := HP.out
              have h3 := h2.2.2.1 hk0
              have h4 := hat.out
              have h5 : ¬ (40000 : Int) < ((l ++ [(kd, bf, tx, a1)]).length : Int) := of_decide_eq_false hbl.out
              exact ⟨l ++ [(kd, bf, tx, a1)], at2, c2, ⟨by rw [h1]; simp⟩, ⟨by omega⟩, ⟨by omega⟩, ⟨HR6.out⟩, HI6, HB6⟩
          · go_ret2
            have h1 := HT.out
            have hk0 : kd = 0 := by simpa using hbk
            rw [if_pos hk0] at h1
            have h5 : ¬ (40000 : Int) < ((l ++ [(kd, bf, tx, a1)]).length : Int) := of_decide_eq_false hbl.out
            have hr : scanR s = (l ++ [(kd, bf, tx, a1)], 0) := by unfold scanR; rw [if_neg (by omega), h1, if_neg (by omega)]
            rw [hr]
            exact ⟨_, rfl, Kd.R_lower (Kd.R_mono HR6.out fun _ _ => trivial) hww.out, below_then hB0'.out hww.out HB6.out⟩
          all_goals
            go_ret2
            have h1 := HT.out
            have h5 : (40000 : Int) < ((l ++ [(kd, bf, tx, a1)]).length : Int) := of_decide_eq_true hbl.out
            have h6 : (l ++ [(kd, bf, tx, a1)]).length ≤ (toksD kwL sgL s (s.size + 1) 0 true).length := by
              rw [h1]; split <;> simp
            have hr : scanR s = ([], 2) := by unfold scanR; rw [if_neg (by omega), if_pos (by omega)]
            rw [hr]
            exact ⟨_, rfl, Kd.R_nil _ _ _ _ _, below_then hB0'.out hww.out HB6.out⟩
end Go.Proofs.YtolaiebjmhieiaaGreatDoor.OScan
end
section
namespace Go.Proofs.YtolaiebjmhieiaaGreatDoor.OScan
open Go.RowKit Go.Proofs.YtolaiebjmhieiaaGreatDoorW.PrintWords Go.Proofs.YtolaiebjmhieiaaGreatDoorW.PrintLast Go.Proofs.YtolaiebjmhieiaaGreatDoorW.PrintMore
set_option linter.unusedVariables false
set_option linter.unusedSimpArgs false
def wPlace (add : Int) (a : Int) : Int := wrap64 (wrap64 (a - 1) + add)
def wFrom (a : Int) : Int := wrap64 (wrap64 (a - 1) + 1)
def wordsGo (rec_ : ByteArray → Int → Option (List Tk)) (s : ByteArray) (add : Int) : List Tk → List Tk → Option (List Tk)
  | [], out => some out
  | t :: l, out =>
    if t.1 = 7 then
      if 0 ≤ wFrom t.2.2.2 ∧ wFrom t.2.2.2 ≤ s.size then (rec_ (s.extract (wFrom t.2.2.2).toNat s.size) (wrap64 (add + wFrom t.2.2.2))).bind fun r => if r.length ≤ 1000000 then some ((out ++ [(6, t.2.1, ⟨#[35]⟩, wPlace add t.2.2.2)]) ++ r) else none else none
    else wordsGo rec_ s add l (out ++ [(t.1, t.2.1, t.2.2.1, wPlace add t.2.2.2)])
def wordsF : Nat → ByteArray → Int → Option (List Tk)
  | 0, _, _ => none
  | k + 1, s, add =>
    let r := scanR (⟨#[40]⟩ ++ s)
    if r.2 = 0 then (if 2 ≤ r.1.length ∧ r.1.length ≤ 1000000 then wordsGo (wordsF k) s add ((r.1.take (r.1.length - 1)).drop 1) [] else none) else some []
theorem tk_at {w : World} {A : Option Addr} {n : Nat} {xs : List Tk} (h : Kd.C kTk w A n xs) (i : Nat) (h1 : i < n) (x : Tk) (hx : xs[i]? = some x) : ∃ ad, A = some ad ∧ w.cell? (ad.add (i * 4)) = some (.int .i64 x.1) ∧ w.cell? ⟨(ad.add (i * 4)).block, (ad.add (i * 4)).off + 1, none⟩ = some (.string x.2.1) ∧ w.cell? ⟨(ad.add (i * 4)).block, (ad.add (i * 4)).off + 2, none⟩ = some (.string x.2.2.1) ∧ w.cell? ⟨(ad.add (i * 4)).block, (ad.add (i * 4)).off + 3, none⟩ = some (.int .i64 x.2.2.2) := by
  obtain ⟨ad, c, e, _, hK, hc0⟩ := Kd.C_get h x i (by omega) (by omega)
  have hxi : xs.getD (i : Int).toNat x = x := by simp [List.getD_eq_getElem?_getD, hx]
  rw [hxi] at hK
  have hc : ∀ j u, c[j]? = some u → w.cell? (ad.add (i * 4 + j)) = some u := hc0
  obtain ⟨_, _, rfl, rfl, ⟨_, _, rfl, rfl, ⟨_, _, rfl, rfl, rfl⟩⟩⟩ := hK
  exact ⟨ad, e, hc 0 _ rfl, by rw [← add_field _ _ 1 (by omega)]; exact hc 1 _ rfl, by rw [← add_field _ _ 2 (by omega)]; exact hc 2 _ rfl, by rw [← add_field _ _ 3 (by omega)]; exact hc 3 _ rfl⟩
theorem scan_both (s : ByteArray) (w : World) (hG : Glob2 w) (hs : s.size ≤ 140737488355328) :
    Calls Tryz.prog 40 #[.string s] w fun e w' => ∃ v, e = .returned (.tuple #[v, .int .i64 (scanR s).2]) ∧ Kd.R kTk 95 w' w.heap.size (fun _ => True) v (scanR s).1 ∧ Below w.heap.size w w' := by
  by_cases hl : s.size ≤ 200000
  · exact scan_any s w hG hl
  · exact scan_long s w (by omega) hs
theorem info95' : ∃ i, Tryz.prog.info? 95 = some i ∧ i.size = 4 := by
  obtain ⟨i, hi, h⟩ := Option.map_eq_some_iff.1 info95
  simp only [Prod.mk.injEq] at h
  exact ⟨i, hi, h.2.1⟩
set_option maxHeartbeats 8000000 in
set_option maxRecDepth 100000 in
theorem words_any (k : Nat) : ∀ (s : ByteArray) (add : Int) (r : List Tk) (w : World), Glob2 w → s.size ≤ 140737488355000 → wordsF k s add = some r →
    Calls Tryz.prog 126 #[.string s, .int .i64 add] w fun e w' => ∃ v, e = .returned v ∧ Kd.R kTk 95 w' w.heap.size (fun _ => True) v r ∧ Below w.heap.size w w' := by
  induction k with
  | zero => intro s add r w hG hs h; simp [wordsF] at h
  | succ k ih =>
    intro s add r w hG hs h
    have hsz : (⟨#[40]⟩ ++ s : ByteArray).size = s.size + 1 := by rw [ByteArray.size_append]; have : (⟨#[40]⟩ : ByteArray).size = 1 := rfl; omega
    have H40 := scan_both (⟨#[40]⟩ ++ s) w hG (by omega)
    simp only [wordsF] at h
    generalize scanR (⟨#[40]⟩ ++ s) = sr at *
    obtain ⟨ys, er⟩ := sr
    simp only at H40 h
    have HG := Aside0.mk hG
    clear hG
    have q1 : 1 + s.size ≤ 9223372036854775807 := by omega
    have q2 : (9223372036854775807 < 1 + s.size) = False := eq_false (by omega)
    by_cases he : er = 0
    · rw [if_pos he] at h
      by_cases hl : 2 ≤ ys.length ∧ ys.length ≤ 1000000
      · rw [if_pos hl] at h
        have hE : (er != 0) = false := by simp [he]
        have hE2 : (er == 0) = true := by simp [he]
        have HR0 := Aside0.mk h
        clear h he
        have hzl : ((ys.take (ys.length - 1)).drop 1).length = ys.length - 1 - 1 := by rw [List.length_drop, List.length_take]; omega
        obtain ⟨zs, hzs⟩ : ∃ zs, Aside0 ((ys.take (ys.length - 1)).drop 1 = zs) := ⟨_, ⟨rfl⟩⟩
        rw [hzs.out] at hzl HR0
        have HZ := Aside0.mk hzl
        clear hzl
        have hn1 : wrap64 ((ys.length : Int) - 1) = (ys.length : Int) - 1 := wr (by omega) (by omega)
        have HW1 : Aside0 (∀ j : Nat, j ≤ 1000000 → wrap64 ((j : Int) + 1) = (j : Int) + 1) := ⟨fun j hj => wr (by omega) (by omega)⟩
        have hn2 : IntKind.i64.wrap ((ys.length : Int) - 1) = (ys.length : Int) - 1 := IntWalk.i64_in _ (by omega)
        go_enter Tryz.func126, Tryz.ntmps126
        go_wp2_with (go_at_call 40; go_loud (refine H40.mono ?_; rintro e w8 ⟨v, rfl, hR, hb⟩; obtain ⟨Ao, co, rfl⟩ := Kd.R_slice hR; have HR := Aside0.mk hR; have HB8 := Aside0.mk hb; clear hR hb; obtain ⟨i0, hi0, hi1⟩ := info95'; have hroom := (Kd.R_reads' HR.out).2.1; have hcut := cut_mid (P := Tryz.prog) 52 95 .i64 .i64 Tryz.underlying52 hi0 4 hi1 Ao ys.length co 1 ((ys.length : Int) - 1) (by omega) (by omega) (by omega) hroom; have hmid := Kd.C_mid (lo := 1) (hi := ys.length - 1) (c := co) (Kd.R_reads' HR.out).2.2 (by omega) (by omega) hroom; rw [hzs.out] at hmid; have e1 : ((ys.length : Int) - 1).toNat - (1 : Int).toNat = zs.length := (by first | (rw [HZ.out]; done) | (have h9 := HZ.out; omega)); rw [e1] at hcut; obtain ⟨A1, hA1⟩ : ∃ A1, A1 = (if co = (1 : Int).toNat then Ao else Ao.map (·.add ((1 : Int).toNat * 4))) := ⟨_, rfl⟩; rw [← hA1] at hcut; have HC := Aside0.mk (show Kd.C kTk w8 A1 zs.length zs from by rw [hA1]; exact hmid); obtain ⟨c1, hc1⟩ : ∃ c1, c1 = co - (1 : Int).toNat := ⟨_, rfl⟩; rw [← hc1] at hcut; clear hA1 hc1 hmid e1 hroom hi0 hi1))
        have HWW := Aside0.mk HB8.out.size
        have HG8 := Aside0.mk (HG.out.below HB8.out)
        clear hcut HR H40
        go_loopg [7, 26] zs.length (fun kq v7 v26 w' => ∃ (i : Nat) (out : List Tk), v26 = .int .i64 i ∧ Aside0 (kq + i = zs.length) ∧ Aside0 (wordsGo (wordsF k) s add (zs.drop i) out = some r) ∧ Aside0 (out.length = i) ∧ Aside0 (Kd.R kTk 95 w' w8.heap.size (fun _ => True) v7 out) ∧ Aside0 (Below w8.heap.size w8 w'))
        case atStart => exact ⟨0, [], rfl, ⟨rfl⟩, HR0, ⟨rfl⟩, ⟨Kd.R_nil _ _ _ _ _⟩, ⟨Below.refl _ _⟩⟩
        case round =>
          clear HR0
          obtain ⟨i, out, rfl, hki, HW, hol, hR, hB⟩ := hrel
          have hki' := hki.out
          cases gk with
          | zero =>
            have hlt : decide ((i : Int) < (zs.length : Int)) = false := decide_eq_false (by omega)
            have hn : zs.drop i = [] := List.drop_eq_nil_of_le (by omega)
            have H := HW.out
            rw [hn] at H
            simp only [wordsGo] at H
            obtain rfl := Option.some.inj H
            clear H hn
            go_wp2
            go_ret
            exact ⟨_, rfl, Kd.R_lower hR.out HWW.out, below_then HB8.out HWW.out hB.out⟩
          | succ g1 =>
            have hlt : decide ((i : Int) < (zs.length : Int)) = true := decide_eq_true (by omega)
            have hiz : i < zs.length := by omega
            obtain ⟨x, hx⟩ : ∃ x, zs[i]? = some x := ⟨_, List.getElem?_eq_getElem hiz⟩
            have hdr : zs.drop i = x :: zs.drop (i + 1) := by
              rw [List.drop_eq_getElem_cons hiz]
              rw [List.getElem?_eq_getElem hiz] at hx
              rw [Option.some.inj hx]
            have H := HW.out
            rw [hdr] at H
            obtain ⟨ad, rfl, hx0, hx1, hx2, hx3⟩ := tk_at HC.out i hiz x hx
            replace hx0 := (hB.out.cell (World.block_lt_of_cell? w8 _ hx0)).trans hx0
            replace hx1 := (hB.out.cell (World.block_lt_of_cell? w8 _ hx1)).trans hx1
            replace hx2 := (hB.out.cell (World.block_lt_of_cell? w8 _ hx2)).trans hx2
            replace hx3 := (hB.out.cell (World.block_lt_of_cell? w8 _ hx3)).trans hx3
            clear hx hdr
            obtain ⟨kd, bf, tx, a1⟩ := x
            simp only at hx0 hx1 hx2 hx3
            simp only [wordsGo] at H
            have hii : (0 : Int) ≤ (i : Int) := by omega
            by_cases hk : kd = 7
            · rw [if_pos hk] at H
              by_cases hf : 0 ≤ wFrom a1 ∧ wFrom a1 ≤ s.size
              · rw [if_pos hf] at H
                obtain ⟨r2, hr2, H⟩ := Option.bind_eq_some_iff.1 H
                by_cases hl2 : r2.length ≤ 1000000
                · rw [if_pos hl2] at H
                  obtain rfl := Option.some.inj H
                  have hsz2 : (s.extract (wFrom a1).toNat s.size).size ≤ 140737488355000 := by rw [ByteArray.size_extract]; omega
                  have hIH := Aside0.mk (fun w' hG' => ih _ _ r2 w' hG' hsz2 hr2)
                  have hkb : (kd == 7) = true := by simpa using hk
                  have p1 : (0 ≤ wrap64 (wrap64 (a1 - 1) + 1)) = True := eq_true hf.1
                  have p2 : (wrap64 (wrap64 (a1 - 1) + 1) ≤ (s.size : Int)) = True := eq_true hf.2
                  have p3 : decide (0 ≤ wrap64 (wrap64 (a1 - 1) + 1)) = true := decide_eq_true hf.1
                  have p4 : decide (wrap64 (wrap64 (a1 - 1) + 1) ≤ (s.size : Int)) = true := decide_eq_true hf.2
                  have HL2 := Aside0.mk hl2
                  clear H hk hf hr2 hl2
                  go_wp2_with (first | (at_builtin; go_loud (refine Kd.R_append kTk (w0 := w8) w8.heap.size rfl (.tmp 48) (.tmp 50) 52 95 (.agg #[(.int .i64 0), (.string ⟨#[]⟩), (.string ⟨#[]⟩), (.int .i64 0)]) 48 rfl Tryz.underlying52 info95 rfl (by decide) (by omega) u7 out (6, bf, ⟨#[35]⟩, wPlace add a1) [.int .i64 6, .string bf, .string ⟨#[35]⟩, .int .i64 (wPlace add a1)] (fun _ => True) (fun _ => False) rfl (by rw [alloc_size]; rfl) (kTk_mkM _ _ _ (6, bf, ⟨#[35]⟩, wPlace add a1)) (fun _ hk => hk.elim) (fun _ _ => trivial) ?aO ?aB ?aS ?aL ?_; (case aO => exact Kd.R_alloc hR.out _); (case aB => exact below_alloc hB.out _); (case aS => exact below_size (below_alloc hB.out _)); (case aL => have := hol.out; have h9 := HZ.out; omega); intro v1 w6 ho hb6 hg6 _; have HR6 := Aside0.mk ho; have HB6 := Aside0.mk hb6; clear ho hb6 hg6)) | (go_at_call 126; go_loud (refine (hIH.out _ (HG8.out.below HB6.out)).mono ?_; rintro e w9 ⟨v9, rfl, hr9, hb9⟩; obtain ⟨A9, c9, rfl⟩ := Kd.R_slice hr9; have HR9 := Aside0.mk hr9; have HR7 := Aside0.mk (Kd.R_below HR6.out hb9); have HB9 := Aside0.mk (below_step HB6.out hb9); clear hr9 hb9)) | (at_builtin; go_loud (refine Kd.R_append_rows kTk (w0 := w8) w8.heap.size rfl (.tmp 53) (.tmp 60) 52 95 (.agg #[(.int .i64 0), (.string ⟨#[]⟩), (.string ⟨#[]⟩), (.int .i64 0)]) 48 rfl Tryz.underlying52 info95 rfl (by decide) (by omega) v1 (out ++ [(6, bf, ⟨#[35]⟩, wPlace add a1)]) r2 A9 r2.length c9 (fun _ => True) (fun _ => False) rfl rfl HR7.out (Kd.R_reads' HR9.out).2.2 (fun _ _ h => h) (fun _ h => h.elim) (fun _ _ => trivial) HB9.out (below_size HB9.out) ?aL ?_; (case aL => have h9 := HZ.out; have h1 := hol.out; have h2 := HL2.out; rw [List.length_append]; simp only [List.length_cons, List.length_nil]; omega); intro v10 w10 ho hb10 hg10 _; have HR10 := Aside0.mk ho; have HB10 := Aside0.mk hb10; clear ho hb10 hg10)))
                  go_ret
                  exact ⟨_, rfl, Kd.R_lower HR10.out HWW.out, below_then HB8.out HWW.out HB10.out⟩
                · rw [if_neg hl2] at H; simp at H
              · rw [if_neg hf] at H; simp at H
            · rw [if_neg hk] at H
              have HN := Aside0.mk H
              have hkb : (kd == 7) = false := by simpa using hk
              clear H hk
              go_wp2_with (at_builtin; go_loud (refine Kd.R_append kTk (w0 := w8) w8.heap.size rfl (.tmp 48) (.tmp 50) 52 95 (.agg #[(.int .i64 0), (.string ⟨#[]⟩), (.string ⟨#[]⟩), (.int .i64 0)]) 48 rfl Tryz.underlying52 info95 rfl (by decide) (by omega) u7 out (kd, bf, tx, wPlace add a1) [.int .i64 kd, .string bf, .string tx, .int .i64 (wPlace add a1)] (fun _ => True) (fun _ => False) rfl (by rw [alloc_size]; rfl) (kTk_mkM _ _ _ (kd, bf, tx, wPlace add a1)) (fun _ hk => hk.elim) (fun _ _ => trivial) ?aO ?aB ?aS ?aL ?_; (case aO => exact Kd.R_alloc hR.out _); (case aB => exact below_alloc hB.out _); (case aS => exact below_size (below_alloc hB.out _)); (case aL => have := hol.out; have h9 := HZ.out; omega); intro v1 w6 ho hb6 hg6 _; have HR6 := Aside0.mk ho; have HB6 := Aside0.mk hb6; clear ho hb6 hg6))
              go_roundg g1
              case measure => first | omega | (have h9 := HZ.out; omega)
              case rel => exact ⟨i + 1, out ++ [(kd, bf, tx, wPlace add a1)], by (have h9 : (i:Int) + 1 ≤ 1000000 := (by have h8 := HZ.out; omega); rw [HW1.out i (by omega)]; first | rfl | (simp; done) | go_num), ⟨by omega⟩, HN, ⟨by simp [hol.out]⟩, HR6, HB6⟩
      · rw [if_neg hl] at h; simp at h
    · rw [if_neg he] at h
      obtain rfl := Option.some.inj h
      have hE : (er != 0) = true := by simp [he]
      have hE2 : (er == 0) = false := by simp [he]
      clear h he
      go_enter Tryz.func126, Tryz.ntmps126
      go_wp2_with (go_at_call 40; go_loud (refine H40.mono ?_; rintro e w8 ⟨v, rfl, hR, hb⟩; have HB8 := Aside0.mk hb; clear hR hb))
      go_ret
      exact ⟨_, rfl, Kd.R_nil _ _ _ _ _, HB8.out⟩
end Go.Proofs.YtolaiebjmhieiaaGreatDoor.OScan
end
section
namespace Go.Proofs.YtolaiebjmhieiaaGreatDoor.OCond
open Go.RowKit Go.Proofs.YtolaiebjmhieiaaGreatDoorW.PrintWords Go.Proofs.YtolaiebjmhieiaaGreatDoorW.PrintLast Go.Proofs.YtolaiebjmhieiaaGreatDoorW.PrintMore
attribute [local go_sem] max2_int min2_int max_two min_two max_three min_three max_four min_four
set_option linter.unusedVariables false
set_option linter.unusedSimpArgs false
def errW : Option Int → Value
  | none => .nilIface
  | some c => .iface 0 (.int .i64 c)
theorem errW_none : errW none = .nilIface := rfl
theorem errW_some (c : Int) : errW (some c) = .iface 0 (.int .i64 c) := rfl
theorem info9 : (Tryz.prog.info? 9).map (fun i => (i.zero, i.size, i.bytes)) = some (some (.string ⟨#[]⟩), 1, 16) := by kernel_rfl
structure S95 where
  f0 : Int
  f1 : ByteArray
  f2 : ByteArray
  f3 : Int
def z95 : S95 := ⟨(0 : Int), (⟨#[]⟩ : ByteArray), (⟨#[]⟩ : ByteArray), (0 : Int)⟩
def k95 : Kd S95 := Kd.iso (Kd.pair (Kd.int .i64) (Kd.pair Kd.string (Kd.pair Kd.string (Kd.int .i64)))) (fun x : S95 => (x.f0, x.f1, x.f2, x.f3))
theorem k95_open {w : World} {x : S95} {cs : List Value} (h : k95.K w x cs) : cs = [.int .i64 x.f0, .string x.f1, .string x.f2, .int .i64 x.f3] := by
  obtain ⟨_, _, rfl, rfl, ⟨_, _, rfl, rfl, ⟨_, _, rfl, rfl, rfl⟩⟩⟩ := h
  exact rfl
def rd_T95 (xs : List S95) (i : Int) : S95 := xs.getD i.toNat z95
theorem at_T95 {w : World} {A : Option Addr} {n : Nat} {xs : List S95} (h : Kd.C k95 w A n xs) (i : Int) (h0 : 0 ≤ i) (h1 : i < n) : ∃ ad , A = some ad ∧ w.cell? (ad.add (i.toNat * 4)) = some (.int .i64 (rd_T95 xs i).f0) ∧ w.cell? ⟨(ad.add (i.toNat * 4)).block, (ad.add (i.toNat * 4)).off + 1, none⟩ = some (.string (rd_T95 xs i).f1) ∧ w.cell? ⟨(ad.add (i.toNat * 4)).block, (ad.add (i.toNat * 4)).off + 2, none⟩ = some (.string (rd_T95 xs i).f2) ∧ w.cell? ⟨(ad.add (i.toNat * 4)).block, (ad.add (i.toNat * 4)).off + 3, none⟩ = some (.int .i64 (rd_T95 xs i).f3) := by
  obtain ⟨ad, c, e, _, hK, hc0⟩ := Kd.C_get h z95 i h0 h1
  have hc : ∀ j u, c[j]? = some u → w.cell? (ad.add (i.toNat * 4 + j)) = some u := hc0
  obtain rfl := k95_open hK
  exact ⟨ad, e, hc 0 _ rfl, by rw [← add_field _ _ 1 (by omega)]; exact hc 1 _ rfl, by rw [← add_field _ _ 2 (by omega)]; exact hc 2 _ rfl, by rw [← add_field _ _ 3 (by omega)]; exact hc 3 _ rfl⟩
end Go.Proofs.YtolaiebjmhieiaaGreatDoor.OCond
end
