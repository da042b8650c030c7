/- HeadOnce: for every list of files, every name and every list of places the law answers true, and all read behind the call as before; the listed tables are tied to the text of the program; no condition. Here: parts of its proof. -/
import Derived.Test.YtolaiebjmhieiaaGreatDoorM23
import Derived.Test.YtolaiebjmhieiaaGreatDoorM12
import Derived.Test.YtolaiebjmhieiaaGreatDoorM02
import Derived.Test.YtolaiebjmhieiaaGreatDoorM03
import Derived.Test.YtolaiebjmhieiaaGreatDoorProg
import Derived.Below
import Derived.Deep.Draws
import Derived.Deep.AppendLies
import Derived.Maps.AppendAt
import Derived.OwnWalk
import Derived.Laws.BytesArg
import Derived.Laws.MakeOwn
import Derived.Laws.OwnMore
import Derived.Deep.OwnRows
import Derived.Tactics
import Derived.Lib.ConvBytes
import Derived.Laws.Slices
import Derived.WalkKit
import Derived.KernelRfl
import Derived.RowKit3
import Derived.Deep.LoopGhost
import Derived.Deep.QuietTactic
import Derived.BigQuiet
import Derived.WideLaws
import Derived.Deep.DeepCutAuto
import Derived.Deep.CutBlock
import Derived.Deep.RegionHeld3
import Derived.Laws.Rows
import Derived.Lib.AppendStr
import Derived.ArgAppend
import Derived.Laws.IdiomCopy
import Derived.OrdersHeld
import Derived.Laws.BitsLemmas
import Derived.RowKit
section
namespace Go.Proofs.YtolaiebjmhieiaaGreatDoor.OScan
open Go.RowKit Go.Proofs.YtolaiebjmhieiaaGreatDoorW.PrintWords Go.Proofs.YtolaiebjmhieiaaGreatDoorW.PrintLast Go.Proofs.YtolaiebjmhieiaaGreatDoorW.PrintMore
set_option linter.unusedVariables false
set_option linter.unusedSimpArgs false
section
variable {W : World} {files : List Fl} {ps : List ByteArray} {A Ap : Option Addr} {c cp : Nat}
theorem R_far43 {w w' : World} {base : Nat} {v : Value} {xs : List Pr} (h : Kd.R kFl 43 w base (fun _ => True) v xs) (hk : ∀ (k : Nat) (cs : Array Value), w.heap[k]? = some (Obj.cells cs 43 (0, 0)) → w'.heap[k]? = w.heap[k]?) : Kd.R kFl 43 w' base (fun _ => True) v xs :=
  Kd.R_mono (Kd.R_step (Kd.R_bound h) (fun k ho _ => by
    obtain ⟨_, _, _, q, hq, cs, hc⟩ := ho
    obtain rfl : q = 43 := by
      rcases List.mem_cons.1 hq with h | h
      · exact h
      · exact absurd (show q ∈ ([] : List Nat) from h) (by simp)
    exact hk _ _ hc)) (fun _ _ => trivial)
theorem R_far34 {w w' : World} {base : Nat} {v : Value} {xs : List Us} (h : Kd.R kUs 34 w base (fun _ => True) v xs) (hk : ∀ (k : Nat) (cs : Array Value), w.heap[k]? = some (Obj.cells cs 34 (0, 0)) → w'.heap[k]? = w.heap[k]?) : Kd.R kUs 34 w' base (fun _ => True) v xs :=
  Kd.R_mono (Kd.R_step (Kd.R_bound h) (fun k ho _ => by
    obtain ⟨_, _, _, q, hq, cs, hc⟩ := ho
    obtain rfl : q = 34 := by
      rcases List.mem_cons.1 hq with h | h
      · exact h
      · exact absurd (show q ∈ ([] : List Nat) from h) (by simp)
    exact hk _ _ hc)) (fun _ _ => trivial)
theorem fsOf_in {l : List Us} {u : Us} (h : u ∈ l) (hne : u.2.2.toList ≠ []) : u.2.2 ∈ fsOf l := by
  induction l with
  | nil => simp at h
  | cons a l ih =>
    unfold fsOf
    rcases List.mem_cons.1 h with rfl | h
    · rw [if_neg hne]; exact List.mem_cons_self ..
    · split
      · exact ih h
      · exact List.mem_cons_of_mem _ (ih h)
def CirQ (W : World) (files : List Fl) (ps : List ByteArray) (e : Ending) (w' : World) : Prop :=
  ∃ (er : Int) (A : Option Addr) (c : Nat) (zs : List Pr), e = .returned (.tuple #[.slice A zs.length c, .int .i64 er]) ∧ Below W.heap.size W w' ∧ Kd.C kFl w' A zs.length zs ∧ zs.length ≤ c ∧ zs.length ≤ 1000000 ∧
    (er = 0 → ∃ m, openF files = (0, some m) ∧ (∀ f ∈ files, erN m f.1 = 0) ∧ ∀ f ∈ files, ∀ y ∈ gR m ps f.1, Graph.Reach (gR m ps) y f.1 → (f.1, y) ∈ zs)
theorem cirQ_err {er : Int} (he : er ≠ 0) {w' : World} (hb : Below W.heap.size W w') : CirQ W files ps (.returned (.tuple #[.slice none 0 0, .int .i64 er])) w' :=
  ⟨er, none, 0, [], rfl, hb, Kd.C_nil _ _, Nat.le_refl _, Nat.zero_le _, fun h => absurd h he⟩
set_option maxHeartbeats 4000000 in
set_option maxRecDepth 100000 in
theorem Circles_any (H : ArgsOK W files ps A Ap c cp) : Calls Tryz.prog 17 #[.slice A files.length c, .slice Ap ps.length cp] W (CirQ W files ps) := by
  have H31 := open_any files A c Ap ps.length cp W H.glob H.fc H.fl (by have := H.nfl; omega) (fun f hf => by have := (H.fsz f hf).1; omega)
  rcases openF_err files with ⟨h1, h2⟩ | ⟨m, hm⟩
  · obtain ⟨er, om⟩ : ∃ er, openF files = (er, none) := ⟨(openF files).1, by rw [← h1]⟩
    rw [om] at H31 h2
    simp only at h2
    have er0 : (er != 0) = true := by simp; omega
    have HER : Aside0 (er ≠ 0) := ⟨by omega⟩
    obtain ⟨n, hn⟩ : ∃ n, n = files.length := ⟨_, rfl⟩
    obtain ⟨np, hnp⟩ : ∃ np, np = ps.length := ⟨_, rfl⟩
    rw [← hn, ← hnp] at H31
    rw [← hn, ← hnp]
    clear H h1 h2 om hn hnp
    go_enter Tryz.func17, Tryz.ntmps17
    go_wp2_with (go_at_call 31; go_loud (refine H31.mono ?_; rintro e w5 ⟨rfl, hb5⟩; have HB5 := Aside0.mk hb5; clear hb5))
    go_ret2
    exact cirQ_err HER.out HB5.out
  · rw [hm] at H31
    have hmm : ∀ w, (Instr.makeMap 66 none).run Tryz.prog w = .ok (.map (some w.heap.size)) (w.alloc (.map #[] 0)) := fun _ => rfl
    have HGET := Aside0.mk (open_get hm).2
    have HENV := Aside0.mk (fun (PB fm cm : Nat) => H.env hm PB fm cm)
    have HPN := Aside0.mk (fun (PB fm cm : Nat) (W' : World) hP hb => ps_of_new (W := W) (ps := ps) (Ap := Ap) (cp := cp) (m := m) (PB := PB) (fm := fm) (cm := cm) (W' := W') hP hb)
    have HRD := Aside0.mk (fun (PB fm cm : Nat) (w : World) (n : ByteArray) (hn : (alGet m n).isSome = true) P => read_any m ps Ap cp PB fm cm W w n (H.envOK hm) hn P)
    have HUL := Aside0.mk (fun n => usR_len m ps n (H.text hm n))
    have HFC := Aside0.mk H.fc
    have HNF := Aside0.mk H.nfl
    have HM := Aside0.mk hm
    obtain ⟨n, hn⟩ : ∃ n, n = files.length := ⟨_, rfl⟩
    obtain ⟨np, hnp⟩ : ∃ np, np = ps.length := ⟨_, rfl⟩
    rw [← hn, ← hnp] at H31
    rw [← hn] at HFC HNF
    rw [← hnp] at HENV HPN HRD
    rw [← hn, ← hnp]
    have HN := Aside0.mk hn
    clear H hn hnp hm
    have hn61 := HNF.out
    go_enter Tryz.func17, Tryz.ntmps17
    go_wp2_with (go_at_call 31; go_loud (refine H31.mono ?_; rintro e w5 ⟨⟨PB, fm, cm, rfl, hP⟩, hb5⟩; have HP5 := Aside0.mk (HPN.out PB fm cm w5 hP hb5); clear hP hb5))
    obtain ⟨mp, hmp⟩ : ∃ mp, mp = w5.heap.size := ⟨_, rfl⟩
    obtain ⟨W6, hW6⟩ : ∃ W6, W6 = w5.alloc (Obj.map #[] 0) := ⟨_, rfl⟩
    rw [← hmp, ← hW6]
    have HC6 : Aside0 (CW (usR m ps) (erN m) (gR m ps) W m (.slice Ap np cp) PB fm cm mp [] [] W6) := ⟨by
      obtain ⟨c', hP', _⟩ := HP5.out.prj
      have h1 := hP'.hm.lt
      have h2 := hP'.hc.lt
      have h3 := HP5.out.below.size
      refine ⟨by rw [hW6]; exact HP5.out.step (below_alloc (Below.refl _ _) _), ⟨_, _, by rw [hW6, hmp]; exact blk_new _ _, rfl⟩, by omega, by omega, by omega, fun f hf => by simp at hf⟩⟩
    clear hmp hW6 H31
    go_loopg [30] n (fun kq v30 w' => ∃ (i : Nat) (al : AL), v30 = .int .i64 i ∧ Aside0 (kq + i = n) ∧ Aside0 (CW (usR m ps) (erN m) (gR m ps) W m (.slice Ap np cp) PB fm cm mp al (files.take i) w'))
    case atStart => exact ⟨0, [], rfl, ⟨rfl⟩, HC6⟩
    case round =>
      clear HC6 HP5
      obtain ⟨i, al, rfl, hki, hC⟩ := hrel
      have hki' := hki.out
      cases gk with
      | zero =>
        have hlt : decide ((i : Int) < (n : Int)) = false := decide_eq_false (by omega)
        have HCA : Aside0 (CW (usR m ps) (erN m) (gR m ps) W m (.slice Ap np cp) PB fm cm mp al files wr) := ⟨by
          have := hC.out
          rw [List.take_of_length_le (by rw [← HN.out]; omega)] at this
          exact this⟩
        obtain rfl : n = i := by omega
        clear hC hki hki'
        go_wp2_with (fail)
        have hmf : ∀ (fn : Fn) (first cap : Array Value) (w : World), (Instr.makeFunc fn first cap).run Tryz.prog w = .ok (.func fn first cap) w := fun _ _ _ _ => rfl
        obtain ⟨wa, hwa⟩ : ∃ wa, wa = wr := ⟨_, rfl⟩
        subst hwa
        go_loopg [13, 51] n (fun kq v13 v51 w' => ∃ (i : Nat) (xs : List Pr), v51 = .int .i64 i ∧ Aside0 (kq + i = n) ∧ Aside0 (xs.length ≤ i * 4001) ∧ Aside0 (Kd.R kFl 43 w' W.heap.size (fun _ => True) v13 xs) ∧ Aside0 (CW (usR m ps) (erN m) (gR m ps) W m (.slice Ap np cp) PB fm cm mp al files w') ∧ Aside0 (∀ f ∈ files.take i, ∀ y ∈ gR m ps f.1, Graph.Reach (gR m ps) y f.1 → (f.1, y) ∈ xs))
        case atStart => exact ⟨0, [], rfl, ⟨rfl⟩, ⟨by simp⟩, ⟨Kd.R_nil _ _ _ _ _⟩, HCA, ⟨fun f hf => by simp at hf⟩⟩
        case round =>
          clear HCA
          obtain ⟨i, xs, rfl, hki, hxl, hR, hC, hX⟩ := hrel
          have hki' := hki.out
          cases gk with
          | zero =>
            have hlt : decide ((i : Int) < (n : Int)) = false := decide_eq_false (by omega)
            have H32 := sortP_own xs W.heap.size u13 wr (ownP_of_R hR.out) (by have := hxl.out; omega)
            go_wp2_with (first | (go_at_call 32; go_loud (refine H32.mono ?_; rintro e w9 ⟨rfl, ys, hp9, ho9, hf9⟩; have hl9 := hp9.length_eq; have H36 := compactP_own ys W.heap.size u13 w9 ho9 (by have := hxl.out; omega); have HQ := Aside0.mk (And.intro hp9 hf9); have HL9 := Aside0.mk hl9; clear hp9 ho9 hf9 hl9)) | (go_at_call 36; go_loud (refine H36.mono ?_; rintro e w8 ⟨A8, c8, zs, rfl, hc8, h81, h82, h83, hf8⟩; have HZ := Aside0.mk (And.intro hc8 (And.intro h81 (And.intro h82 (And.intro h83 hf8)))); clear hc8 h81 h82 h83 hf8)))
            go_ret2
            obtain ⟨q1, q2, q3, q4, q5⟩ := HZ.out
            have hl9 := HL9.out
            have hx9 := hxl.out
            refine ⟨0, A8, c8, zs, rfl, q5.below (HQ.out.2.below hC.out.ps.below), q1, q2, by omega, fun _ => ⟨m, HM.out, fun f hf => (hC.out.rows f hf).1, fun f hf y hy hr => q4 _ (HQ.out.1.mem_iff.2 (hX.out f ?_ y hy hr))⟩⟩
            rw [List.take_of_length_le (by rw [← HN.out]; omega)]
            exact hf
          | succ g1 =>
            have hlt : decide ((i : Int) < (n : Int)) = true := decide_eq_true (by omega)
            have hii : (0 : Int) ≤ (i : Int) := by omega
            obtain ⟨x, hx⟩ : ∃ x, files[i]? = some x := ⟨_, List.getElem?_eq_getElem (by rw [← HN.out]; omega)⟩
            obtain ⟨ad, hAd, hx0, hx1⟩ := fl_at (Kd.C_below HFC.out hC.out.ps.below) i (by omega) x hx
            obtain rfl := hAd
            have htk := take_snoc files i x hx
            have hxm := List.mem_of_getElem? hx
            obtain ⟨f1, f2⟩ := x
            simp only at hx0 hx1
            have hB4 := below_alloc (Below.refl wr.heap.size wr) (Obj.cells #[Value.string f1, Value.string f2] 46)
            have H21 := HRD.out PB fm cm _ f1 (HGET.out _ hxm) (hC.out.ps.step hB4)
            have HTK := Aside0.mk htk
            have HB4 := Aside0.mk hB4
            have HNW : Aside0 ((wr.alloc (Obj.cells #[Value.string f1, Value.string f2] 46)).heap[wr.heap.size]? = some (.cells #[Value.string f1, Value.string f2] 46 (0, 0)) ∧ wr.heap.size ≠ cm) := ⟨blk_new _ _, by obtain ⟨c', hP', _⟩ := hC.out.ps.prj; have := hP'.hc.lt; omega⟩
            have HXM := Aside0.mk hxm
            have hul := HUL.out f1
            obtain ⟨l, hlus⟩ : ∃ l, l = usR m ps f1 := ⟨_, rfl⟩
            rw [← hlus] at H21 hul
            have HUS := Aside0.mk hlus
            obtain ⟨L, hL⟩ : ∃ L, L = l.length := ⟨_, rfl⟩
            rw [← hL] at hul
            have HLE := Aside0.mk hL
            clear hx htk hxm hB4 hlus hL
            go_wp2_with (go_at_call 21; go_loud (refine H21.mono ?_; rintro e w6 ⟨rb, rfl, hrd, hps, hsz, hkp⟩; obtain ⟨vl, vu, hrb, hus⟩ := hrd.2; obtain ⟨Au, cu, rfl⟩ := Kd.R_slice hus; rw [← HLE.out] at hrb hus; have r1 : w6.cell? ⟨rb, 1, none⟩ = some (.slice Au L cu) := (by have := cell_of_row _ rb 1 _ _ _ hrb; simpa using this); have HCW := Aside0.mk ((hC.out.step HB4.out).read hps hkp); have HR6 := Aside0.mk (R_far43 (Kd.R_below hR.out HB4.out) (fun k cs hc => hkp k (blk_lt hc) ((hC.out.step HB4.out).ps.cell_ne hc (by decide)).2.2)); have HN6 : Aside0 (w6.heap[wr.heap.size]? = some (.cells #[Value.string f1, Value.string f2] 46 (0, 0))) := ⟨(hkp _ (blk_lt HNW.out.1) HNW.out.2).trans HNW.out.1⟩; have HU6 := Aside0.mk hus; clear hrd hps hsz hkp hrb hus))
            obtain ⟨FB, hFB⟩ : ∃ FB, FB = wr.heap.size := ⟨_, rfl⟩
            rw [← hFB] at HN6 ⊢
            have hX0 := hX
            have hxl0 := hxl
            clear hFB HNW HB4 hR hC hx0 hx1 r1 H21 hX hxl
            obtain ⟨i2, hi2⟩ : ∃ i2, i2 = i * 4001 := ⟨_, rfl⟩
            rw [← hi2] at hxl0
            have HI2 := Aside0.mk hi2
            clear hi2
            go_loopg [13, 63] L (fun kq v13 v63 w' => ∃ (j : Nat) (xs1 : List Pr), v63 = .int .i64 j ∧ Aside0 (kq + j = L) ∧ Aside0 (xs1.length ≤ i2 + j) ∧ Aside0 (Kd.R kFl 43 w' W.heap.size (fun _ => True) v13 xs1) ∧ Aside0 (CW (usR m ps) (erN m) (gR m ps) W m (.slice Ap np cp) PB fm cm mp al files w') ∧ Aside0 (∀ f ∈ files.take i, ∀ y ∈ gR m ps f.1, Graph.Reach (gR m ps) y f.1 → (f.1, y) ∈ xs1) ∧ Aside0 (∀ u ∈ l.take j, u.2.2.toList ≠ [] → Graph.Reach (gR m ps) u.2.2 f1 → (f1, u.2.2) ∈ xs1) ∧ Aside0 (w'.heap[FB]? = some (.cells #[Value.string f1, Value.string f2] 46 (0, 0))) ∧ Aside0 (Kd.R kUs 34 w' W.heap.size (fun _ => True) (.slice Au L cu) l))
            case atStart => exact ⟨0, xs, rfl, ⟨rfl⟩, ⟨by have := hxl0.out; omega⟩, HR6, HCW, hX0, ⟨fun u hu => by simp at hu⟩, HN6, HU6⟩
            case round =>
              clear HR6 HCW hX0 HN6 HU6 hxl0
              obtain ⟨j, xs1, rfl, hkj, hxl, hR, hC, hX, hY, hNB, hU⟩ := hrel
              have hkj' := hkj.out
              cases gk with
              | zero =>
                have hlt : decide ((j : Int) < (L : Int)) = false := decide_eq_false (by omega)
                go_wp2_with (fail)
                go_roundg g1
                case measure => omega
                case rel =>
                  refine ⟨i + 1, xs1, (by (try simp)), ⟨by omega⟩, ⟨by have h1 := hxl.out; have h2 := HI2.out; omega⟩, hR, hC, ⟨fun f hf y hy hr => ?_⟩⟩
                  rw [HTK.out] at hf
                  rcases List.mem_append.1 hf with hf | hf
                  · exact hX.out f hf y hy hr
                  · obtain rfl := List.mem_singleton.1 hf
                    obtain ⟨u, hu, huy, hune⟩ := fsOf_mem hy
                    have hu' : u ∈ l.take j := by rw [List.take_of_length_le (by rw [← HLE.out]; omega), HUS.out]; exact hu
                    have := hY.out u hu' (by rw [huy]; exact hune) (by rw [huy]; exact hr)
                    rw [huy] at this
                    exact this
              | succ g2 =>
                have hlt : decide ((j : Int) < (L : Int)) = true := decide_eq_true (by omega)
                have hjj : (0 : Int) ≤ (j : Int) := by omega
                obtain ⟨x, hx⟩ : ∃ x, l[j]? = some x := ⟨_, List.getElem?_eq_getElem (by rw [← HLE.out]; omega)⟩
                obtain ⟨ad2, hAd2, hx0, hx1, hx2⟩ := us_at (Kd.R_reads' hU.out).2.2 j (by rw [← HLE.out]; omega) x hx
                obtain rfl := hAd2
                have htk := take_snoc l j x hx
                have hxm := List.mem_of_getElem? hx
                obtain ⟨un, uq, uf⟩ := x
                simp only at hx0 hx1 hx2
                have hB8 := below_alloc (Below.refl wr.heap.size wr) (Obj.cells #[Value.string un, Value.bool uq, Value.string uf] 34)
                have C8 := hC.out.step hB8
                have HT2 := Aside0.mk htk
                have HB8 := Aside0.mk hB8
                by_cases huf : uf.toList = []
                · have e1 : (uf.toList == ([] : List UInt8)) = true := by rw [huf]; rfl
                  have HUF := Aside0.mk huf
                  clear hx hxm htk hB8 C8 huf
                  go_wp2_with (fail)
                  obtain ⟨We, hWe⟩ : ∃ We, We = wr.alloc (Obj.cells #[Value.string un, Value.bool uq, Value.string uf] 34) := ⟨_, rfl⟩
                  rw [← hWe] at HB8 ⊢
                  clear hWe
                  go_roundg g2
                  case measure => omega
                  case rel =>
                    refine ⟨j + 1, xs1, (by (try simp)), ⟨by omega⟩, ⟨by have := hxl.out; omega⟩, ⟨R_far43 hR.out (fun k cs hc => HB8.out.block k (blk_lt hc))⟩, ⟨hC.out.step HB8.out⟩, hX, ⟨fun u hu hne hr => ?_⟩, ⟨(HB8.out.block _ (blk_lt hNB.out)).trans hNB.out⟩, ⟨R_far34 hU.out (fun k cs hc => HB8.out.block k (blk_lt hc))⟩⟩
                    rw [HT2.out] at hu
                    rcases List.mem_append.1 hu with hu | hu
                    · exact hY.out u hu hne hr
                    · rw [List.mem_singleton.1 hu] at hne
                      exact absurd HUF.out hne
                · have e1 : (uf.toList == ([] : List UInt8)) = false := beq_eq_false_iff_ne.mpr huf
                  obtain ⟨fu, hfu, hfn⟩ : ∃ fu ∈ files, fu.1 = uf := by
                    have h0 : (un, uq, uf) ∈ usR m ps f1 := by rw [← HUS.out]; exact hxm
                    have h1 : uf ∈ files.map (·.1) := (HENV.out PB fm cm).in_ f1 uf (fsOf_in h0 huf)
                    obtain ⟨fu, h2, h3⟩ := List.mem_map.1 h1
                    exact ⟨fu, h2, h3⟩
                  obtain ⟨_, ou, vu, hau, hFu, hRu, hlu⟩ := C8.rows fu hfu
                  rw [hfn] at hau hFu
                  obtain ⟨Ao, co, rfl⟩ := Kd.R_slice hRu
                  have hlk := C8.map.get Tryz.underlying66 uf (.slice none 0 0) (fun _ => rfl)
                  rw [hau] at hlk
                  simp only [Option.getD_some] at hlk
                  obtain ⟨bb, hbb, hbi⟩ := contains_tot ou f1 (ou.length + 1) (by omega) (by omega)
                  have hRu' := Kd.R_reads' hRu
                  have H28 := OCond.slices_Contains_string_string.calls (ou.length + 1) Ao co ou f1 bb _ hRu'.2.2 hRu'.2.1 hbb
                  have n8 : (wr.alloc (Obj.cells #[Value.string un, Value.bool uq, Value.string uf] 34)).cell? ⟨FB, 0, none⟩ = some (.string f1) := by have := cell_of_row _ FB 0 _ _ _ (blk_alloc hNB.out (Obj.cells #[Value.string un, Value.bool uq, Value.string uf] 34)); simpa using this
                  have HFU := Aside0.mk (And.intro hFu hbi)
                  have HC8 := Aside0.mk C8
                  have HU8 := Aside0.mk (blk_new wr (Obj.cells #[Value.string un, Value.bool uq, Value.string uf] 34))
                  have HNE := Aside0.mk huf
                  clear hx hxm htk hB8 C8 huf hFu hbi hRu' hRu hlu hau hfu hfn hbb
                  go_wp2_with (first | (go_at_call 28; go_loud (refine H28.mono ?_; rintro e w9 ⟨rfl, hd9⟩; have hb9 := hd9.below; have hF9 := (hb9.block FB (blk_lt (blk_alloc hNB.out _))).trans (blk_alloc hNB.out (Obj.cells #[Value.string un, Value.bool uq, Value.string uf] 34)); have hU9 := (hb9.block wr.heap.size (blk_lt HU8.out)).trans HU8.out; have c91 : w9.cell? ⟨FB, 0, none⟩ = some (.string f1) := (by have := cell_of_row _ FB 0 _ _ _ hF9; simpa using this); have c92 : w9.cell? ⟨wr.heap.size, 2, none⟩ = some (.string uf) := (by have := cell_of_row _ wr.heap.size 2 _ _ _ hU9; simpa using this); have HR9 := Aside0.mk (R_far43 hR.out (fun k cs hc => (hb9.block k (Nat.lt_of_lt_of_le (blk_lt hc) HB8.out.size)).trans (HB8.out.block k (blk_lt hc)))); have HUU9 := Aside0.mk (R_far34 hU.out (fun k cs hc => (hb9.block k (Nat.lt_of_lt_of_le (blk_lt hc) HB8.out.size)).trans (HB8.out.block k (blk_lt hc)))); have HC9 := Aside0.mk (HC8.out.step hb9); have HF9 := Aside0.mk hF9; clear hd9 hb9 hF9 hU9)) | (at_builtin; go_loud (refine Kd.R_append kFl (w0 := W) (W := w9) W.heap.size rfl (.tmp 79) (.tmp 85) 40 43 (.agg #[(.string ⟨#[]⟩), (.string ⟨#[]⟩)]) 32 rfl Tryz.underlying40 info43 rfl (by decide) (by omega) u13 xs1 (f1, uf) [.string f1, .string uf] (fun _ => True) (fun _ => False) rfl rfl ⟨[.string f1], [.string uf], rfl, rfl, rfl⟩ (fun _ hk => hk.elim) (fun _ _ => trivial) HR9.out HC9.out.ps.below HC9.out.ps.below.size ?aL ?_; (case aL => have h1 := hxl.out; have h2 := HI2.out; omega); intro v1 wb ho hbb hgb hatb; have HOb := Aside0.mk ho; have HGb := Aside0.mk (And.intro hbb (And.intro hgb hatb)); clear ho hbb hgb hatb)))
                  · go_roundg g2
                    case measure => omega
                    case rel =>
                      obtain ⟨q1, q2, q3⟩ := HGb.out
                      have hty := Kd.R_typed HR9.out
                      have far : ∀ {k t : Nat} {cs : Array Value}, w9.heap[k]? = some (.cells cs t (0, 0)) → t ≠ 43 → wb.heap[k]? = w9.heap[k]? := fun {k t cs} h ht => q2.block k (blk_lt h) (Kd.R_ne HR9.out h (by omega))
                      refine ⟨j + 1, xs1 ++ [(f1, uf)], (by (try simp)), ⟨by omega⟩, ⟨by rw [List.length_append, List.length_singleton]; have := hxl.out; omega⟩, HOb, ⟨HC9.out.step43 q1 (fun k hk hn => q2.block k hk (fun e => ?_))⟩, ⟨fun f hf y hy hr => List.mem_append_left _ (hX.out f hf y hy hr)⟩, ⟨fun u hu hne hr => ?_⟩, ⟨(far HF9.out (by decide)).trans HF9.out⟩, ⟨R_far34 HUU9.out (fun k cs hc => far hc (by decide))⟩⟩
                      · obtain ⟨cs, hc⟩ := hty k e.symm
                        exact hn cs hc
                      · rw [HT2.out] at hu
                        rcases List.mem_append.1 hu with hu | hu
                        · exact List.mem_append_left _ (hY.out u hu hne hr)
                        · rw [List.mem_singleton.1 hu]
                          exact List.mem_append_right _ (List.mem_singleton.2 rfl)
                  · rename_i hbt
                    go_roundg g2
                    case measure => omega
                    case rel =>
                      refine ⟨j + 1, xs1, (by (try simp)), ⟨by omega⟩, ⟨by have := hxl.out; omega⟩, HR9, HC9, hX, ⟨fun u hu hne hr => ?_⟩, HF9, HUU9⟩
                      rw [HT2.out] at hu
                      rcases List.mem_append.1 hu with hu | hu
                      · exact hY.out u hu hne hr
                      · rw [List.mem_singleton.1 hu] at hr
                        have := HFU.out.2.2 ((HFU.out.1.mem f1).2 hr)
                        rw [this] at hbt
                        exact absurd hbt (by decide)
      | succ g1 =>
        have hlt : decide ((i : Int) < (n : Int)) = true := decide_eq_true (by omega)
        have hii : (0 : Int) ≤ (i : Int) := by omega
        obtain ⟨x, hx⟩ : ∃ x, files[i]? = some x := ⟨_, List.getElem?_eq_getElem (by rw [← HN.out]; omega)⟩
        obtain ⟨ad, hAd, hx0, hx1⟩ := fl_at (Kd.C_below HFC.out hC.out.ps.below) i (by omega) x hx
        obtain rfl := hAd
        have htk := take_snoc files i x hx
        have hxm := List.mem_of_getElem? hx
        obtain ⟨f1, f2⟩ := x
        simp only at hx0 hx1
        have hB4 := below_alloc (Below.refl wr.heap.size wr) (Obj.cells #[Value.string f1, Value.string f2] 46)
        have H26 := all_any (HENV.out PB fm cm) f1 _ (HGET.out _ hxm) (hC.out.ps.step hB4)
        have HTK := Aside0.mk htk
        have HB4 := Aside0.mk hB4
        have HNW : Aside0 ((wr.alloc (Obj.cells #[Value.string f1, Value.string f2] 46)).heap[wr.heap.size]? = some (.cells #[Value.string f1, Value.string f2] 46 (0, 0)) ∧ wr.heap.size ≠ cm) := ⟨blk_new _ _, by obtain ⟨c', hP', _⟩ := hC.out.ps.prj; have := hP'.hc.lt; omega⟩
        have HXM := Aside0.mk hxm
        clear hx htk hxm hB4
        go_wp2_with (go_at_call 26; go_loud (refine H26.mono ?_; rintro e w6 ⟨er6, met6, out6, v6, rfl, hw6, hr6, hp6, hs6, hk6⟩; obtain ⟨o6, ho6⟩ : ∃ o6, o6 = (if er6 = 0 then out6 else []) := ⟨_, rfl⟩; rw [← ho6] at hr6; have HO6 := Aside0.mk ho6; clear ho6; obtain ⟨A6, c6, rfl⟩ := Kd.R_slice hr6; have hc6 : w6.cell? ⟨wr.heap.size, 0, none⟩ = some (.string f1) := (by have := cell_of_row _ _ 0 _ _ _ ((hk6 wr.heap.size (blk_lt HNW.out.1) HNW.out.2).trans HNW.out.1); simpa using this); have HCW := Aside0.mk ((hC.out.step HB4.out).read hp6 hk6); obtain ⟨w7, hrun7, hM7, hO7⟩ := HCW.out.map.put (mt := 66) (e := 23) Tryz.underlying66 f1 (.slice A6 o6.length c6); have HX6 := Aside0.mk (And.intro hw6 (And.intro hr6 (And.intro hM7 (And.intro hO7 hs6)))); clear hw6 hr6 hp6 hs6 hk6 hM7 hO7))
        · rename_i h5
          have h5' : er6 ≠ 0 := by simpa using h5
          go_ret2
          exact cirQ_err h5' HCW.out.ps.below
        · rename_i h5
          have h5' : er6 = 0 := by simpa using h5
          subst h5'
          go_roundg g1
          case measure => omega
          case rel =>
            obtain ⟨q1, q2, q3, q4, q5⟩ := HX6.out
            have ho : o6 = out6 := by rw [HO6.out, if_pos rfl]
            have hFd := Graph.found_of_walk (erN m) (gR m ps) q1
            have hroot : f1 ∈ out6 := (hFd.mem f1).2 (.refl _)
            have hlen := (Graph.walk_len (erN m) (fun n => fsOf (usR m ps n)) (HENV.out PB fm cm).in_ _ _ _ _ _ _ q1 ((HENV.out PB fm cm).nm f1 (HGET.out _ HXM.out))).2
            have hl2 := left_le (files.map (·.1)) []
            have hl3 := (HENV.out PB fm cm).small
            simp only [List.length_nil] at hlen
            refine ⟨i + 1, alPut al f1 (.slice A6 o6.length c6), (by (try simp)), ⟨by omega⟩, ⟨?_⟩⟩
            rw [HTK.out]
            rw [ho] at q2 q3 ⊢
            exact HCW.out.put (f1, f2) (hFd.erz f1 hroot) out6 _ q3 q4 hFd (Kd.R_lower q2 (Nat.le_trans hC.out.ps.below.size (by rw [alloc_size]; exact Nat.le_succ _))) (by omega)
end
end Go.Proofs.YtolaiebjmhieiaaGreatDoor.OScan
end
section
namespace Go.Proofs.YtolaiebjmhieiaaGreatDoor.OLaw
open Go.RowKit Go.Proofs.YtolaiebjmhieiaaGreatDoorW.PrintWords Go.Proofs.YtolaiebjmhieiaaGreatDoorW.PrintLast Go.Proofs.YtolaiebjmhieiaaGreatDoorW.PrintMore
attribute [local go_sem] max2_int min2_int max_two min_two max_three min_three max_four min_four
set_option linter.unusedVariables false
set_option linter.unusedSimpArgs false
def errW : Option Int → Value
  | none => .nilIface
  | some c => .iface 0 (.int .i64 c)
theorem errW_none : errW none = .nilIface := rfl
theorem errW_some (c : Int) : errW (some c) = .iface 0 (.int .i64 c) := rfl
structure S46 where
  f0 : ByteArray
  f1 : ByteArray
def z46 : S46 := ⟨(⟨#[]⟩ : ByteArray), (⟨#[]⟩ : ByteArray)⟩
def k46 : Kd S46 := Kd.iso (Kd.pair Kd.string Kd.string) (fun x : S46 => (x.f0, x.f1))
theorem k46_open {w : World} {x : S46} {cs : List Value} (h : k46.K w x cs) : cs = [.string x.f0, .string x.f1] := by
  obtain ⟨_, _, rfl, rfl, rfl⟩ := h
  exact rfl
def rd_T46 (xs : List S46) (i : Int) : S46 := xs.getD i.toNat z46
theorem at_T46 {w : World} {A : Option Addr} {n : Nat} {xs : List S46} (h : Kd.C k46 w A n xs) (i : Int) (h0 : 0 ≤ i) (h1 : i < n) : ∃ ad , A = some ad ∧ w.cell? (ad.add (i.toNat * 2)) = some (.string (rd_T46 xs i).f0) ∧ w.cell? ⟨(ad.add (i.toNat * 2)).block, (ad.add (i.toNat * 2)).off + 1, none⟩ = some (.string (rd_T46 xs i).f1) := by
  obtain ⟨ad, c, e, _, hK, hc0⟩ := Kd.C_get h z46 i h0 h1
  have hc : ∀ j u, c[j]? = some u → w.cell? (ad.add (i.toNat * 2 + j)) = some u := hc0
  obtain rfl := k46_open hK
  exact ⟨ad, e, hc 0 _ rfl, by rw [← add_field _ _ 1 (by omega)]; exact hc 1 _ rfl⟩
end Go.Proofs.YtolaiebjmhieiaaGreatDoor.OLaw
end
section
namespace Go.Proofs.YtolaiebjmhieiaaGreatDoor.OLaw
open Go.RowKit Go.Proofs.YtolaiebjmhieiaaGreatDoorW.PrintWords Go.Proofs.YtolaiebjmhieiaaGreatDoorW.PrintLast Go.Proofs.YtolaiebjmhieiaaGreatDoorW.PrintMore
attribute [local go_sem] max2_int min2_int max_two min_two max_three min_three max_four min_four
set_option linter.unusedVariables false
set_option linter.unusedSimpArgs false
def smockinglaw21_heavy.l0 : Nat → List (S46) → List ByteArray → Int → Int → Option (Bool)
  | 0, _, _, _, _ => none
  | k + 1, x0, x1, x5, x6 => if x6 < (x0.length : Int) then (if x5 ≤ 4000 then (if 0 ≤ x6 then (smockinglaw21_heavy.l0 k x0 x1 (wrap64 ((wrap64 ((wrap64 (x5 + 1)) + (((rd_T46 x0 x6).f0).size : Int))) + (((rd_T46 x0 x6).f1).size : Int))) (wrap64 (x6 + 1))) else (none)) else (if x5 > 4000 then (some true) else (if (x0.length : Int) > 12 then (if (x0.length : Int) ≤ 60 then (some true) else (if (x0.length : Int) > 61 then (some true) else (some (decide ((x1.length : Int) > 5))))) else (if (x0.length : Int) > 61 then (some true) else (some (decide ((x1.length : Int) > 5))))))) else (if x5 > 4000 then (some true) else (if (x0.length : Int) > 12 then (if (x0.length : Int) ≤ 60 then (some true) else (if (x0.length : Int) > 61 then (some true) else (some (decide ((x1.length : Int) > 5))))) else (if (x0.length : Int) > 61 then (some true) else (some (decide ((x1.length : Int) > 5))))))
def smockinglaw21_heavy.f (k : Nat) (l0 : List (S46)) (l1 : List ByteArray) : Option (Bool) := smockinglaw21_heavy.l0 k l0 l1 0 0
theorem smockinglaw21_heavy.mono_l : ∀ k, (∀ y0 y1 y2 y3, LeO (smockinglaw21_heavy.l0 k y0 y1 y2 y3) (smockinglaw21_heavy.l0 (k + 1) y0 y1 y2 y3))
  | 0 => fun _ _ _ _ r h => by simp [smockinglaw21_heavy.l0] at h
  | k + 1 => by
    have ih0 := smockinglaw21_heavy.mono_l k
    · intro y0 y1 y2 y3
      unfold smockinglaw21_heavy.l0
      repeat' first
      | (with_reducible exact ih0 _ _ _ _)
      | (with_reducible exact LeO.refl _)
      | (with_reducible exact LeO.none _)
      | (with_reducible refine LeO.ite ?_ ?_)
      | (with_reducible refine LeO.bind ?_ (fun _ => ?_))
      | exact ih0 _ _ _ _
      | exact LeO.none _
      | refine LeO.ite ?_ ?_
      | refine LeO.bind ?_ (fun _ => ?_)
theorem smockinglaw21_heavy.mono : ∀ a0 a1 k, LeO (smockinglaw21_heavy.f k a0 a1) (smockinglaw21_heavy.f (k + 1) a0 a1) := by
  intro a0 a1 k
  have ih0 := smockinglaw21_heavy.mono_l k
  unfold smockinglaw21_heavy.f
  repeat' first
      | (with_reducible exact ih0 _ _ _ _)
      | (with_reducible exact LeO.refl _)
      | (with_reducible exact LeO.none _)
      | (with_reducible refine LeO.ite ?_ ?_)
      | (with_reducible refine LeO.bind ?_ (fun _ => ?_))
      | exact ih0 _ _ _ _
      | exact LeO.none _
      | refine LeO.ite ?_ ?_
      | refine LeO.bind ?_ (fun _ => ?_)
set_option maxHeartbeats 8000000 in
set_option maxRecDepth 100000 in
theorem smockinglaw21_heavy.calls (k : Nat) (A0 : Option Addr) (c0 : Nat) (l0 : List (S46)) (A1 : Option Addr) (c1 : Nat) (l1 : List ByteArray) (r : Bool) (w : World) (hr0 : Kd.C k46 w A0 l0.length l0) (hc0 : l0.length ≤ c0) (hr1 : Kd.C Kd.string w A1 l1.length l1) (hc1 : l1.length ≤ c1) (h : smockinglaw21_heavy.f k l0 l1 = some r) :
    Calls Tryz.prog 6 #[.slice A0 l0.length c0, .slice A1 l1.length c1] w fun e w' => e = .returned (.bool r) ∧ Drawn0 w w' := by
  have HR0 := Aside0.mk hr0
  have HC0 := Aside0.mk hc0
  clear hr0 hc0
  have HR1 := Aside0.mk hr1
  have HC1 := Aside0.mk hc1
  clear hr1 hc1
  have H : (smockinglaw21_heavy.l0 k l0 l1 0 0) = some r := h
  clear h
  have H' := Aside0.mk H
  clear H
  go_enter Tryz.func6, Tryz.ntmps6
  go_wp2
  repeat (go_quiet (fail); try go_wp2)
  go_loopg [5, 6] k (fun kq v5 v6 w' => ∃ (x5_1 : Int) (x6_1 : Int), v5 = .int .i64 x5_1 ∧ v6 = .int .i64 x6_1 ∧ Aside0 (smockinglaw21_heavy.l0 kq l0 l1 x5_1 x6_1 = some r) ∧ Aside0 (kq ≤ k) ∧ Drawn0 w w')
  case atStart => exact ⟨(0), (0), (by first | rfl | (simp; done) | (simp [*]; done)), (by first | rfl | (simp; done) | (simp [*]; done)), H', ⟨Nat.le_refl _⟩, by repeat (first | exact Drawn0.refl _ | apply Drawn0.step)⟩
  case round =>
    clear H'
    try clear c1
    try clear p2
    obtain ⟨x5_1, x6_1, rfl, rfl, HA, HK1, ⟨m1, rfl⟩⟩ := hrel
    cases gk with
    | zero => exact absurd HA.out (by simp [smockinglaw21_heavy.l0])
    | succ k1 =>
      have H := HA.out
      clear HA
      simp only [smockinglaw21_heavy.l0] at H
      by_cases c3 : x6_1 < (l0.length : Int)
      · rw [if_pos c3] at H
        have c3b0 : decide (x6_1 < (l0.length : Int)) = true := decide_eq_true c3
        clear c3
        by_cases c4 : x5_1 ≤ 4000
        · rw [if_pos c4] at H
          have c4b0 : decide (x5_1 ≤ 4000) = true := decide_eq_true c4
          clear c4
          by_cases c5 : 0 ≤ x6_1
          · rw [if_pos c5] at H
            have c5b0 : decide (0 ≤ x6_1) = true := decide_eq_true c5
            clear c5
            have H' := Aside0.mk H
            clear H
            have p101 : 0 ≤ (x6_1 : Int) := of_decide_eq_true (by first | (with_reducible assumption) | assumption)
            have q101 : x6_1 < (l0.length : Int) := of_decide_eq_true (by first | (with_reducible assumption) | assumption)
            obtain ⟨ad101, e101, hx101_0, hx101_1⟩ := at_T46 HR0.out x6_1 p101 q101
            cases e101
            replace p101 := eq_true p101
            replace q101 := eq_true q101
            have p102 : 0 ≤ (x6_1 : Int) := of_decide_eq_true (by first | (with_reducible assumption) | assumption)
            have q102 : x6_1 < (l0.length : Int) := of_decide_eq_true (by first | (with_reducible assumption) | assumption)
            obtain ⟨ad102, e102, hx102_0, hx102_1⟩ := at_T46 HR0.out x6_1 p102 q102
            obtain rfl : ad101 = ad102 := (by injection e102)
            replace p102 := eq_true p102
            replace q102 := eq_true q102
            go_wp2
            repeat (go_quiet (fail); try go_wp2)
            go_roundg k1
            case measure => have := HK1.out; omega
            case rel => exact ⟨(wrap64 ((wrap64 ((wrap64 (x5_1 + 1)) + (((rd_T46 l0 x6_1).f0).size : Int))) + (((rd_T46 l0 x6_1).f1).size : Int))), (wrap64 (x6_1 + 1)), (by first | rfl | (simp; done) | (simp [*]; done)), (by first | rfl | (simp; done) | (simp [*]; done)), H', ⟨by have := HK1.out; omega⟩, by repeat (first | exact Drawn0.refl _ | apply Drawn0.step)⟩
          · rw [if_neg c5] at H
            exact absurd H (by simp)
        · rw [if_neg c4] at H
          have c4b0 : decide (x5_1 ≤ 4000) = false := decide_eq_false c4
          clear c4
          by_cases c6 : x5_1 > 4000
          · rw [if_pos c6] at H
            have c6b0 : decide (4000 < x5_1) = true := decide_eq_true c6
            clear c6
            obtain rfl := Option.some.inj H
            go_wp2
            repeat (go_quiet (fail); try go_wp2)
            go_ret
            exact ⟨by first | rfl | (simp; done) | (simp [*]; done), by repeat (first | exact Drawn0.refl _ | apply Drawn0.step)⟩
          · rw [if_neg c6] at H
            have c6b0 : decide (4000 < x5_1) = false := decide_eq_false c6
            clear c6
            by_cases c7 : (l0.length : Int) > 12
            · rw [if_pos c7] at H
              have c7b0 : decide (12 < (l0.length : Int)) = true := decide_eq_true c7
              have c7b1 : decide (12 < l0.length) = true := decide_eq_true (by omega)
              clear c7
              by_cases c8 : (l0.length : Int) ≤ 60
              · rw [if_pos c8] at H
                have c8b0 : decide ((l0.length : Int) ≤ 60) = true := decide_eq_true c8
                have c8b1 : decide (l0.length ≤ 60) = true := decide_eq_true (by omega)
                clear c8
                obtain rfl := Option.some.inj H
                go_wp2
                repeat (go_quiet (fail); try go_wp2)
                go_ret
                exact ⟨by first | rfl | (simp; done) | (simp [*]; done), by repeat (first | exact Drawn0.refl _ | apply Drawn0.step)⟩
              · rw [if_neg c8] at H
                have c8b0 : decide ((l0.length : Int) ≤ 60) = false := decide_eq_false c8
                have c8b1 : decide (l0.length ≤ 60) = false := decide_eq_false (by omega)
                clear c8
                by_cases c9 : (l0.length : Int) > 61
                · rw [if_pos c9] at H
                  have c9b0 : decide (61 < (l0.length : Int)) = true := decide_eq_true c9
                  have c9b1 : decide (61 < l0.length) = true := decide_eq_true (by omega)
                  clear c9
                  obtain rfl := Option.some.inj H
                  go_wp2
                  repeat (go_quiet (fail); try go_wp2)
                  go_ret
                  exact ⟨by first | rfl | (simp; done) | (simp [*]; done), by repeat (first | exact Drawn0.refl _ | apply Drawn0.step)⟩
                · rw [if_neg c9] at H
                  have c9b0 : decide (61 < (l0.length : Int)) = false := decide_eq_false c9
                  have c9b1 : decide (61 < l0.length) = false := decide_eq_false (by omega)
                  clear c9
                  obtain rfl := Option.some.inj H
                  go_wp2
                  repeat (go_quiet (fail); try go_wp2)
                  go_ret
                  exact ⟨by first | rfl | (simp; done) | (simp [*]; done), by repeat (first | exact Drawn0.refl _ | apply Drawn0.step)⟩
            · rw [if_neg c7] at H
              have c7b0 : decide (12 < (l0.length : Int)) = false := decide_eq_false c7
              have c7b1 : decide (12 < l0.length) = false := decide_eq_false (by omega)
              clear c7
              by_cases c10 : (l0.length : Int) > 61
              · rw [if_pos c10] at H
                have c10b0 : decide (61 < (l0.length : Int)) = true := decide_eq_true c10
                have c10b1 : decide (61 < l0.length) = true := decide_eq_true (by omega)
                clear c10
                obtain rfl := Option.some.inj H
                go_wp2
                repeat (go_quiet (fail); try go_wp2)
                go_ret
                exact ⟨by first | rfl | (simp; done) | (simp [*]; done), by repeat (first | exact Drawn0.refl _ | apply Drawn0.step)⟩
              · rw [if_neg c10] at H
                have c10b0 : decide (61 < (l0.length : Int)) = false := decide_eq_false c10
                have c10b1 : decide (61 < l0.length) = false := decide_eq_false (by omega)
                clear c10
                obtain rfl := Option.some.inj H
                go_wp2
                repeat (go_quiet (fail); try go_wp2)
                go_ret
                exact ⟨by first | rfl | (simp; done) | (simp [*]; done), by repeat (first | exact Drawn0.refl _ | apply Drawn0.step)⟩
      · rw [if_neg c3] at H
        have c3b0 : decide (x6_1 < (l0.length : Int)) = false := decide_eq_false c3
        clear c3
        by_cases c11 : x5_1 > 4000
        · rw [if_pos c11] at H
          have c11b0 : decide (4000 < x5_1) = true := decide_eq_true c11
          clear c11
          obtain rfl := Option.some.inj H
          go_wp2
          repeat (go_quiet (fail); try go_wp2)
          go_ret
          exact ⟨by first | rfl | (simp; done) | (simp [*]; done), by repeat (first | exact Drawn0.refl _ | apply Drawn0.step)⟩
        · rw [if_neg c11] at H
          have c11b0 : decide (4000 < x5_1) = false := decide_eq_false c11
          clear c11
          by_cases c12 : (l0.length : Int) > 12
          · rw [if_pos c12] at H
            have c12b0 : decide (12 < (l0.length : Int)) = true := decide_eq_true c12
            have c12b1 : decide (12 < l0.length) = true := decide_eq_true (by omega)
            clear c12
            by_cases c13 : (l0.length : Int) ≤ 60
            · rw [if_pos c13] at H
              have c13b0 : decide ((l0.length : Int) ≤ 60) = true := decide_eq_true c13
              have c13b1 : decide (l0.length ≤ 60) = true := decide_eq_true (by omega)
              clear c13
              obtain rfl := Option.some.inj H
              go_wp2
              repeat (go_quiet (fail); try go_wp2)
              go_ret
              exact ⟨by first | rfl | (simp; done) | (simp [*]; done), by repeat (first | exact Drawn0.refl _ | apply Drawn0.step)⟩
            · rw [if_neg c13] at H
              have c13b0 : decide ((l0.length : Int) ≤ 60) = false := decide_eq_false c13
              have c13b1 : decide (l0.length ≤ 60) = false := decide_eq_false (by omega)
              clear c13
              by_cases c14 : (l0.length : Int) > 61
              · rw [if_pos c14] at H
                have c14b0 : decide (61 < (l0.length : Int)) = true := decide_eq_true c14
                have c14b1 : decide (61 < l0.length) = true := decide_eq_true (by omega)
                clear c14
                obtain rfl := Option.some.inj H
                go_wp2
                repeat (go_quiet (fail); try go_wp2)
                go_ret
                exact ⟨by first | rfl | (simp; done) | (simp [*]; done), by repeat (first | exact Drawn0.refl _ | apply Drawn0.step)⟩
              · rw [if_neg c14] at H
                have c14b0 : decide (61 < (l0.length : Int)) = false := decide_eq_false c14
                have c14b1 : decide (61 < l0.length) = false := decide_eq_false (by omega)
                clear c14
                obtain rfl := Option.some.inj H
                go_wp2
                repeat (go_quiet (fail); try go_wp2)
                go_ret
                exact ⟨by first | rfl | (simp; done) | (simp [*]; done), by repeat (first | exact Drawn0.refl _ | apply Drawn0.step)⟩
          · rw [if_neg c12] at H
            have c12b0 : decide (12 < (l0.length : Int)) = false := decide_eq_false c12
            have c12b1 : decide (12 < l0.length) = false := decide_eq_false (by omega)
            clear c12
            by_cases c15 : (l0.length : Int) > 61
            · rw [if_pos c15] at H
              have c15b0 : decide (61 < (l0.length : Int)) = true := decide_eq_true c15
              have c15b1 : decide (61 < l0.length) = true := decide_eq_true (by omega)
              clear c15
              obtain rfl := Option.some.inj H
              go_wp2
              repeat (go_quiet (fail); try go_wp2)
              go_ret
              exact ⟨by first | rfl | (simp; done) | (simp [*]; done), by repeat (first | exact Drawn0.refl _ | apply Drawn0.step)⟩
            · rw [if_neg c15] at H
              have c15b0 : decide (61 < (l0.length : Int)) = false := decide_eq_false c15
              have c15b1 : decide (61 < l0.length) = false := decide_eq_false (by omega)
              clear c15
              obtain rfl := Option.some.inj H
              go_wp2
              repeat (go_quiet (fail); try go_wp2)
              go_ret
              exact ⟨by first | rfl | (simp; done) | (simp [*]; done), by repeat (first | exact Drawn0.refl _ | apply Drawn0.step)⟩
def smockingref00_Has.l0 : Nat → List ByteArray → ByteArray → Int → Option (Int)
  | 0, _, _, _ => none
  | k + 1, x0, x1, x5 => if x5 < (x0.length : Int) then (if 0 ≤ x5 then (if (rdOf ByteArray.empty x0 x5).toList = x1.toList then (some x5) else (smockingref00_Has.l0 k x0 x1 (wrap64 (x5 + 1)))) else (none)) else (some (-1))
def smockingref00_Has.f (k : Nat) (l0 : List ByteArray) (a1 : ByteArray) : Option (Int) := smockingref00_Has.l0 k l0 a1 0
theorem smockingref00_Has.mono_l : ∀ k, (∀ y0 y1 y2, LeO (smockingref00_Has.l0 k y0 y1 y2) (smockingref00_Has.l0 (k + 1) y0 y1 y2))
  | 0 => fun _ _ _ r h => by simp [smockingref00_Has.l0] at h
  | k + 1 => by
    have ih0 := smockingref00_Has.mono_l k
    · intro y0 y1 y2
      unfold smockingref00_Has.l0
      repeat' first
      | (with_reducible exact ih0 _ _ _)
      | (with_reducible exact LeO.refl _)
      | (with_reducible exact LeO.none _)
      | (with_reducible refine LeO.ite ?_ ?_)
      | (with_reducible refine LeO.bind ?_ (fun _ => ?_))
      | exact ih0 _ _ _
      | exact LeO.none _
      | refine LeO.ite ?_ ?_
      | refine LeO.bind ?_ (fun _ => ?_)
theorem smockingref00_Has.mono : ∀ a0 a1 k, LeO (smockingref00_Has.f k a0 a1) (smockingref00_Has.f (k + 1) a0 a1) := by
  intro a0 a1 k
  have ih0 := smockingref00_Has.mono_l k
  unfold smockingref00_Has.f
  repeat' first
      | (with_reducible exact ih0 _ _ _)
      | (with_reducible exact LeO.refl _)
      | (with_reducible exact LeO.none _)
      | (with_reducible refine LeO.ite ?_ ?_)
      | (with_reducible refine LeO.bind ?_ (fun _ => ?_))
      | exact ih0 _ _ _
      | exact LeO.none _
      | refine LeO.ite ?_ ?_
      | refine LeO.bind ?_ (fun _ => ?_)
set_option maxHeartbeats 8000000 in
set_option maxRecDepth 100000 in
theorem smockingref00_Has.calls (k : Nat) (A0 : Option Addr) (c0 : Nat) (l0 : List ByteArray) (a1 : ByteArray) (r : Int) (w : World) (hr0 : Kd.C Kd.string w A0 l0.length l0) (hc0 : l0.length ≤ c0) (h : smockingref00_Has.f k l0 a1 = some r) :
    Calls Tryz.prog 19 #[.slice A0 l0.length c0, .string a1] w fun e w' => e = .returned (.int .i64 r) ∧ Drawn0 w w' := by
  have HR0 := Aside0.mk hr0
  have HC0 := Aside0.mk hc0
  clear hr0 hc0
  have H : (smockingref00_Has.l0 k l0 a1 0) = some r := h
  clear h
  have H' := Aside0.mk H
  clear H
  go_enter Tryz.func19, Tryz.ntmps19
  go_wp2
  go_loopg [5] k (fun kq v5 w' => ∃ (x5_1 : Int), v5 = .int .i64 x5_1 ∧ Aside0 (smockingref00_Has.l0 kq l0 a1 x5_1 = some r) ∧ Aside0 (kq ≤ k) ∧ Drawn0 w w')
  case atStart => exact ⟨(0), (by first | rfl | (simp; done) | (simp [*]; done)), H', ⟨Nat.le_refl _⟩, by repeat (first | exact Drawn0.refl _ | apply Drawn0.step)⟩
  case round =>
    clear H'
    try clear c1
    try clear p2
    obtain ⟨x5_1, rfl, HA, HK1, ⟨m1, rfl⟩⟩ := hrel
    cases gk with
    | zero => exact absurd HA.out (by simp [smockingref00_Has.l0])
    | succ k1 =>
      have H := HA.out
      clear HA
      simp only [smockingref00_Has.l0] at H
      by_cases c3 : x5_1 < (l0.length : Int)
      · rw [if_pos c3] at H
        have c3b0 : decide (x5_1 < (l0.length : Int)) = true := decide_eq_true c3
        clear c3
        by_cases c4 : 0 ≤ x5_1
        · rw [if_pos c4] at H
          have c4b0 : decide (0 ≤ x5_1) = true := decide_eq_true c4
          clear c4
          by_cases c5 : (rdOf ByteArray.empty l0 x5_1).toList = a1.toList
          · rw [if_pos c5] at H
            have c5b0 : ((rdOf ByteArray.empty l0 x5_1).toList == a1.toList) = true := beq_iff_eq.mpr c5
            have c5b1 : ((rdOf ByteArray.empty l0 x5_1).toList != a1.toList) = false := bne_eq_false_iff_eq.mpr c5
            clear c5
            obtain rfl := Option.some.inj H
            have p103 : 0 ≤ (x5_1 : Int) := of_decide_eq_true (by first | (with_reducible assumption) | assumption)
            have q103 : x5_1 < (l0.length : Int) := of_decide_eq_true (by first | (with_reducible assumption) | assumption)
            obtain ⟨ad103, e103, hx103_0⟩ := Kd.at_string HR0.out x5_1 p103 q103
            cases e103
            replace p103 := eq_true p103
            replace q103 := eq_true q103
            go_wp2
            go_ret
            exact ⟨by first | rfl | (simp; done) | (simp [*]; done), by repeat (first | exact Drawn0.refl _ | apply Drawn0.step)⟩
          · rw [if_neg c5] at H
            have c5b0 : ((rdOf ByteArray.empty l0 x5_1).toList == a1.toList) = false := beq_eq_false_iff_ne.mpr c5
            have c5b1 : ((rdOf ByteArray.empty l0 x5_1).toList != a1.toList) = true := bne_iff_ne.mpr c5
            have H' := Aside0.mk H
            clear H
            have p103 : 0 ≤ (x5_1 : Int) := of_decide_eq_true (by first | (with_reducible assumption) | assumption)
            have q103 : x5_1 < (l0.length : Int) := of_decide_eq_true (by first | (with_reducible assumption) | assumption)
            obtain ⟨ad103, e103, hx103_0⟩ := Kd.at_string HR0.out x5_1 p103 q103
            cases e103
            replace p103 := eq_true p103
            replace q103 := eq_true q103
            go_wp2
            go_roundg k1
            case measure => have := HK1.out; omega
            case rel => exact ⟨(wrap64 (x5_1 + 1)), (by first | rfl | (simp; done) | (simp [*]; done)), H', ⟨by have := HK1.out; omega⟩, by repeat (first | exact Drawn0.refl _ | apply Drawn0.step)⟩
        · rw [if_neg c4] at H
          exact absurd H (by simp)
      · rw [if_neg c3] at H
        have c3b0 : decide (x5_1 < (l0.length : Int)) = false := decide_eq_false c3
        clear c3
        obtain rfl := Option.some.inj H
        go_wp2
        go_ret
        exact ⟨by first | rfl | (simp; done) | (simp [*]; done), by repeat (first | exact Drawn0.refl _ | apply Drawn0.step)⟩
def smockingref00_EqStrings.l0 : Nat → List ByteArray → List ByteArray → Int → Option (Bool)
  | 0, _, _, _ => none
  | k + 1, x0, x1, x5 => if x5 < (x0.length : Int) then (if 0 ≤ x5 then (if x5 < (x1.length : Int) then (if (rdOf ByteArray.empty x0 x5).toList = (rdOf ByteArray.empty x1 x5).toList then (smockingref00_EqStrings.l0 k x0 x1 (wrap64 (x5 + 1))) else (some false)) else (none)) else (none)) else (some true)
def smockingref00_EqStrings.f (k : Nat) (l0 : List ByteArray) (l1 : List ByteArray) : Option (Bool) := if (l0.length : Int) = (l1.length : Int) then (smockingref00_EqStrings.l0 k l0 l1 0) else (some false)
theorem smockingref00_EqStrings.mono_l : ∀ k, (∀ y0 y1 y2, LeO (smockingref00_EqStrings.l0 k y0 y1 y2) (smockingref00_EqStrings.l0 (k + 1) y0 y1 y2))
  | 0 => fun _ _ _ r h => by simp [smockingref00_EqStrings.l0] at h
  | k + 1 => by
    have ih0 := smockingref00_EqStrings.mono_l k
    · intro y0 y1 y2
      unfold smockingref00_EqStrings.l0
      repeat' first
      | (with_reducible exact ih0 _ _ _)
      | (with_reducible exact LeO.refl _)
      | (with_reducible exact LeO.none _)
      | (with_reducible refine LeO.ite ?_ ?_)
      | (with_reducible refine LeO.bind ?_ (fun _ => ?_))
      | exact ih0 _ _ _
      | exact LeO.none _
      | refine LeO.ite ?_ ?_
      | refine LeO.bind ?_ (fun _ => ?_)
theorem smockingref00_EqStrings.mono : ∀ a0 a1 k, LeO (smockingref00_EqStrings.f k a0 a1) (smockingref00_EqStrings.f (k + 1) a0 a1) := by
  intro a0 a1 k
  have ih0 := smockingref00_EqStrings.mono_l k
  unfold smockingref00_EqStrings.f
  repeat' first
      | (with_reducible exact ih0 _ _ _)
      | (with_reducible exact LeO.refl _)
      | (with_reducible exact LeO.none _)
      | (with_reducible refine LeO.ite ?_ ?_)
      | (with_reducible refine LeO.bind ?_ (fun _ => ?_))
      | exact ih0 _ _ _
      | exact LeO.none _
      | refine LeO.ite ?_ ?_
      | refine LeO.bind ?_ (fun _ => ?_)
set_option maxHeartbeats 8000000 in
set_option maxRecDepth 100000 in
theorem smockingref00_EqStrings.calls (k : Nat) (A0 : Option Addr) (c0 : Nat) (l0 : List ByteArray) (A1 : Option Addr) (c1 : Nat) (l1 : List ByteArray) (r : Bool) (w : World) (hr0 : Kd.C Kd.string w A0 l0.length l0) (hc0 : l0.length ≤ c0) (hr1 : Kd.C Kd.string w A1 l1.length l1) (hc1 : l1.length ≤ c1) (h : smockingref00_EqStrings.f k l0 l1 = some r) :
    Calls Tryz.prog 13 #[.slice A0 l0.length c0, .slice A1 l1.length c1] w fun e w' => e = .returned (.bool r) ∧ Drawn0 w w' := by
  have HR0 := Aside0.mk hr0
  have HC0 := Aside0.mk hc0
  clear hr0 hc0
  have HR1 := Aside0.mk hr1
  have HC1 := Aside0.mk hc1
  clear hr1 hc1
  have H : (if (l0.length : Int) = (l1.length : Int) then (smockingref00_EqStrings.l0 k l0 l1 0) else (some false)) = some r := h
  clear h
  by_cases c3 : (l0.length : Int) = (l1.length : Int)
  · rw [if_pos c3] at H
    have c3b0 : ((l0.length : Int) == (l1.length : Int)) = true := beq_iff_eq.mpr c3
    have c3b1 : ((l0.length : Int) != (l1.length : Int)) = false := bne_eq_false_iff_eq.mpr c3
    have c3b2 : (l0.length == l1.length) = true := by first | simpa using c3 | (simp at c3 ⊢; omega)
    clear c3
    have H' := Aside0.mk H
    clear H
    go_enter Tryz.func13, Tryz.ntmps13
    go_wp2
    repeat (go_quiet (fail); try go_wp2)
    go_loopg [5] k (fun kq v5 w' => ∃ (x5_1 : Int), v5 = .int .i64 x5_1 ∧ Aside0 (smockingref00_EqStrings.l0 kq l0 l1 x5_1 = some r) ∧ Aside0 (kq ≤ k) ∧ Drawn0 w w')
    case atStart => exact ⟨(0), (by first | rfl | (simp; done) | (simp [*]; done)), H', ⟨Nat.le_refl _⟩, by repeat (first | exact Drawn0.refl _ | apply Drawn0.step)⟩
    case round =>
      clear H'
      try clear c1
      try clear p2
      try clear c3
      try clear c3b0
      try clear c3b1
      try clear c3b2
      obtain ⟨x5_1, rfl, HA, HK1, ⟨m1, rfl⟩⟩ := hrel
      cases gk with
      | zero => exact absurd HA.out (by simp [smockingref00_EqStrings.l0])
      | succ k1 =>
        have H := HA.out
        clear HA
        simp only [smockingref00_EqStrings.l0] at H
        by_cases c4 : x5_1 < (l0.length : Int)
        · rw [if_pos c4] at H
          have c4b0 : decide (x5_1 < (l0.length : Int)) = true := decide_eq_true c4
          clear c4
          by_cases c5 : 0 ≤ x5_1
          · rw [if_pos c5] at H
            have c5b0 : decide (0 ≤ x5_1) = true := decide_eq_true c5
            clear c5
            by_cases c6 : x5_1 < (l1.length : Int)
            · rw [if_pos c6] at H
              have c6b0 : decide (x5_1 < (l1.length : Int)) = true := decide_eq_true c6
              clear c6
              by_cases c7 : (rdOf ByteArray.empty l0 x5_1).toList = (rdOf ByteArray.empty l1 x5_1).toList
              · rw [if_pos c7] at H
                have c7b0 : ((rdOf ByteArray.empty l0 x5_1).toList == (rdOf ByteArray.empty l1 x5_1).toList) = true := beq_iff_eq.mpr c7
                have c7b1 : ((rdOf ByteArray.empty l0 x5_1).toList != (rdOf ByteArray.empty l1 x5_1).toList) = false := bne_eq_false_iff_eq.mpr c7
                clear c7
                have H' := Aside0.mk H
                clear H
                have p104 : 0 ≤ (x5_1 : Int) := of_decide_eq_true (by first | (with_reducible assumption) | assumption)
                have q104 : x5_1 < (l0.length : Int) := of_decide_eq_true (by first | (with_reducible assumption) | assumption)
                obtain ⟨ad104, e104, hx104_0⟩ := Kd.at_string HR0.out x5_1 p104 q104
                cases e104
                replace p104 := eq_true p104
                replace q104 := eq_true q104
                have p105 : 0 ≤ (x5_1 : Int) := of_decide_eq_true (by first | (with_reducible assumption) | assumption)
                have q105 : x5_1 < (l1.length : Int) := of_decide_eq_true (by first | (with_reducible assumption) | assumption)
                obtain ⟨ad105, e105, hx105_0⟩ := Kd.at_string HR1.out x5_1 p105 q105
                cases e105
                replace p105 := eq_true p105
                replace q105 := eq_true q105
                go_wp2
                repeat (go_quiet (fail); try go_wp2)
                go_roundg k1
                case measure => have := HK1.out; omega
                case rel => exact ⟨(wrap64 (x5_1 + 1)), (by first | rfl | (simp; done) | (simp [*]; done)), H', ⟨by have := HK1.out; omega⟩, by repeat (first | exact Drawn0.refl _ | apply Drawn0.step)⟩
              · rw [if_neg c7] at H
                have c7b0 : ((rdOf ByteArray.empty l0 x5_1).toList == (rdOf ByteArray.empty l1 x5_1).toList) = false := beq_eq_false_iff_ne.mpr c7
                have c7b1 : ((rdOf ByteArray.empty l0 x5_1).toList != (rdOf ByteArray.empty l1 x5_1).toList) = true := bne_iff_ne.mpr c7
                obtain rfl := Option.some.inj H
                have p104 : 0 ≤ (x5_1 : Int) := of_decide_eq_true (by first | (with_reducible assumption) | assumption)
                have q104 : x5_1 < (l0.length : Int) := of_decide_eq_true (by first | (with_reducible assumption) | assumption)
                obtain ⟨ad104, e104, hx104_0⟩ := Kd.at_string HR0.out x5_1 p104 q104
                cases e104
                replace p104 := eq_true p104
                replace q104 := eq_true q104
                have p105 : 0 ≤ (x5_1 : Int) := of_decide_eq_true (by first | (with_reducible assumption) | assumption)
                have q105 : x5_1 < (l1.length : Int) := of_decide_eq_true (by first | (with_reducible assumption) | assumption)
                obtain ⟨ad105, e105, hx105_0⟩ := Kd.at_string HR1.out x5_1 p105 q105
                cases e105
                replace p105 := eq_true p105
                replace q105 := eq_true q105
                go_wp2
                repeat (go_quiet (fail); try go_wp2)
                go_ret
                exact ⟨by first | rfl | (simp; done) | (simp [*]; done), by repeat (first | exact Drawn0.refl _ | apply Drawn0.step)⟩
            · rw [if_neg c6] at H
              exact absurd H (by simp)
          · rw [if_neg c5] at H
            exact absurd H (by simp)
        · rw [if_neg c4] at H
          have c4b0 : decide (x5_1 < (l0.length : Int)) = false := decide_eq_false c4
          clear c4
          obtain rfl := Option.some.inj H
          go_wp2
          repeat (go_quiet (fail); try go_wp2)
          go_ret
          exact ⟨by first | rfl | (simp; done) | (simp [*]; done), by repeat (first | exact Drawn0.refl _ | apply Drawn0.step)⟩
  · rw [if_neg c3] at H
    have c3b0 : ((l0.length : Int) == (l1.length : Int)) = false := beq_eq_false_iff_ne.mpr c3
    have c3b1 : ((l0.length : Int) != (l1.length : Int)) = true := bne_iff_ne.mpr c3
    have c3b2 : (l0.length == l1.length) = false := by first | simpa using c3 | (simp at c3 ⊢; omega)
    obtain rfl := Option.some.inj H
    go_enter Tryz.func13, Tryz.ntmps13
    go_wp2
    repeat (go_quiet (fail); try go_wp2)
    go_ret
    exact ⟨by first | rfl | (simp; done) | (simp [*]; done), by repeat (first | exact Drawn0.refl _ | apply Drawn0.step)⟩
end Go.Proofs.YtolaiebjmhieiaaGreatDoor.OLaw
end
