/- HeadOnce: for every list of files, every name and every list of places the law answers true, and all read behind the call as before; the listed tables are tied to the text of the program; no condition. Here: parts of its proof. -/
import Derived.Test.YtolaiebjmhieiaaGreatDoorM24

section
namespace Go.Proofs.YtolaiebjmhieiaaGreatDoor.OScan
open Go.RowKit Go.Proofs.YtolaiebjmhieiaaGreatDoorW.PrintWords Go.Proofs.YtolaiebjmhieiaaGreatDoorW.PrintLast Go.Proofs.YtolaiebjmhieiaaGreatDoorW.PrintMore
set_option linter.unusedVariables false
set_option linter.unusedSimpArgs false
def fA : Fl := (⟨#[97, 46, 99]⟩, ⟨#[35, 105, 110, 99, 108, 117, 100, 101, 32, 34, 98, 46, 104, 34, 10]⟩)
def fB : Fl := (⟨#[98, 46, 104]⟩, ⟨#[105, 110, 116, 32, 120, 59, 10]⟩)
def mA : AL := [(fA.1, .string fA.2), (fB.1, .string fB.2)]
theorem openA : openF [fA, fB] = (0, some mA) := by kernel_rfl
theorem erA1 : erN mA fA.1 = 0 := by kernel_rfl
theorem erA2 : erN mA fB.1 = 0 := by kernel_rfl
theorem usA1 : gR mA [] fA.1 = [fB.1] := by kernel_rfl
theorem usA2 : gR mA [] fB.1 = [] := by kernel_rfl
theorem outA {out : List ByteArray} (h : Graph.Found (erN mA) (gR mA []) fA.1 out) : out = [fB.1, fA.1] := by
  have hr : ∀ x, Graph.Reach (gR mA []) fA.1 x → x = fA.1 ∨ x = fB.1 := by
    have key : ∀ a x, Graph.Reach (gR mA []) a x → (a = fA.1 ∨ a = fB.1) → (x = fA.1 ∨ x = fB.1) := fun a x h => by
      induction h with
      | refl => exact id
      | @step a b c hb _ ih =>
        intro ha
        refine ih ?_
        rcases ha with rfl | rfl
        · rw [usA1] at hb
          exact .inr (List.mem_singleton.1 hb)
        · rw [usA2] at hb
          simp at hb
    exact fun x h => key _ x h (.inl rfl)
  have hne : fB.1 ≠ fA.1 := by decide
  have hB : fB.1 ∈ out := (h.mem _).2 (.step (by rw [usA1]; exact List.mem_singleton.2 rfl) (.refl _))
  obtain ⟨o, rfl⟩ := h.last
  have hnd := h.nd
  rw [List.nodup_append] at hnd
  obtain ⟨n1, _, n3⟩ := hnd
  have ho : ∀ x ∈ o, x = fB.1 := fun x hx => by
    rcases hr x ((h.mem x).1 (List.mem_append_left _ hx)) with e | e
    · exact absurd e (n3 x hx fA.1 (List.mem_singleton.2 rfl))
    · exact e
  have hBo : fB.1 ∈ o := by
    rcases List.mem_append.1 hB with h | h
    · exact h
    · exact absurd (List.mem_singleton.1 h) hne
  cases o with
  | nil => simp at hBo
  | cons a l =>
    obtain rfl := ho a (List.mem_cons_self ..)
    cases l with
    | nil => rfl
    | cons b l =>
      have := ho b (List.mem_cons_of_mem _ (List.mem_cons_self ..))
      rw [this] at n1
      simp at n1
section
variable {W : World} {files : List Fl} {ps : List ByteArray} {A Ap : Option Addr} {c cp : Nat} {m : AL}
set_option maxHeartbeats 1000000 in
set_option maxRecDepth 100000 in
theorem All_ok (H : ArgsOK W files ps A Ap c cp) (hm : openF files = (0, some m)) (hall : ∀ f ∈ files, erN m f.1 = 0) (name : ByteArray) (hsome : (alGet m name).isSome = true) :
    Calls Tryz.prog 9 #[.slice A files.length c, .string name, .slice Ap ps.length cp] W fun e w' => ∃ (v : Value) (out : List ByteArray), e = .returned (.tuple #[v, .int .i64 0]) ∧ Below W.heap.size W w' ∧ Kd.R Kd.string 9 w' W.heap.size (fun _ => True) v out ∧ Graph.Found (erN m) (gR m ps) name out := by
  have H20 := with_any files name A c Ap ps.length cp W H.glob H.fc H.fl (by have := H.nfl; omega) (fun f hf => by have := (H.fsz f hf).1; omega)
  have hw : withF files name = (0, some m) := by unfold withF; rw [hm]; simp only; rw [if_pos hsome]
  rw [hw] at H20
  obtain ⟨n, hn⟩ : ∃ n, n = files.length := ⟨_, rfl⟩
  obtain ⟨np, hnp⟩ : ∃ np, np = ps.length := ⟨_, rfl⟩
  have H26 : Aside0 (∀ (w5 : World) (PB fm cm : Nat), PrjIs W.heap.size w5 PB fm cm (.slice Ap np cp) m [] → Below W.heap.size W w5 → Calls Tryz.prog 26 #[.pointer (some ⟨PB, 0, none⟩), .string name] w5 fun e w' => ∃ (v : Value) (out : List ByteArray), e = .returned (.tuple #[v, .int .i64 0]) ∧ Below W.heap.size W w' ∧ Kd.R Kd.string 9 w' W.heap.size (fun _ => True) v out ∧ Graph.Found (erN m) (gR m ps) name out) := ⟨fun w5 PB fm cm hP hb => by
    rw [hnp] at hP
    refine (all_ok H hm hall PB fm cm name hsome w5 (ps_of_new hP hb)).mono ?_
    rintro e w' ⟨out, v, rfl, hF, hr, hps, _⟩
    exact ⟨v, out, rfl, hps.below, Kd.R_lower hr hb.size, hF⟩⟩
  rw [← hn, ← hnp] at H20
  rw [← hn, ← hnp]
  clear H hw hn hnp hm hsome hall
  go_enter Tryz.func9, Tryz.ntmps9
  go_wp2_with (first | (go_at_call 20; go_loud (refine H20.mono ?_; rintro e w5 ⟨⟨PB, fm, cm, rfl, hP⟩, hb5⟩; have H26' := H26.out w5 PB fm cm hP hb5; clear hP hb5)) | (go_at_call 26; go_loud (refine H26'.mono ?_; rintro e w6 ⟨v6, out6, rfl, h1, h2, h3⟩; obtain ⟨A6, c6, rfl⟩ := Kd.R_slice h2; have HX := Aside0.mk (And.intro h1 (And.intro h2 h3)); clear h1 h2 h3)))
  go_ret2
  exact ⟨_, out6, rfl, HX.out.1, HX.out.2.1, HX.out.2.2⟩
end
theorem eqA : OLaw.smockingref00_EqStrings.f 5 [fB.1, fA.1] [fB.1, fA.1] = some true := by kernel_rfl
set_option maxHeartbeats 1000000 in
set_option maxRecDepth 100000 in
theorem awake_any (w : World) (hG : Glob2 w) : Calls Tryz.prog 14 #[] w fun e w' => e = .returned (.bool true) ∧ Below w.heap.size w w' := by
  obtain ⟨W1, hW1⟩ : ∃ W1, W1 = w.alloc (Obj.cells #[Value.string ⟨#[97, 46, 99]⟩, Value.string ⟨#[35, 105, 110, 99, 108, 117, 100, 101, 32, 34, 98, 46, 104, 34, 10]⟩, Value.string ⟨#[98, 46, 104]⟩, Value.string ⟨#[105, 110, 116, 32, 120, 59, 10]⟩] 46) := ⟨_, rfl⟩
  have hb1 : Below w.heap.size w W1 := by rw [hW1]; exact below_alloc (Below.refl _ _) _
  have hnew : W1.heap[w.heap.size]? = some (.cells #[Value.string ⟨#[97, 46, 99]⟩, Value.string ⟨#[35, 105, 110, 99, 108, 117, 100, 101, 32, 34, 98, 46, 104, 34, 10]⟩, Value.string ⟨#[98, 46, 104]⟩, Value.string ⟨#[105, 110, 116, 32, 120, 59, 10]⟩] 46 (0, 0)) := by rw [hW1]; exact blk_new _ _
  have HA : ArgsOK W1 [fA, fB] [] (some ⟨w.heap.size, 0, none⟩) none 2 0 := {
    glob := hG.below hb1
    fc := by
      refine ⟨rfl, by decide, fun _ => ⟨⟨w.heap.size, 0, none⟩, rfl, fun j p hj => ⟨[.string p.1, .string p.2], rfl, ⟨[.string p.1], [.string p.2], rfl, rfl, rfl⟩, fun i u hu => ?_⟩⟩⟩
      rw [add_plain, cell_of_row W1 _ _ _ _ _ hnew]
      match j, i with
      | 0, 0 => obtain rfl := Option.some.inj hj; exact hu
      | 0, 1 => obtain rfl := Option.some.inj hj; exact hu
      | 1, 0 => obtain rfl := Option.some.inj hj; exact hu
      | 1, 1 => obtain rfl := Option.some.inj hj; exact hu
      | j + 2, _ => simp at hj
      | 0, i + 2 => simp at hu
      | 1, i + 2 => simp at hu
    fl := Nat.le_refl _
    pc := Kd.C_nil _ _
    hA := .inl rfl
    npl := by decide
    nfl := by decide
    fsz := fun f hf => by
      rcases List.mem_cons.1 hf with rfl | hf
      · exact ⟨by decide, by decide⟩
      · rw [List.mem_singleton.1 hf]; exact ⟨by decide, by decide⟩
    psz := fun p hp => by simp at hp }
  have H9 := All_ok HA openA (fun f hf => by
    rcases List.mem_cons.1 hf with rfl | hf
    · exact erA1
    · rw [List.mem_singleton.1 hf]; exact erA2) fA.1 rfl
  have H9' : Calls Tryz.prog 9 #[.slice (some ⟨w.heap.size, 0, none⟩) 2 2, .string ⟨#[97, 46, 99]⟩, .slice none 0 0] W1 fun e w' => ∃ A5 c5, e = .returned (.tuple #[.slice A5 2 c5, .int .i64 0]) ∧ Aside0 (Below W1.heap.size W1 w') ∧ Calls Tryz.prog 13 #[.slice A5 2 c5, .slice (some ⟨w'.heap.size, 0, none⟩) 2 2] (w'.alloc (Obj.cells #[Value.string ⟨#[98, 46, 104]⟩, Value.string ⟨#[97, 46, 99]⟩] 9)) fun e w'' => e = .returned (.bool true) ∧ Drawn0 (w'.alloc (Obj.cells #[Value.string ⟨#[98, 46, 104]⟩, Value.string ⟨#[97, 46, 99]⟩] 9)) w'' := H9.mono (by
    rintro e w' ⟨v, out, rfl, h1, h2, h3⟩
    rw [outA h3] at h2
    obtain ⟨A5, c5, rfl⟩ := Kd.R_slice h2
    have hr := Kd.R_reads' h2
    refine ⟨A5, c5, rfl, ⟨h1⟩, ?_⟩
    have hC := strs_C (w := w'.alloc (Obj.cells #[Value.string ⟨#[98, 46, 104]⟩, Value.string ⟨#[97, 46, 99]⟩] 9)) (g := w'.heap.size) (zs := [fB.1, fA.1]) (t := 9) (blk_new _ _) (by decide)
    exact OLaw.smockingref00_EqStrings.calls 5 A5 c5 [fB.1, fA.1] (some ⟨w'.heap.size, 0, none⟩) 2 [fB.1, fA.1] true _ (Kd.C_below hr.2.2 (below_alloc (Below.refl _ _) _)) hr.2.1 hC (Nat.le_refl _) eqA)
  rw [hW1] at H9'
  have HB1 := Aside0.mk hb1
  have HW1 := Aside0.mk hW1
  clear H9 HA hnew hb1 hW1
  go_enter Tryz.func14, Tryz.ntmps14
  go_wp2_with (first | (go_at_call 9; go_loud (refine H9'.mono ?_; rintro e w5 ⟨A5, c5, rfl, HB5, H13⟩)) | (go_at_call 13; go_loud (refine H13.mono ?_; rintro e w6 ⟨rfl, hd6⟩; have HD6 := Aside0.mk hd6; clear hd6)))
  go_ret
  have hb5 := HB5.out
  rw [← HW1.out] at hb5
  exact ⟨rfl, below_step (below_alloc (below_step HB1.out hb5) _) HD6.out.below⟩
end Go.Proofs.YtolaiebjmhieiaaGreatDoor.OScan
end
section
namespace Go.Proofs.YtolaiebjmhieiaaGreatDoor.OScan
open Go.RowKit Go.Proofs.YtolaiebjmhieiaaGreatDoorW.PrintWords Go.Proofs.YtolaiebjmhieiaaGreatDoorW.PrintLast Go.Proofs.YtolaiebjmhieiaaGreatDoorW.PrintMore
set_option linter.unusedVariables false
set_option linter.unusedSimpArgs false
theorem bytes_of_toList {x y : ByteArray} (h : x.toList = y.toList) : x = y := by
  rw [ByteArray.toList_eq, ByteArray.toList_eq] at h
  exact Go.WideShapes.bytes_inj h
theorem has_l0 (xs : List ByteArray) (a : ByteArray) (hl : xs.length ≤ 1000000) : ∀ (d k i : Nat), i ≤ xs.length → xs.length - i ≤ d → d < k → a ∉ xs.take i →
    ∃ r, OLaw.smockingref00_Has.l0 k xs a (i : Int) = some r ∧ ((r = -1 ∧ a ∉ xs) ∨ ∃ j : Nat, r = j ∧ xs[j]? = some a ∧ a ∉ xs.take j)
  | d, 0, i, _, _, hk, _ => by omega
  | d, k + 1, i, h1, hd, hk, hn => by
    rw [OLaw.smockingref00_Has.l0]
    by_cases h : i < xs.length
    · rw [if_pos (by omega), if_pos (by omega)]
      have hrd : rdOf ByteArray.empty xs (i : Int) = xs[i] := by
        show xs.getD (i : Int).toNat ByteArray.empty = _
        rw [List.getD_eq_getElem?_getD, show (i : Int).toNat = i from rfl, List.getElem?_eq_getElem h]; rfl
      rw [hrd]
      by_cases he : xs[i].toList = a.toList
      · rw [if_pos he]
        exact ⟨i, rfl, .inr ⟨i, rfl, by rw [List.getElem?_eq_getElem h, bytes_of_toList he], hn⟩⟩
      · rw [if_neg he, wr (by omega) (by omega)]
        cases d with
        | zero => omega
        | succ d =>
          have hn' : a ∉ xs.take (i + 1) := fun hm => by
            rw [List.take_add_one, List.getElem?_eq_getElem h] at hm
            rcases List.mem_append.1 hm with hm | hm
            · exact hn hm
            · have hm' : a = xs[i] := by simpa using hm
              exact he (by rw [hm'])
          exact has_l0 xs a hl d k (i + 1) (by omega) (by omega) (by omega) hn'
    · rw [if_neg (by omega)]
      have : xs.take i = xs := List.take_of_length_le (by omega)
      rw [this] at hn
      exact ⟨-1, rfl, .inl ⟨rfl, hn⟩⟩
theorem has_tot (xs : List ByteArray) (a : ByteArray) (hl : xs.length ≤ 1000000) : ∃ r, OLaw.smockingref00_Has.f (xs.length + 1) xs a = some r ∧ ((r = -1 ∧ a ∉ xs) ∨ ∃ j : Nat, r = j ∧ xs[j]? = some a ∧ a ∉ xs.take j) :=
  has_l0 xs a hl xs.length (xs.length + 1) 0 (by omega) (by omega) (by omega) (by simp)
def toS46 (x : Fl) : OLaw.S46 := ⟨x.1, x.2⟩
theorem C_46 {w : World} {A : Option Addr} {n : Nat} {xs : List Fl} (h : Kd.C kFl w A n xs) : Kd.C OLaw.k46 w A n (xs.map toS46) := by
  refine ⟨by rw [List.length_map]; exact h.1, h.2.1, fun hn => ?_⟩
  obtain ⟨ad, e, hc⟩ := h.2.2 hn
  refine ⟨ad, e, fun j p hj => ?_⟩
  rw [List.getElem?_map] at hj
  obtain ⟨q, hq, rfl⟩ := Option.map_eq_some_iff.1 hj
  exact hc j q hq
theorem heavy_l0 (xs : List OLaw.S46) (ps : List ByteArray) (hs : ∀ x ∈ xs, x.f0.size ≤ 140737488355328 ∧ x.f1.size ≤ 140737488355328) (hl : xs.length ≤ 140737488355328) : ∀ (d k i : Nat) (n : Int), i ≤ xs.length → xs.length - i ≤ d → d < k → 0 ≤ n → n ≤ 281474976715000 →
    ∃ r, OLaw.smockinglaw21_heavy.l0 k xs ps n (i : Int) = some r ∧ (r = false → n ≤ 4000 ∧ xs.length ≤ 61 ∧ ps.length ≤ 5 ∧ ∀ (j : Nat) (x : OLaw.S46), i ≤ j → xs[j]? = some x → x.f0.size ≤ 4000 ∧ x.f1.size ≤ 4000)
  | d, 0, i, n, _, _, hk, _, _ => by omega
  | d, k + 1, i, n, h1, hd, hk, hn0, hn1 => by
    rw [OLaw.smockinglaw21_heavy.l0]
    have fin : (∀ (j : Nat) (x : OLaw.S46), i ≤ j → xs[j]? = some x → x.f0.size ≤ 4000 ∧ x.f1.size ≤ 4000) ∨ 4000 < n → ∃ r, (if n > 4000 then (some true) else (if (xs.length : Int) > 12 then (if (xs.length : Int) ≤ 60 then (some true) else (if (xs.length : Int) > 61 then (some true) else (some (decide ((ps.length : Int) > 5))))) else (if (xs.length : Int) > 61 then (some true) else (some (decide ((ps.length : Int) > 5)))))) = some r ∧ (r = false → n ≤ 4000 ∧ xs.length ≤ 61 ∧ ps.length ≤ 5 ∧ ∀ (j : Nat) (x : OLaw.S46), i ≤ j → xs[j]? = some x → x.f0.size ≤ 4000 ∧ x.f1.size ≤ 4000) := fun hh => by
      by_cases g1 : n > 4000
      · rw [if_pos g1]; exact ⟨true, rfl, fun h => absurd h (by decide)⟩
      · rw [if_neg g1]
        have hh' := hh.resolve_right (by omega)
        by_cases g2 : (xs.length : Int) > 12
        · rw [if_pos g2]
          by_cases g3 : (xs.length : Int) ≤ 60
          · rw [if_pos g3]; exact ⟨true, rfl, fun h => absurd h (by decide)⟩
          · rw [if_neg g3]
            by_cases g4 : (xs.length : Int) > 61
            · rw [if_pos g4]; exact ⟨true, rfl, fun h => absurd h (by decide)⟩
            · rw [if_neg g4]
              exact ⟨_, rfl, fun h => ⟨by omega, by omega, by have h5 := of_decide_eq_false h; omega, hh'⟩⟩
        · rw [if_neg g2]
          by_cases g4 : (xs.length : Int) > 61
          · rw [if_pos g4]; exact ⟨true, rfl, fun h => absurd h (by decide)⟩
          · rw [if_neg g4]
            exact ⟨_, rfl, fun h => ⟨by omega, by omega, by have h5 := of_decide_eq_false h; omega, hh'⟩⟩
    by_cases h : i < xs.length
    · rw [if_pos (by omega)]
      by_cases hn : n ≤ 4000
      · rw [if_pos hn, if_pos (by omega)]
        have hrd : OLaw.rd_T46 xs (i : Int) = xs[i] := by
          show xs.getD (i : Int).toNat OLaw.z46 = _
          rw [List.getD_eq_getElem?_getD, show (i : Int).toNat = i from rfl, List.getElem?_eq_getElem h]; rfl
        rw [hrd]
        obtain ⟨b0, b1⟩ := hs _ (List.getElem_mem h)
        rw [wr (a := n + 1) (by omega) (by omega), wr (a := n + 1 + (xs[i].f0.size : Int)) (by omega) (by omega), wr (a := n + 1 + (xs[i].f0.size : Int) + (xs[i].f1.size : Int)) (by omega) (by omega), wr (a := (i : Int) + 1) (by omega) (by omega)]
        cases d with
        | zero => omega
        | succ d =>
          obtain ⟨r, hr, hf⟩ := heavy_l0 xs ps hs hl d k (i + 1) (n + 1 + (xs[i].f0.size : Int) + (xs[i].f1.size : Int)) (by omega) (by omega) (by omega) (by omega) (by omega)
          refine ⟨r, hr, fun h0 => ?_⟩
          obtain ⟨q1, q2, q3, q4⟩ := hf h0
          refine ⟨hn, q2, q3, fun j x hj hx => ?_⟩
          by_cases hji : j = i
          · subst hji
            rw [List.getElem?_eq_getElem h] at hx
            obtain rfl := Option.some.inj hx
            exact ⟨by omega, by omega⟩
          · exact q4 j x (by omega) hx
      · rw [if_neg hn]
        exact fin (.inr (by omega))
    · rw [if_neg (by omega)]
      exact fin (.inl fun j x hj hx => by
        rw [List.getElem?_eq_none (by omega)] at hx
        cases hx)
theorem heavy_tot (files : List Fl) (ps : List ByteArray) (hs : ∀ x ∈ files, x.1.size ≤ 140737488355328 ∧ x.2.size ≤ 140737488355328) (hl : files.length ≤ 140737488355328) :
    ∃ r, OLaw.smockinglaw21_heavy.f (files.length + 1) (files.map toS46) ps = some r ∧ (r = false → files.length ≤ 61 ∧ ps.length ≤ 5 ∧ ∀ f ∈ files, f.1.size ≤ 4000 ∧ f.2.size ≤ 4000) := by
  obtain ⟨r, hr, hf⟩ := heavy_l0 (files.map toS46) ps (fun x hx => by
    obtain ⟨q, hq, rfl⟩ := List.mem_map.1 hx
    exact hs q hq) (by rw [List.length_map]; exact hl) files.length (files.length + 1) 0 0 (by omega) (by rw [List.length_map]; omega) (by omega) (by omega) (by omega)
  refine ⟨r, hr, fun h0 => ?_⟩
  obtain ⟨_, q2, q3, q4⟩ := hf h0
  rw [List.length_map] at q2
  refine ⟨q2, q3, fun f hfm => ?_⟩
  obtain ⟨j, hj⟩ := List.getElem?_of_mem hfm
  exact q4 j (toS46 f) (Nat.zero_le _) (by rw [List.getElem?_map, hj]; rfl)
end Go.Proofs.YtolaiebjmhieiaaGreatDoor.OScan
end
section
namespace Go.Proofs.YtolaiebjmhieiaaGreatDoor.OScan
open Go.RowKit Go.Proofs.YtolaiebjmhieiaaGreatDoorW.PrintWords Go.Proofs.YtolaiebjmhieiaaGreatDoorW.PrintLast Go.Proofs.YtolaiebjmhieiaaGreatDoorW.PrintMore
set_option linter.unusedVariables false
set_option linter.unusedSimpArgs false
structure ArgsR (W : World) (files : List Fl) (ps : List ByteArray) (A Ap : Option Addr) (c cp : Nat) : Prop where
  glob : Glob2 W
  fc : Kd.C kFl W A files.length files
  fl : files.length ≤ c
  pc : Kd.C Kd.string W Ap ps.length ps
  pl : ps.length ≤ cp
  hA : Ap = none ∨ ∃ b o, Ap = some ⟨b, o, none⟩
  flen : files.length ≤ 140737488355328
  fsz : ∀ f ∈ files, f.1.size ≤ 140737488355328 ∧ f.2.size ≤ 140737488355328
  psz : ∀ p ∈ ps, p.size ≤ 140737488355328
theorem reach_in {us : ByteArray → List ByteArray} {S : List ByteArray} (h : ∀ x, ∀ y ∈ us x, y ∈ S) {a b : ByteArray} (hr : Graph.Reach us a b) (ha : a ∈ S) : b ∈ S := by
  induction hr with
  | refl => exact ha
  | step hb _ ih => exact ih (h _ _ hb)
structure OnceG (files : List Fl) (ps : List ByteArray) (m : AL) (name : ByteArray) (l : List ByteArray) (zs : List Pr) : Prop where
  open_ : openF files = (0, some m)
  er : ∀ f ∈ files, erN m f.1 = 0
  found : Graph.Found (erN m) (gR m ps) name l
  cir : ∀ f ∈ files, ∀ y ∈ gR m ps f.1, Graph.Reach (gR m ps) y f.1 → (f.1, y) ∈ zs
  nm : (alGet m name).isSome = true
  in_ : ∀ x, ∀ y ∈ gR m ps x, y ∈ files.map (·.1)
section
variable {files : List Fl} {ps : List ByteArray} {m : AL} {name : ByteArray} {l : List ByteArray} {zs : List Pr}
theorem OnceG.nameIn (h : OnceG files ps m name l zs) : name ∈ files.map (·.1) := by
  obtain ⟨u, hu⟩ := Option.isSome_iff_exists.1 h.nm
  obtain ⟨f, hf, e, _⟩ := (open_get h.open_).1 name u hu
  exact List.mem_map.2 ⟨f, hf, e⟩
theorem OnceG.isFile (h : OnceG files ps m name l zs) {x : ByteArray} (hx : x ∈ l) : ∃ f ∈ files, f.1 = x := by
  have := reach_in h.in_ ((h.found.mem x).1 hx) h.nameIn
  obtain ⟨f, hf, e⟩ := List.mem_map.1 this
  exact ⟨f, hf, e⟩
theorem OnceG.isSome (h : OnceG files ps m name l zs) {x : ByteArray} (hx : x ∈ l) : (alGet m x).isSome = true := by
  obtain ⟨f, hf, rfl⟩ := h.isFile hx
  exact (open_get h.open_).2 f hf
theorem OnceG.last_ (h : OnceG files ps m name l zs) : ∃ k, l.length = k + 1 ∧ l[k]? = some name := by
  obtain ⟨o, ho⟩ := h.found.last
  exact ⟨o.length, by rw [ho]; simp, by rw [ho]; simp⟩
theorem nodup_take {α : Type} : ∀ {l : List α}, l.Nodup → ∀ {i : Nat} {x : α}, l[i]? = some x → x ∉ l.take i
  | [], _, i, x, h => by simp at h
  | a :: l, hn, 0, x, h => by simp
  | a :: l, hn, i + 1, x, h => by
    rw [List.nodup_cons] at hn
    simp only [List.getElem?_cons_succ] at h
    rw [List.take_succ_cons, List.mem_cons]
    rintro (rfl | hm)
    · exact hn.1 (List.mem_of_getElem? h)
    · exact nodup_take hn.2 h hm
theorem OnceG.once (h : OnceG files ps m name l zs) {i : Nat} {x : ByteArray} (hx : l[i]? = some x) : x ∉ l.take i := nodup_take h.found.nd hx
theorem OnceG.used (h : OnceG files ps m name l zs) {i : Nat} {x : ByteArray} (hx : l[i]? = some x) {u : Us} (hu : u ∈ usR m ps x) (hne : u.2.2.toList ≠ []) :
    u.2.2 ∈ l ∧ ∀ j, l[j]? = some u.2.2 → u.2.2 ∉ l.take j → j ≤ i ∨ (x, u.2.2) ∈ zs := by
  have hxm := List.mem_of_getElem? hx
  have hy : u.2.2 ∈ gR m ps x := fsOf_in hu hne
  refine ⟨(h.found.mem _).2 (((h.found.mem x).1 hxm).snoc _ hy), fun j hj hnj => ?_⟩
  have hil : i < l.length := (List.getElem?_eq_some_iff.1 hx).1
  have hsp : l = l.take i ++ x :: l.drop (i + 1) := by
    have e : l[i] = x := (List.getElem?_eq_some_iff.1 hx).2
    rw [← e, ← List.drop_eq_getElem_cons hil, List.take_append_drop]
  rcases h.found.good _ _ _ hsp _ hy with hc | hc | hc
  · refine .inl (Nat.le_of_not_lt fun hlt => hnj ?_)
    obtain ⟨q, hq⟩ := List.getElem?_of_mem hc
    rw [List.getElem?_take] at hq
    split at hq
    · exact List.mem_of_getElem? (i := q) (by rw [List.getElem?_take, if_pos (by omega)]; exact hq)
    · cases hq
  · refine .inl (Nat.le_of_not_lt fun hlt => hnj ?_)
    exact List.mem_of_getElem? (i := i) (by rw [List.getElem?_take, if_pos hlt, hc]; exact hx)
  · obtain ⟨f, hf, rfl⟩ := h.isFile hxm
    exact .inr (h.cir f hf _ hy hc)
theorem OnceG.user (h : OnceG files ps m name l zs) {x : ByteArray} (hx : x ∈ l) {xs : List ByteArray} (hxs : ∀ f ∈ files, Graph.Reach (gR m ps) f.1 x → f.1 ∈ xs) : name ∈ xs := by
  obtain ⟨f, hf, e⟩ := List.mem_map.1 h.nameIn
  have := hxs f hf (by rw [e]; exact (h.found.mem x).1 hx)
  rwa [e] at this
end
section
variable {W : World} {files : List Fl} {ps : List ByteArray} {A Ap : Option Addr} {c cp : Nat}
theorem onceG_of (H : ArgsOK W files ps A Ap c cp) {name : ByteArray} {l : List ByteArray} {zs : List Pr}
    (h2 : ∃ m met, openF files = (0, some m) ∧ (alGet m name).isSome = true ∧ Graph.Walk (erN m) (gR m ps) name [] [] 0 met l)
    (h3 : ∃ m, openF files = (0, some m) ∧ (∀ f ∈ files, erN m f.1 = 0) ∧ ∀ f ∈ files, ∀ y ∈ gR m ps f.1, Graph.Reach (gR m ps) y f.1 → (f.1, y) ∈ zs) :
    ∃ m, OnceG files ps m name l zs ∧ l.length ≤ 1000 := by
  obtain ⟨m, met, hm, hs, hw⟩ := h2
  obtain ⟨m', hm', he, hc⟩ := h3
  rw [hm] at hm'
  obtain rfl : m = m' := by injection hm' with _ h; injection h
  have hG : OnceG files ps m name l zs := ⟨hm, he, Graph.found_of_walk (erN m) (gR m ps) hw, hc, hs, gR_in H hm⟩
  have E := H.env hm 0 0 0
  have h1 := (Graph.walk_len (erN m) (gR m ps) (gR_in H hm) _ _ _ _ _ _ hw (E.nm name hs)).2
  have h2 := left_le (files.map (·.1)) []
  have h3 := E.small
  simp only [List.length_nil] at h1
  exact ⟨m, hG, by omega⟩
end
end Go.Proofs.YtolaiebjmhieiaaGreatDoor.OScan
end
section
namespace Go.Proofs.YtolaiebjmhieiaaGreatDoor.OScan
open Go.RowKit Go.Proofs.YtolaiebjmhieiaaGreatDoorW.PrintWords Go.Proofs.YtolaiebjmhieiaaGreatDoorW.PrintLast Go.Proofs.YtolaiebjmhieiaaGreatDoorW.PrintMore
set_option linter.unusedVariables false
set_option linter.unusedSimpArgs false
section
variable {W : World} {files : List Fl} {ps : List ByteArray} {A Ap : Option Addr} {c cp : Nat}
set_option maxHeartbeats 8000000 in
set_option maxRecDepth 100000 in
theorem once_any (H : ArgsR W files ps A Ap c cp) (name : ByteArray) :
    Calls Tryz.prog 5 #[.slice A files.length c, .string name, .slice Ap ps.length cp] W fun e w' => e = .returned (.bool true) ∧ Below W.heap.size W w' := by
  obtain ⟨r, hr, hrf⟩ := heavy_tot files ps H.fsz H.flen
  have H6 := OLaw.smockinglaw21_heavy.calls (files.length + 1) A c (files.map toS46) Ap cp ps r W (by rw [List.length_map]; exact C_46 H.fc) (by rw [List.length_map]; exact H.fl) H.pc H.pl hr
  rw [List.length_map] at H6
  cases r with
  | true =>
    obtain ⟨n, hn⟩ : ∃ n, n = files.length := ⟨_, rfl⟩
    obtain ⟨np, hnp⟩ : ∃ np, np = ps.length := ⟨_, rfl⟩
    rw [← hn, ← hnp] at H6
    rw [← hn, ← hnp]
    clear H hr hrf hn hnp
    go_enter Tryz.func5, Tryz.ntmps5
    go_wp2_with (go_at_call 6; go_loud (refine H6.mono ?_; rintro e w5 ⟨rfl, hd5⟩; have HB5 := Aside0.mk hd5.below; clear hd5))
    go_ret
    exact ⟨rfl, HB5.out⟩
  | false =>
    obtain ⟨hf1, hf2, hf3⟩ := hrf rfl
    have HA : ArgsOK W files ps A Ap c cp := ⟨H.glob, H.fc, H.fl, H.pc, H.hA, hf2, hf1, hf3, H.psz⟩
    have H9 := Aside0.mk (fun (w : World) (hb : Below W.heap.size W w) => All_any (HA.below hb) name)
    have H17 := Aside0.mk (fun (w : World) (hb : Below W.heap.size W w) => Circles_any (HA.below hb))
    have H14 := Aside0.mk (fun (w : World) (hb : Below W.heap.size W w) => awake_any w (H.glob.below hb))
    have H7 := Aside0.mk (fun (w : World) (hb : Below W.heap.size W w) (m : AL) hm n h1 h2 => Uses_ok (HA.below hb) (m := m) hm n h1 h2)
    have H15 := Aside0.mk (fun (w : World) (hb : Below W.heap.size W w) (m : AL) hm hall n h1 => Users_ok (HA.below hb) (m := m) hm hall n h1)
    have HG := Aside0.mk (fun (l : List ByteArray) (zs : List Pr) h2 h3 => onceG_of HA (name := name) (l := l) (zs := zs) h2 h3)
    have HUL := Aside0.mk (fun (m : AL) (hm : openF files = (0, some m)) (n : ByteArray) => usR_len m ps n (HA.text hm n))
    obtain ⟨n, hn⟩ : ∃ n, n = files.length := ⟨_, rfl⟩
    obtain ⟨np, hnp⟩ : ∃ np, np = ps.length := ⟨_, rfl⟩
    rw [← hn, ← hnp] at H6 H9 H17 H7 H15
    rw [← hn, ← hnp]
    clear H hr hrf hn hnp HA hf1 hf2 hf3
    go_enter Tryz.func5, Tryz.ntmps5
    go_wp2_with (first | (go_at_call 6; go_loud (refine H6.mono ?_; rintro e w1 ⟨rfl, hd1⟩; have HB1 := Aside0.mk hd1.below; clear hd1)) | (go_at_call 9; go_loud (refine (H9.out w1 HB1.out).mono ?_; rintro e w2 ⟨er2, v2, l2, rfl, hb2, hr2, hx2⟩; obtain ⟨A2, c2, rfl⟩ := Kd.R_slice hr2; obtain ⟨L, hL⟩ : ∃ L, L = l2.length := ⟨_, rfl⟩; have HL := Aside0.mk hL; rw [← hL] at hr2 ⊢; have HB2 := Aside0.mk (below_step HB1.out hb2); have HR2 := Aside0.mk hr2; have HX2 := Aside0.mk hx2; clear hb2 hr2 hx2 hL)) | (go_at_call 17; go_loud (refine (H17.out w2 HB2.out).mono ?_; rintro e w3 ⟨er3, A3, c3, zs, rfl, hb3, hC3, hle3, hl3, hx3⟩; obtain ⟨Z, hZ⟩ : ∃ Z, Z = zs.length := ⟨_, rfl⟩; have HZ := Aside0.mk hZ; rw [← hZ] at hC3 hle3 hl3 ⊢; have HB3 := Aside0.mk (below_step HB2.out hb3); have HC3 := Aside0.mk hC3; have HR3 := Aside0.mk (Kd.R_below HR2.out hb3); have hz1 := hle3; have hz2 := hl3; clear hb3 hC3 hle3 hl3 hZ; by_cases he3 : er2 = 0 ∧ er3 = 0; (case' pos => (obtain ⟨rfl, rfl⟩ := he3; obtain ⟨m, hog, hl1⟩ := HG.out l2 zs (HX2.out rfl) (hx3 rfl); obtain ⟨k, hk1, hk2⟩ := hog.last_; rw [← HL.out] at hl1 hk1; have HOG := Aside0.mk hog; obtain ⟨ad2, hAd2, hcell⟩ := str_at (Kd.R_reads' HR3.out).2.2 k (by rw [← HL.out]; omega) name hk2; obtain rfl := hAd2; rw [show k * 1 = L - 1 by omega] at hcell; have hle2 := (Kd.R_reads' HR3.out).2.1; have hL0 : decide ((L : Int) = 0) = false := decide_eq_false (by omega); have hL1 : 1 ≤ L := (by omega); clear hog hk2 hx3 hk1 k)); (case' neg => (have HE3 := Aside0.mk he3; clear hx3 he3)))) | (go_at_call 14; go_loud (refine (H14.out w3 HB3.out).mono ?_; rintro e w4 ⟨rfl, hb4⟩; have HB4 := Aside0.mk (below_step HB3.out hb4); clear hb4)))
    · go_ret
      exact ⟨rfl, HB4.out⟩
    · exact absurd ⟨by assumption, by have h : (er3 != 0) = false := by assumption
                                      simpa using h⟩ HE3.out
    · exact absurd ⟨by assumption, by have h : (er3 != 0) = false := by assumption
                                      simpa using h⟩ HE3.out
    · go_ret
      exact ⟨rfl, HB4.out⟩
    clear H6 hcell
    have HR2 := HR3
    clear HR3 HX2 HB1 HB2 H9 H17 HG
    have hLb : ((L : Int) == 0) = false := by assumption
    simp only [hLb]
    go_loopg [11] L (fun kq v11 wr => ∃ (i : Nat), v11 = .int .i64 i ∧ Aside0 (kq + i = L) ∧ Aside0 (Below w3.heap.size w3 wr))
    case atStart => exact ⟨0, rfl, ⟨rfl⟩, ⟨Below.refl _ _⟩⟩
    case round =>
      obtain ⟨i, rfl, hki, hB⟩ := hrel
      have hki' := hki.out
      cases gk with
      | zero =>
        have hlt : decide ((i : Int) < (L : Int)) = false := decide_eq_false (by omega)
        go_wp2_with (go_at_call 14; go_loud (refine (H14.out wr (below_step HB3.out hB.out)).mono ?_; rintro e w4 ⟨rfl, hb4⟩; have HB4 := Aside0.mk (below_step (below_step HB3.out hB.out) hb4); clear hb4))
        go_ret
        exact ⟨rfl, HB4.out⟩
      | succ g1 =>
        have hlt : decide ((i : Int) < (L : Int)) = true := decide_eq_true (by omega)
        have hii : (0 : Int) ≤ (i : Int) := by omega
        have hiL : i < L := by omega
        have hic : i ≤ c2 := by omega
        obtain ⟨x, hx⟩ : ∃ x, l2[i]? = some x := ⟨_, List.getElem?_eq_getElem (by rw [← HL.out]; omega)⟩
        have HR4 := Kd.R_below HR2.out hB.out
        obtain ⟨ad3, hAd3, hc1⟩ := str_at (Kd.R_reads' HR4).2.2 i (by rw [← HL.out]; omega) x hx
        obtain rfl : ad2 = ad3 := by injection hAd3
        rw [Nat.mul_one] at hc1
        have H19 : Aside0 (∀ q, Calls Tryz.prog 19 #[.slice (some ad2) i c2, .string x] (wr.drewN q) fun e w'' => e = .returned (.int .i64 (-1)) ∧ ∃ m, w'' = wr.drewN m) := ⟨fun q => by
          have hT := Kd.C_take (Kd.R_reads' HR4).2.2 (m := i) (by rw [← HL.out]; omega)
          have hTl : (l2.take i).length = i := by rw [List.length_take, ← HL.out]; omega
          obtain ⟨r, hr, hrr⟩ := has_tot (l2.take i) x (by rw [hTl]; omega)
          have hr1 : r = -1 := by
            rcases hrr with ⟨h, _⟩ | ⟨j, _, h, _⟩
            · exact h
            · exact absurd (List.mem_of_getElem? h) (HOG.out.once hx)
          have := OLaw.smockingref00_Has.calls ((l2.take i).length + 1) (some ad2) c2 (l2.take i) x r (wr.drewN q) (Kd.C_drewN hT q) (by rw [hTl]; exact hic) hr
          rw [hTl, hr1] at this
          refine this.mono ?_
          rintro e w'' ⟨rfl, hd⟩
          obtain ⟨q2, rfl⟩ := hd.out
          exact ⟨rfl, q + q2, by rw [World.drewN_drewN]⟩⟩
        have HX := Aside0.mk hx
        have HB4 := Aside0.mk (below_step HB3.out hB.out)
        have hB0 := hB
        clear hx hB HR4 hAd3
        go_wp2_with (fail)
        go_quiet (first | (go_at_call 19; exact H19.out _))
        have HB5 : Aside0 (Below W.heap.size W (wr.drewN nq) ∧ Below w3.heap.size w3 (wr.drewN nq)) := ⟨pw_below_drewN HB4.out nq, pw_below_drewN hB0.out nq⟩
        have hc2 : (wr.drewN nq).cell? (ad2.add i) = some (.string x) := hc1
        clear H19 hc1 HB4 hB0
        generalize wr.drewN nq = w5 at *
        have hxm := List.mem_of_getElem? HX.out
        have H7x := H7.out w5 HB5.out.1 m HOG.out.open_ x (HOG.out.isSome hxm) (HOG.out.found.erz x hxm)
        have hul := HUL.out m HOG.out.open_ x
        obtain ⟨l, hlus⟩ : ∃ l, l = usR m ps x := ⟨_, rfl⟩
        rw [← hlus] at H7x hul
        have HUS := Aside0.mk hlus
        obtain ⟨U, hU⟩ : ∃ U, U = l.length := ⟨_, rfl⟩
        rw [← hU] at hul
        have HLE := Aside0.mk hU
        have HXM := Aside0.mk hxm
        clear hlus hU hxm
        go_wp2_with (go_at_call 7; go_loud (refine H7x.mono ?_; rintro e w6 ⟨v6, rfl, hb6, hr6⟩; obtain ⟨A6, c6, rfl⟩ := Kd.R_slice hr6; rw [← HLE.out] at hr6 ⊢; have HB6 := Aside0.mk (And.intro (below_step HB5.out.1 hb6) (below_step HB5.out.2 hb6)); have HR6 := Aside0.mk hr6; clear hb6 hr6))
        clear hc2 H7x HB5
        go_loopg [14] U (fun kq v14 w' => ∃ (j : Nat), v14 = .int .i64 j ∧ Aside0 (kq + j = U) ∧ Aside0 (Below w6.heap.size w6 w'))
        case atStart => exact ⟨0, rfl, ⟨rfl⟩, ⟨Below.refl _ _⟩⟩
        case round =>
          obtain ⟨j, rfl, hkj, hB6⟩ := hrel
          have hkj' := hkj.out
          have HBw := Aside0.mk (And.intro (below_step HB6.out.1 hB6.out) (below_step HB6.out.2 hB6.out))
          have HRw := Aside0.mk (Kd.R_below HR6.out hB6.out)
          obtain ⟨ad3, hAd3, hc1⟩ := str_at (Kd.R_reads' (Kd.R_below HR2.out HBw.out.2)).2.2 i (by rw [← HL.out]; omega) x HX.out
          obtain rfl : ad2 = ad3 := by injection hAd3
          rw [Nat.mul_one] at hc1
          clear hAd3
          cases gk with
          | zero =>
            have hlt : decide ((j : Int) < (U : Int)) = false := decide_eq_false (by omega)
            have H15x := H15.out wr HBw.out.1 m HOG.out.open_ HOG.out.er x (HOG.out.isSome HXM.out)
            go_wp2_with (first | (go_at_call 15; go_loud (refine H15x.mono ?_; rintro e w7 ⟨v7, xs, rfl, hb7, hr7, hl7, hu7⟩; obtain ⟨A7, c7, rfl⟩ := Kd.R_slice hr7; have hnm := HOG.out.user HXM.out hu7; obtain ⟨r, hr, hrr⟩ := has_tot xs name (by omega); have H19 := OLaw.smockingref00_Has.calls (xs.length + 1) A7 c7 xs name r w7 (Kd.R_reads' hr7).2.2 (Kd.R_reads' hr7).2.1 hr; have hr0 : decide (r < 0) = false := (by rcases hrr with ⟨_, h⟩ | ⟨q, h, _⟩; exact absurd hnm h; exact decide_eq_false (by omega)); have HB7 := Aside0.mk (below_step HBw.out.2 hb7); clear hb7 hr7 hl7 hu7 hr hrr hnm)) | (go_at_call 19; go_loud (refine H19.mono ?_; rintro e w8 ⟨rfl, hd8⟩; have HB8 := Aside0.mk (below_step HB7.out hd8.below); clear hd8)))
            go_roundg g1
            case measure => omega
            case rel => exact ⟨i + 1, (by (try simp)), ⟨by omega⟩, HB8⟩
          | succ g2 =>
            have hlt : decide ((j : Int) < (U : Int)) = true := decide_eq_true (by omega)
            have hjj : (0 : Int) ≤ (j : Int) := by omega
            have hjU : j < U := by omega
            obtain ⟨u, hu⟩ : ∃ u, l[j]? = some u := ⟨_, List.getElem?_eq_getElem (by rw [← HLE.out]; omega)⟩
            obtain ⟨ad4, hAd4, hx0, hx1, hx2⟩ := us_at (Kd.R_reads' HRw.out).2.2 j (by rw [← HLE.out]; omega) u hu
            obtain rfl := hAd4
            have hum := List.mem_of_getElem? hu
            rw [HUS.out] at hum
            have husd := HOG.out.used HX.out hum
            obtain ⟨un, uq, uf⟩ := u
            simp only at hx0 hx1 hx2 husd
            have HUD := Aside0.mk husd
            have HU := Aside0.mk hu
            clear husd hum hu
            by_cases huf : uf.toList = []
            · have e1 : (uf.toList == ([] : List UInt8)) = true := by rw [huf]; rfl
              clear huf
              go_wp2_with (fail)
              go_roundg g2
              case measure => omega
              case rel => exact ⟨j + 1, (by (try simp)), ⟨by omega⟩, hB6⟩
            · have e1 : (uf.toList == ([] : List UInt8)) = false := beq_eq_false_iff_ne.mpr huf
              obtain ⟨hin, hpl⟩ := HUD.out huf
              have hR2w := Kd.R_reads' (Kd.R_below HR2.out HBw.out.2)
              obtain ⟨r, hr, hrr⟩ := has_tot l2 uf (by rw [← HL.out]; omega)
              have H19 := OLaw.smockingref00_Has.calls (l2.length + 1) (some ad2) c2 l2 uf r wr hR2w.2.2 (by rw [← HL.out]; omega) hr
              rw [← HL.out] at H19
              obtain ⟨at0, rfl, hat1, hat2⟩ : ∃ q : Nat, r = (q : Int) ∧ l2[q]? = some uf ∧ uf ∉ l2.take q := hrr.resolve_left (fun h => h.2 hin)
              have HAT := Aside0.mk (hpl at0 hat1 hat2)
              clear huf hin hpl hR2w hr hrr hat1 hat2
              go_wp2_with (go_at_call 19; go_loud (refine H19.mono ?_; rintro e w8 ⟨rfl, hd8⟩; have HB8 := Aside0.mk hd8.below; clear hd8))
              clear hx0 hx1 hx2 hc1 H19
              obtain ⟨zb, hzb⟩ : ∃ zb, zb = wr := ⟨_, rfl⟩
              subst hzb
              go_loopg [16, 17] Z (fun kq v16 v17 w' => ∃ (q : Nat) (b : Bool), v17 = .int .i64 q ∧ v16 = .bool b ∧ Aside0 (kq + q = Z) ∧ Aside0 (Below zb.heap.size zb w') ∧ Aside0 ((x, uf) ∈ zs.take q → b = true))
              case atStart => exact ⟨0, false, rfl, rfl, ⟨rfl⟩, HB8, ⟨fun h => by simp at h⟩⟩
              case round =>
                obtain ⟨q, b, rfl, rfl, hkq, hBq, hbq⟩ := hrel
                have hkq' := hkq.out
                cases gk with
                | zero =>
                  have hlt : decide ((q : Int) < (Z : Int)) = false := decide_eq_false (by omega)
                  have hfin : (x, uf) ∈ zs → b = true := fun h => hbq.out (by rw [List.take_of_length_le (by rw [← HZ.out]; omega)]; exact h)
                  have hat : ¬ i < at0 ∨ (i < at0 ∧ b = true) := by
                    rcases HAT.out with h | h
                    · exact .inl (by omega)
                    · by_cases hl : i < at0
                      · exact .inr ⟨hl, hfin h⟩
                      · exact .inl hl
                  have HBn := Aside0.mk (below_step hB6.out hBq.out)
                  clear hfin hbq
                  rcases hat with hat | ⟨hat, rfl⟩
                  · have hat2 : decide (i < at0) = false := decide_eq_false hat
                    go_wp2_with (fail)
                    go_roundg g2
                    case measure => omega
                    case rel => exact ⟨j + 1, (by (try simp)), ⟨by omega⟩, HBn⟩
                  · have hat2 : decide (i < at0) = true := decide_eq_true hat
                    go_wp2_with (fail)
                    go_roundg g2
                    case measure => omega
                    case rel => exact ⟨j + 1, (by (try simp)), ⟨by omega⟩, HBn⟩
                | succ g3 =>
                  have hlt : decide ((q : Int) < (Z : Int)) = true := decide_eq_true (by omega)
                  have hqq : (0 : Int) ≤ (q : Int) := by omega
                  have hqZ : q < Z := by omega
                  obtain ⟨z, hz⟩ : ∃ z, zs[q]? = some z := ⟨_, List.getElem?_eq_getElem (by rw [← HZ.out]; omega)⟩
                  have htk := take_snoc zs q z hz
                  have hBn := below_step HBw.out.2 hBq.out
                  have hzc := Kd.C_below HC3.out hBn
                  obtain ⟨ad5, hAd5, hz0, hz1⟩ := fl_at hzc q hqZ z hz
                  obtain rfl := hAd5
                  obtain ⟨ad3, hAd3, hc1⟩ := str_at (Kd.R_reads' (Kd.R_below HR2.out hBn)).2.2 i (by rw [← HL.out]; omega) x HX.out
                  obtain rfl : ad2 = ad3 := by injection hAd3
                  rw [Nat.mul_one] at hc1
                  obtain ⟨ad6, hAd6, hy0, hy1, hy2⟩ := us_at (Kd.R_reads' (Kd.R_below HRw.out hBq.out)).2.2 j (by rw [← HLE.out]; omega) _ HU.out
                  obtain rfl : ad4 = ad6 := by injection hAd6
                  obtain ⟨z1, z2⟩ := z
                  simp only at hz0 hz1 hy0 hy1 hy2
                  have HTK := Aside0.mk htk
                  clear hAd3 hAd6 hzc hz htk
                  cases b with
                  | true =>
                    go_wp2_with (fail)
                    go_quiet (fail)
                    have HBe : Aside0 (Below zb.heap.size zb (wr.drewN nq)) := ⟨pw_below_drewN hBq.out nq⟩
                    clear hc1 hz0 hz1 hy0 hy1 hy2
                    generalize wr.drewN nq = w9 at *
                    go_wp2_with (fail)
                    go_roundg g3
                    case measure => omega
                    case rel => exact ⟨q + 1, true, (by (try simp)), (by (try simp)), ⟨by omega⟩, HBe, ⟨fun _ => rfl⟩⟩
                  | false =>
                    have heq := fun w => eq43 z1 z2 x uf w
                    obtain ⟨bb, hbb⟩ : ∃ bb, bb = (z1.toList == x.toList && z2.toList == uf.toList) := ⟨_, rfl⟩
                    rw [← hbb] at heq
                    have HBB := Aside0.mk hbb
                    clear hbb
                    go_wp2_with (fail)
                    go_quiet (fail)
                    have HBe : Aside0 (Below zb.heap.size zb (wr.drewN nq)) := ⟨pw_below_drewN hBq.out nq⟩
                    clear hc1 hz0 hz1 hy0 hy1 hy2 heq
                    generalize wr.drewN nq = w9 at *
                    go_wp2_with (fail)
                    go_roundg g3
                    case measure => omega
                    case rel =>
                      refine ⟨q + 1, bb, (by (try simp)), (by (try simp)), ⟨by omega⟩, HBe, ⟨fun h => ?_⟩⟩
                      rw [HTK.out] at h
                      rcases List.mem_append.1 h with h | h
                      · exact absurd (hbq.out h) (by decide)
                      · obtain ⟨rfl, rfl⟩ := Prod.mk.inj (List.mem_singleton.1 h)
                        rw [HBB.out]
                        simp
end
end Go.Proofs.YtolaiebjmhieiaaGreatDoor.OScan
end
