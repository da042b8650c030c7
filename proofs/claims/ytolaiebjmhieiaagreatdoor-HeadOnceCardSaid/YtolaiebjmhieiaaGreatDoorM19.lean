/- HeadOnce: for every list of files, every name and every list of places the law answers true, and all read behind the call as before; the listed tables are tied to the text of the program; no condition. Here: parts of its proof. -/
import Derived.Test.YtolaiebjmhieiaaGreatDoorM18
import Derived.Test.YtolaiebjmhieiaaGreatDoorProg
import Derived.Conc.MuLib
import Derived.Conc.MuLone
import Derived.KernelRfl
import Derived.Defers
section
namespace Go.Proofs.YtolaiebjmhieiaaGreatDoor.OScan
open Go.RowKit Go.Proofs.YtolaiebjmhieiaaGreatDoorW.PrintWords Go.Proofs.YtolaiebjmhieiaaGreatDoorW.PrintLast Go.Proofs.YtolaiebjmhieiaaGreatDoorW.PrintMore
set_option linter.unusedVariables false
set_option linter.unusedSimpArgs false
def JoinOf (d name : ByteArray) (r : ByteArray × Bool) : Prop := ∃ k, OJoin.head_joined.f k d name = some r
def findGo : AL → List (ByteArray × Bool) → ByteArray
  | _, [] => ⟨#[]⟩
  | m, j :: l => if j.2 = true ∧ (alGet m j.1).isSome = true then j.1 else findGo m l
theorem clone_any (xs : List ByteArray) (Ap : Option Addr) (c : Nat) (w : World) (HC : Kd.C Kd.string w Ap xs.length xs) (hA : Ap = none ∨ ∃ b o, Ap = some ⟨b, o, none⟩) (hl : xs.length ≤ 1000) :
    Calls Tryz.prog 76 #[.slice Ap xs.length c] w fun e w' => ∃ v', e = .returned v' ∧ w'.ownsRow w.heap.size 9 1 v' xs.length (xs.map Value.string) ∧ Below w.heap.size w w' := by
  rcases hA with rfl | ⟨b, o, rfl⟩
  · have h0 : xs = [] := by
      cases xs with
      | nil => rfl
      | cons x xs =>
        obtain ⟨ad, e, _⟩ := str_at HC 0 (by simp) x rfl
        cases e
    subst h0
    exact (Tryz.slices_Clone_string_nil 0 c w).mono fun e w' ⟨he, hw⟩ => ⟨_, he, ⟨rfl, .inl ⟨rfl, rfl⟩⟩, by rw [hw]; exact Below.refl _ _⟩
  · have H := Tryz.slices_Clone_string b o xs.length c xs w (Nat.le_refl _) (by omega) (fun j hj => by
      obtain ⟨ad, e, hc⟩ := str_at HC j hj (xs.getD j ByteArray.empty) (by simp [List.getD_eq_getElem?_getD, List.getElem?_eq_getElem hj])
      obtain rfl : (⟨b, o, none⟩ : Addr) = ad := by injection e
      rw [Nat.mul_one, Addr.add_lit] at hc
      exact hc)
    rw [List.take_length] at H
    exact H.mono fun e w' ⟨v', h1, h2, _, h4⟩ => ⟨v', h1, h2, h4⟩
theorem own_C {w : World} {base n : Nat} {v : Value} {xs : List ByteArray} (hn : n = xs.length) (h : w.ownsRow base 9 1 v n (xs.map Value.string)) : ∃ A c, v = .slice A n c ∧ n ≤ c ∧ Kd.C Kd.string w A n xs := by
  subst hn
  have hR := Kd.R_of_own (enc := Value.string) (h1 := fun _ => rfl) h (ok := fun _ => True) (fun _ _ => trivial)
  obtain ⟨A, c, rfl⟩ := Kd.R_slice hR
  have := Kd.R_reads' hR
  exact ⟨A, c, rfl, this.2.1, this.2.2⟩
structure PrjF (w : World) (PB fm cm : Nat) (lk : Int) (pv : Value) (m : AL) : Prop where
  hP : w.heap[PB]? = some (.cells #[.map (some fm), pv, .int .i32 lk, .int .u32 0, .map (some cm)] 87 (0, 0))
  hm : MapIs w fm m
set_option maxHeartbeats 1000000 in
set_option maxRecDepth 100000 in
theorem find_any (m : AL) (lk : Int) (ps : List ByteArray) (from_ name file : ByteArray) (q : Bool) (ld : Int) (kl : Nat) (js : List (ByteArray × Bool)) (PB fm cm : Nat) (Ap : Option Addr) (cp : Nat) (w : World)
    (HP : PrjF w PB fm cm lk (.slice Ap ps.length cp) m) (HC : Kd.C Kd.string w Ap ps.length ps) (hA : Ap = none ∨ ∃ b o, Ap = some ⟨b, o, none⟩) (hl : ps.length ≤ 900)
    (hld : OJoin.strings_LastIndexByte.f kl from_ 47 = some ld) (hl1 : -1 ≤ ld) (hl2 : ld < from_.size) (hfs : from_.size ≤ 1000000)
    (dirs : List ByteArray) (hdirs : dirs = if q = true then from_.extract 0 (max 0 ld).toNat :: ps else ps) (hjl : js.length = dirs.length)
    (hj : ∀ (i : Nat) (d : ByteArray), dirs[i]? = some d → ∃ j, js[i]? = some j ∧ JoinOf d name j) :
    Calls Tryz.prog 44 #[.pointer (some ⟨PB, 0, none⟩), .string from_, .agg #[.string name, .bool q, .string file]] w fun e w' => e = .returned (.string (findGo m js)) ∧ Below w.heap.size w w' := by
  have hp1 : w.cell? ⟨PB, 1, none⟩ = some (.slice Ap ps.length cp) := by have := cell_of_row w PB 1 _ _ _ HP.hP; simpa using this
  have hB0 := below_alloc (Below.refl w.heap.size w) (Obj.cells #[Value.string name, Value.bool q, Value.string file] 34)
  have H76 := clone_any ps Ap cp (w.alloc (Obj.cells #[Value.string name, Value.bool q, Value.string file] 34)) (Kd.C_below HC hB0) hA (by omega)
  obtain ⟨n, hn⟩ : ∃ n, n = ps.length := ⟨_, rfl⟩
  rw [← hn] at hp1 H76
  have HN := Aside0.mk hn
  have HPA := Aside0.mk HP
  have HB0 := Aside0.mk hB0
  have HJ := Aside0.mk hj
  have HLD := Aside0.mk hld
  have hBX : (w.alloc (Obj.cells #[Value.string name, Value.bool q, Value.string file] 34)).heap[w.heap.size]? = some (.cells #[Value.string name, Value.bool q, Value.string file] 34 (0, 0)) := blk_new _ _
  have HBX := Aside0.mk hBX
  have HDI := Aside0.mk hdirs
  have HJL := Aside0.mk hjl
  have HLN := Aside0.mk hl
  have hp1' := (HB0.out.cell (World.block_lt_of_cell? w _ hp1)).trans hp1
  clear hn HP HC hA hB0 hj hld hBX hdirs hjl hl
  cases q with
  | false =>
    go_enter Tryz.func44, Tryz.ntmps44
    go_wp2_with (first | (go_at_call 76; go_loud (refine H76.mono ?_; rintro e w5 ⟨v5, rfl, ho5, hb5⟩; have hbx := (hb5.block _ (blk_lt HBX.out)).trans HBX.out; have b1 : w5.cell? ⟨w.heap.size, 1, none⟩ = some (.bool false) := (by have := cell_of_row w5 _ 1 _ _ _ hbx; simpa using this); obtain ⟨A5, c5, rfl, hc5, hC5⟩ := own_C HN.out ho5; have HC5 := Aside0.mk hC5; have HB5 := Aside0.mk (below_step HB0.out hb5); have HX5 := Aside0.mk hbx; clear ho5 hb5 hbx hC5)))
    obtain ⟨W1, hW1⟩ : ∃ W1, W1 = w5 := ⟨_, rfl⟩
    subst hW1
    have hdd : dirs = ps := by rw [HDI.out]; rfl
    subst hdd
    obtain ⟨nd, hnd⟩ : ∃ nd, nd = n := ⟨_, rfl⟩
    rw [← hnd]
    have HND : Aside0 (nd = dirs.length) := ⟨hnd.trans HN.out⟩
    have HDC : Aside0 (Kd.C Kd.string W1 A5 nd dirs) := ⟨by rw [hnd]; exact HC5.out⟩
    have HB1 := HB5
    have hnb : nd ≤ 1000 := by rw [HND.out]; have := HLN.out; omega
    have hn0 : W1.cell? ⟨w.heap.size, 0, none⟩ = some (.string name) := by have := cell_of_row W1 _ 0 _ _ _ HX5.out; simpa using this
    clear hnd HC5
    go_loopg [31] nd (fun kq v31 w' => ∃ (i : Nat), v31 = .int .i64 i ∧ Aside0 (kq + i = nd) ∧ Aside0 (findGo m (js.drop i) = findGo m js) ∧ Aside0 (Below W1.heap.size W1 w'))
    case atStart => exact ⟨0, rfl, ⟨rfl⟩, ⟨rfl⟩, ⟨Below.refl _ _⟩⟩
    case round =>
      obtain ⟨i, rfl, hki, hF, hB⟩ := hrel
      have hki' := hki.out
      have HBW : Aside0 (Below w.heap.size w wr) := ⟨below_step HB1.out hB.out⟩
      cases gk with
      | zero =>
        have hlt : decide ((i : Int) < (nd : Int)) = false := decide_eq_false (by omega)
        go_wp2
        go_ret
        refine ⟨?_, HBW.out⟩
        have := hF.out
        rw [List.drop_eq_nil_of_le (by rw [HJL.out]; have := HND.out; omega)] at this
        rw [← this]; rfl
      | succ g1 =>
        have hlt : decide ((i : Int) < (nd : Int)) = true := decide_eq_true (by omega)
        have hii : (0 : Int) ≤ (i : Int) := by omega
        obtain ⟨d, hd⟩ : ∃ d, dirs[i]? = some d := ⟨_, List.getElem?_eq_getElem (by rw [← HND.out]; omega)⟩
        obtain ⟨⟨jn, jb⟩, hjs, kj, hjk⟩ := HJ.out i d hd
        obtain ⟨ad, hAd, hx0⟩ := str_at HDC.out i (by omega) d hd
        obtain rfl := hAd
        replace hx0 := (hB.out.cell (World.block_lt_of_cell? W1 _ hx0)).trans hx0
        rw [Nat.mul_one] at hx0
        have hdr : js.drop i = (jn, jb) :: js.drop (i + 1) := by
          obtain ⟨hl', he'⟩ := List.getElem?_eq_some_iff.1 hjs
          rw [List.drop_eq_getElem_cons hl', he']
        have hg := hF.out
        rw [hdr, findGo] at hg
        have HG := Aside0.mk hg
        have n0 := (hB.out.cell (World.block_lt_of_cell? W1 _ hn0)).trans hn0
        have H79 : Aside0 (∀ W, Calls Tryz.prog 79 #[.string d, .string name] W fun e w' => e = .returned (.tuple #[.string jn, .bool jb]) ∧ Below W.heap.size W w') := ⟨fun W => OJoin.head_joined.calls kj d name jn jb W hjk⟩
        clear hd hjs hdr hjk hg
        have HL : Aside0 (∀ W, Below w.heap.size w W → W.cell? ⟨PB, 0, none⟩ = some (.map (some fm)) ∧ (Instr.lookup 75 (.map (some fm)) (.string jn) true).run Tryz.prog W = .ok (.tuple #[(alGet m jn).getD (.string ⟨#[]⟩), .bool (alGet m jn).isSome]) W) := ⟨fun W hb => by
          have h1 : w.cell? ⟨PB, 0, none⟩ = some (.map (some fm)) := by have := cell_of_row w PB 0 _ _ _ HPA.out.hP; simpa using this
          exact ⟨(hb.cell (World.block_lt_of_cell? w _ h1)).trans h1, (HPA.out.hm.same (hb.block _ HPA.out.hm.lt)).getOk Tryz.underlying75 jn (.string ⟨#[]⟩) (fun _ => rfl)⟩⟩
        cases jb with
        | false =>
          go_wp2_with (go_at_call 79; go_loud (refine (H79.out _).mono ?_; rintro e w9 ⟨rfl, hb9⟩; have HB9 := Aside0.mk (below_step hB.out hb9); clear hb9))
          go_roundg g1
          case measure => omega
          case rel => exact ⟨i + 1, by (try simp), ⟨by omega⟩, ⟨by rw [← HG.out]; simp⟩, HB9⟩
        | true =>
          cases hal : alGet m jn with
          | none =>
            rw [hal] at HL HG
            clear hal
            go_wp2_with (go_at_call 79; go_loud (refine (H79.out _).mono ?_; rintro e w9 ⟨rfl, hb9⟩; have HB9 := Aside0.mk (below_step hB.out hb9); obtain ⟨p0, hlk⟩ := HL.out w9 (below_step HB1.out HB9.out); simp only [Option.getD_none, Option.isSome_none] at hlk; clear hb9))
            go_roundg g1
            case measure => omega
            case rel => exact ⟨i + 1, by (try simp), ⟨by omega⟩, ⟨by rw [← HG.out]; simp⟩, HB9⟩
          | some u =>
            rw [hal] at HL HG
            clear hal
            go_wp2_with (go_at_call 79; go_loud (refine (H79.out _).mono ?_; rintro e w9 ⟨rfl, hb9⟩; have HB9 := Aside0.mk (below_step hB.out hb9); obtain ⟨p0, hlk⟩ := HL.out w9 (below_step HB1.out HB9.out); simp only [Option.getD_some, Option.isSome_some] at hlk; clear hb9))
            go_ret
            refine ⟨?_, below_step HB1.out HB9.out⟩
            rw [← HG.out]; simp
  | true =>
    have hmx0 : (0 : Int) ≤ max 0 ld := by omega
    have hmx1 : max 0 ld ≤ (from_.size : Int) := by omega
    have H78 : Aside0 (∀ W, Calls Tryz.prog 78 #[.string from_, .int .u8 47] W fun e w' => e = .returned (.int .i64 ld) ∧ Below W.heap.size W w') := ⟨fun W => (OJoin.strings_LastIndexByte.calls kl from_ 47 ld W HLD.out).mono fun e w' ⟨h1, h2⟩ => ⟨h1, h2.below⟩⟩
    have INS : ∀ (w6 : World) {v5 : Value} {w5 : World}, w5.ownsRow (w.alloc (Obj.cells #[Value.string name, Value.bool true, Value.string file] 34)).heap.size 9 1 v5 n (ps.map Value.string) → Below w5.heap.size w5 w6 → w.heap.size ≤ w5.heap.size → Calls Tryz.prog 77 #[v5, .int .i64 0, .slice (some ⟨w6.heap.size, 0, none⟩) 1 1] (w6.alloc (Obj.cells #[Value.string (from_.extract 0 (max 0 ld).toNat)] 9)) fun e w' => ∃ A c, e = .returned (.slice A (n + 1) c) ∧ n + 1 ≤ c ∧ Kd.C Kd.string w' A (n + 1) (from_.extract 0 (max 0 ld).toNat :: ps) ∧ Below (w.alloc (Obj.cells #[Value.string name, Value.bool true, Value.string file] 34)).heap.size (w6.alloc (Obj.cells #[Value.string (from_.extract 0 (max 0 ld).toNat)] 9)) w' := fun w6 v5 w5 ho hb hsz => by
      have hlt := own_lt ho
      have hbs := own_base ho
      rw [HN.out] at ho ⊢
      have ho6 := own_move ho (fun k hk => hb.block k (hlt k hk))
      have hlt6 : ∀ k, v5.ownBlock = some k → k < w6.heap.size := own_lt ho6
      have ho7 := own_move (w1 := w6.alloc (Obj.cells #[Value.string (from_.extract 0 (max 0 ld).toNat)] 9)) ho6 (fun k hk => Below.heap_alloc w6 _ k (hlt6 k hk))
      exact ins_any ps _ v5 _ w6.heap.size _ ho7 (blk_new _ _) (fun e => by have := hlt6 _ e; omega) (by have := HLN.out; omega) (by have := hb.size; rw [alloc_size, alloc_size]; omega)
    obtain ⟨nd, hnd⟩ : ∃ nd, nd = n + 1 := ⟨_, rfl⟩
    simp only [← hnd] at INS
    have HNN := Aside0.mk hnd
    clear hnd
    go_enter Tryz.func44, Tryz.ntmps44
    go_wp2_with (first | (go_at_call 76; go_loud (refine H76.mono ?_; rintro e w5 ⟨v5, rfl, ho5, hb5⟩; have hbx := (hb5.block _ (blk_lt HBX.out)).trans HBX.out; have b1 : w5.cell? ⟨w.heap.size, 1, none⟩ = some (.bool true) := (by have := cell_of_row w5 _ 1 _ _ _ hbx; simpa using this); have HO5 := Aside0.mk ho5; have HB5 := Aside0.mk (below_step HB0.out hb5); have HX5 := Aside0.mk hbx; clear ho5 hb5 hbx)) | (go_at_call 78; go_loud (refine (H78.out _).mono ?_; rintro e w6 ⟨rfl, hb6⟩; have HB6 := Aside0.mk hb6; have H77 := INS w6 HO5.out hb6 HB5.out.size; clear hb6)) | (go_at_call 77; go_loud (refine H77.mono ?_; rintro e w7 ⟨A7, c7, rfl, hc7, hC7, hb7⟩; have HC7 := Aside0.mk hC7; have HB7 := Aside0.mk hb7; clear hC7 hb7)))
    have hSZ : (w.alloc (Obj.cells #[Value.string name, Value.bool true, Value.string file] 34)).heap.size = w.heap.size + 1 := alloc_size _ _
    have hnd := HNN.out
    have hdd : dirs = from_.extract 0 (max 0 ld).toNat :: ps := by rw [HDI.out]; rfl
    have HND : Aside0 (nd = dirs.length) := ⟨by rw [hdd, hnd, HN.out]; rfl⟩
    have hnb : nd ≤ 1000 := by rw [hnd, HN.out]; have := HLN.out; omega
    obtain ⟨W1, hW1⟩ : ∃ W1, W1 = w7 := ⟨_, rfl⟩
    subst hW1
    have HDC : Aside0 (Kd.C Kd.string W1 A7 nd dirs) := ⟨by rw [hdd]; exact HC7.out⟩
    have hb6' := HB6.out
    have hb7' := HB7.out
    have HB1 : Aside0 (Below w.heap.size w W1) := ⟨(below_alloc (below_step HB5.out hb6') _).trans ⟨hb7'.os, hb7'.tape, hb7'.output, hb7'.size, fun k hk => hb7'.block k (by omega)⟩⟩
    have hx7 : W1.heap[w.heap.size]? = some (.cells #[Value.string name, Value.bool true, Value.string file] 34 (0, 0)) := (hb7'.block _ (by omega)).trans (blk_alloc ((hb6'.block _ (blk_lt HX5.out)).trans HX5.out) _)
    have hn0 : W1.cell? ⟨w.heap.size, 0, none⟩ = some (.string name) := by have := cell_of_row W1 _ 0 _ _ _ hx7; simpa using this
    clear hnd hdd hb6' hb7' hx7 hSZ HC7 H77 INS
    go_loopg [31] nd (fun kq v31 w' => ∃ (i : Nat), v31 = .int .i64 i ∧ Aside0 (kq + i = nd) ∧ Aside0 (findGo m (js.drop i) = findGo m js) ∧ Aside0 (Below W1.heap.size W1 w'))
    case atStart => exact ⟨0, rfl, ⟨rfl⟩, ⟨rfl⟩, ⟨Below.refl _ _⟩⟩
    case round =>
      obtain ⟨i, rfl, hki, hF, hB⟩ := hrel
      have hki' := hki.out
      have HBW : Aside0 (Below w.heap.size w wr) := ⟨below_step HB1.out hB.out⟩
      cases gk with
      | zero =>
        have hlt : decide ((i : Int) < (nd : Int)) = false := decide_eq_false (by omega)
        go_wp2
        go_ret
        refine ⟨?_, HBW.out⟩
        have := hF.out
        rw [List.drop_eq_nil_of_le (by rw [HJL.out]; have := HND.out; omega)] at this
        rw [← this]; rfl
      | succ g1 =>
        have hlt : decide ((i : Int) < (nd : Int)) = true := decide_eq_true (by omega)
        have hii : (0 : Int) ≤ (i : Int) := by omega
        obtain ⟨d, hd⟩ : ∃ d, dirs[i]? = some d := ⟨_, List.getElem?_eq_getElem (by rw [← HND.out]; omega)⟩
        obtain ⟨⟨jn, jb⟩, hjs, kj, hjk⟩ := HJ.out i d hd
        obtain ⟨ad, hAd, hx0⟩ := str_at HDC.out i (by omega) d hd
        obtain rfl := hAd
        replace hx0 := (hB.out.cell (World.block_lt_of_cell? W1 _ hx0)).trans hx0
        rw [Nat.mul_one] at hx0
        have hdr : js.drop i = (jn, jb) :: js.drop (i + 1) := by
          obtain ⟨hl', he'⟩ := List.getElem?_eq_some_iff.1 hjs
          rw [List.drop_eq_getElem_cons hl', he']
        have hg := hF.out
        rw [hdr, findGo] at hg
        have HG := Aside0.mk hg
        have n0 := (hB.out.cell (World.block_lt_of_cell? W1 _ hn0)).trans hn0
        have H79 : Aside0 (∀ W, Calls Tryz.prog 79 #[.string d, .string name] W fun e w' => e = .returned (.tuple #[.string jn, .bool jb]) ∧ Below W.heap.size W w') := ⟨fun W => OJoin.head_joined.calls kj d name jn jb W hjk⟩
        clear hd hjs hdr hjk hg
        have HL : Aside0 (∀ W, Below w.heap.size w W → W.cell? ⟨PB, 0, none⟩ = some (.map (some fm)) ∧ (Instr.lookup 75 (.map (some fm)) (.string jn) true).run Tryz.prog W = .ok (.tuple #[(alGet m jn).getD (.string ⟨#[]⟩), .bool (alGet m jn).isSome]) W) := ⟨fun W hb => by
          have h1 : w.cell? ⟨PB, 0, none⟩ = some (.map (some fm)) := by have := cell_of_row w PB 0 _ _ _ HPA.out.hP; simpa using this
          exact ⟨(hb.cell (World.block_lt_of_cell? w _ h1)).trans h1, (HPA.out.hm.same (hb.block _ HPA.out.hm.lt)).getOk Tryz.underlying75 jn (.string ⟨#[]⟩) (fun _ => rfl)⟩⟩
        cases jb with
        | false =>
          go_wp2_with (go_at_call 79; go_loud (refine (H79.out _).mono ?_; rintro e w9 ⟨rfl, hb9⟩; have HB9 := Aside0.mk (below_step hB.out hb9); clear hb9))
          go_roundg g1
          case measure => omega
          case rel => exact ⟨i + 1, by (try simp), ⟨by omega⟩, ⟨by rw [← HG.out]; simp⟩, HB9⟩
        | true =>
          cases hal : alGet m jn with
          | none =>
            rw [hal] at HL HG
            clear hal
            go_wp2_with (go_at_call 79; go_loud (refine (H79.out _).mono ?_; rintro e w9 ⟨rfl, hb9⟩; have HB9 := Aside0.mk (below_step hB.out hb9); obtain ⟨p0, hlk⟩ := HL.out w9 (below_step HB1.out HB9.out); simp only [Option.getD_none, Option.isSome_none] at hlk; clear hb9))
            go_roundg g1
            case measure => omega
            case rel => exact ⟨i + 1, by (try simp), ⟨by omega⟩, ⟨by rw [← HG.out]; simp⟩, HB9⟩
          | some u =>
            rw [hal] at HL HG
            clear hal
            go_wp2_with (go_at_call 79; go_loud (refine (H79.out _).mono ?_; rintro e w9 ⟨rfl, hb9⟩; have HB9 := Aside0.mk (below_step hB.out hb9); obtain ⟨p0, hlk⟩ := HL.out w9 (below_step HB1.out HB9.out); simp only [Option.getD_some, Option.isSome_some] at hlk; clear hb9))
            go_ret
            refine ⟨?_, below_step HB1.out HB9.out⟩
            rw [← HG.out]; simp
end Go.Proofs.YtolaiebjmhieiaaGreatDoor.OScan
end
section
namespace Go.Proofs
abbrev Tryz.muLink : Go.Conc.Locks.MuLink := { lock := 38, unlock := 39, ilock := 62, iunlock := 63, lockSlow := 113, unlockSlow := 116, disable := 109, enable := 111, acquire := 112, relMerge := 114, cas32 := 110, add32 := 115, tMutex := 82, tIMutex := 80, tPMutex := 121, tPIMutex := 168, tPI32 := 170, tUP := 172, tNoCopy := 77, tU32 := 78 }
theorem Tryz.muLib : Go.Conc.Locks.MuLib Tryz.prog Tryz.muLink :=
  ⟨Tryz.func38, Tryz.func39, Tryz.func62, Tryz.func63, Tryz.func109, Tryz.func111, Tryz.func112, Tryz.func114, Tryz.func110, Tryz.func115, Tryz.underlying80, Tryz.runUnderlying80, Tryz.sizeOf80, Tryz.isAgg80, Tryz.zeroValue80, Tryz.underlying82, Tryz.runUnderlying82, Tryz.sizeOf82, Tryz.isAgg82, Tryz.zeroValue82, Tryz.underlying121, Tryz.runUnderlying121, Tryz.sizeOf121, Tryz.isAgg121, Tryz.zeroValue121, Tryz.underlying168, Tryz.runUnderlying168, Tryz.sizeOf168, Tryz.isAgg168, Tryz.zeroValue168, Tryz.underlying170, Tryz.runUnderlying170, Tryz.sizeOf170, Tryz.isAgg170, Tryz.zeroValue170, Tryz.underlying172, Tryz.runUnderlying172, Tryz.sizeOf172, Tryz.isAgg172, Tryz.zeroValue172, Tryz.underlying77, Tryz.runUnderlying77, Tryz.sizeOf77, Tryz.isAgg77, Tryz.zeroValue77, Tryz.underlying21, Tryz.runUnderlying21, Tryz.sizeOf21, Tryz.isAgg21, Tryz.zeroValue21, (by kernel_rfl)⟩
end Go.Proofs
end
section
namespace Go.Proofs.YtolaiebjmhieiaaGreatDoor.OScan
open Go.RowKit Go.Proofs.YtolaiebjmhieiaaGreatDoorW.PrintWords Go.Proofs.YtolaiebjmhieiaaGreatDoorW.PrintLast Go.Proofs.YtolaiebjmhieiaaGreatDoorW.PrintMore
open Go.MuLone
set_option linter.unusedVariables false
set_option linter.unusedSimpArgs false
set_option maxHeartbeats 1000000 in
set_option maxRecDepth 100000 in
theorem read_old (m c : AL) (name : ByteArray) (u pv : Value) (base PB fm cm : Nat) (w : World) (HP : PrjIs base w PB fm cm pv m c) (hc : alGet c name = some u) :
    Calls Tryz.prog 21 #[.pointer (some ⟨PB, 0, none⟩), .string name] w fun e w' => e = .returned u ∧ w'.heap[PB]? = w.heap[PB]? ∧ OnlyAt w w' PB := by
  have hP := HP.hP
  have p2 : w.cell? ⟨PB, 2, none⟩ = some (.int .i32 0) := by have := cell_of_row w PB 2 _ _ _ hP; simpa using this
  have f2 := blk_frozen hP 2
  have hP1 := blk_put hP 2 (.int .i32 1) rfl
  have hP2 := blk_put hP1 2 (.int .i32 0) rfl
  have p4 : (w.setCell ⟨PB, 2, none⟩ (.int .i32 1)).cell? ⟨PB, 4, none⟩ = some (.map (some cm)) := by have := cell_of_row _ PB 4 _ _ _ hP1; simpa using this
  have hM : MapIs (w.setCell ⟨PB, 2, none⟩ (.int .i32 1)) cm c := HP.hc.same (Below.heap_setCell _ _ _ _ (by
    rintro e
    obtain ⟨es, cl, h1, _⟩ := HP.hc
    have e' : cm = PB := e
    subst e'
    rw [hP] at h1
    cases h1))
  have hlk := hM.getOk Tryz.underlying83 name (.pointer none) (fun _ => rfl)
  rw [hc] at hlk
  simp only [Option.getD_some, Option.isSome_some] at hlk
  have hd1 : (w.setCell ⟨PB, 2, none⟩ (.int .i32 1)).cell? ⟨PB, 2, none⟩ = some (.int .i32 1) := by have := cell_of_row _ PB 2 _ _ _ hP1; simpa using this
  have hd2 := blk_frozen hP1 2
  have HE : Aside0 (((w.setCell ⟨PB, 2, none⟩ (.int .i32 1)).setCell ⟨PB, 2, none⟩ (.int .i32 0)).heap[PB]? = w.heap[PB]? ∧ OnlyAt w ((w.setCell ⟨PB, 2, none⟩ (.int .i32 1)).setCell ⟨PB, 2, none⟩ (.int .i32 0)) PB) := ⟨hP2.trans hP.symm, ⟨rfl, rfl, rfl, by simp, fun k hk => (Below.heap_setCell _ ⟨PB, 2, none⟩ _ k hk).trans (Below.heap_setCell _ ⟨PB, 2, none⟩ _ k hk)⟩⟩
  have HL := lock_free Tryz.muLib ⟨PB, 2, none⟩ w p2 f2
  have HU := unlock_deferred Tryz.muLib ⟨PB, 2, none⟩ .returning (w.setCell ⟨PB, 2, none⟩ (.int .i32 1)) hd1 hd2
  clear hP hP1 hP2 hM HP hc p2 f2
  obtain ⟨W1, hW1⟩ : ∃ W1, W1 = w.setCell ⟨PB, 2, none⟩ (.int .i32 1) := ⟨_, rfl⟩
  rw [← hW1] at p4 hlk hd1 hd2 HE HL HU
  clear hW1
  go_enter_defers Tryz.func21, Tryz.ntmps21
  go_wp2_with (go_at_call 38; go_loud (refine HL.mono ?_; rintro e w' ⟨rfl, rfl⟩))
  refine leaves_cons (f := 39) (args := #[.pointer (some ⟨PB, 2, none⟩)]) (by simp) (by simp [go_sem]) ?_
  refine HU.mono ?_
  rintro e u' w'' ⟨rfl, rfl, rfl⟩
  exact ⟨_, results_tmp rfl _ _ _, rfl, HE.out⟩
abbrev Us := ByteArray × Bool × ByteArray
abbrev kUs : Kd Us := Kd.pair Kd.string (Kd.pair Kd.bool Kd.string)
def RdIs (base : Nat) (w : World) (rb : Nat) (us : List Us) (er : Int) : Prop := base ≤ rb ∧ ∃ vl vu, w.heap[rb]? = some (.cells #[vl, vu, .int .i64 er] 54 (0, 0)) ∧ Kd.R kUs 34 w base (fun _ => True) vu us
structure ReadQ (w0 w w' : World) (PB cm : Nat) (c : AL) (name : ByteArray) (rb : Nat) (us : List Us) (er : Int) : Prop where
  rd : RdIs w0.heap.size w' rb us er
  new : w.heap.size ≤ rb
  map : MapIs w' cm (alPut c name (.pointer (some ⟨rb, 0, none⟩)))
  pb : w'.heap[PB]? = w.heap[PB]?
  below : Below w0.heap.size w0 w'
  keep : ∀ k, k < w.heap.size → k ≠ PB → k ≠ cm → w'.heap[k]? = w.heap[k]?
set_option maxHeartbeats 1000000 in
set_option maxRecDepth 100000 in
theorem read_e1 (m c : AL) (name text : ByteArray) (pv : Value) (PB fm cm : Nat) (w0 w : World) (HP : PrjIs w0.heap.size w PB fm cm pv m c) (HB : Below w0.heap.size w0 w) (hG : Glob2 w0) (hc : alGet c name = none)
    (ht : (alGet m name).getD (.string ⟨#[]⟩) = .string text) (hsz : text.size ≤ 140737488355328) (he : (scanR text).2 ≠ 0) :
    Calls Tryz.prog 21 #[.pointer (some ⟨PB, 0, none⟩), .string name] w fun e w' => ∃ rb, e = .returned (.pointer (some ⟨rb, 0, none⟩)) ∧ ReadQ w0 w w' PB cm c name rb [] (scanR text).2 := by
  have hP := HP.hP
  have hPB := blk_lt hP
  have p2 : w.cell? ⟨PB, 2, none⟩ = some (.int .i32 0) := by have := cell_of_row w PB 2 _ _ _ hP; simpa using this
  have f2 := blk_frozen hP 2
  have hP1 := blk_put hP 2 (.int .i32 1) rfl
  have hcP : cm ≠ PB := by
    rintro e
    obtain ⟨es, cl, h1, _⟩ := HP.hc
    rw [e, hP] at h1
    cases h1
  have hfP : fm ≠ PB := by
    rintro e
    obtain ⟨es, cl, h1, _⟩ := HP.hm
    rw [e, hP] at h1
    cases h1
  have hcs := HP.hc.lt
  have hfs := HP.hm.lt
  have HL := lock_free Tryz.muLib ⟨PB, 2, none⟩ w p2 f2
  obtain ⟨W1, hW1⟩ : ∃ W1, W1 = w.setCell ⟨PB, 2, none⟩ (.int .i32 1) := ⟨_, rfl⟩
  rw [← hW1] at HL hP1
  have hs1 : W1.heap.size = w.heap.size := by rw [hW1]; simp
  have k1 : ∀ k, k ≠ PB → W1.heap[k]? = w.heap[k]? := fun k hk => by rw [hW1]; exact Below.heap_setCell _ ⟨PB, 2, none⟩ _ k hk
  have B1 : Below w0.heap.size w0 W1 := by rw [hW1]; exact HB.setCell HP.bP _
  have hM1 : MapIs W1 cm c := HP.hc.same (k1 _ hcP)
  have hF1 : MapIs W1 fm m := HP.hm.same (k1 _ hfP)
  obtain ⟨W2, hW2⟩ : ∃ W2, W2 = W1.alloc (.cells #[Value.slice none 0 0, Value.slice none 0 0, Value.int .i64 0] 54) := ⟨_, rfl⟩
  have B2 : Below w0.heap.size w0 W2 := by rw [hW2]; exact below_alloc B1 _
  have k2 : ∀ k, k < w.heap.size → W2.heap[k]? = W1.heap[k]? := fun k hk => by rw [hW2]; exact Below.heap_alloc _ _ _ (by omega)
  have hM2 : MapIs W2 cm c := hM1.same (k2 _ hcs)
  have hF2 : MapIs W2 fm m := hF1.same (k2 _ hfs)
  obtain ⟨rb, hrb⟩ : ∃ rb, rb = W1.heap.size := ⟨_, rfl⟩
  have hR2 : W2.heap[rb]? = some (.cells #[Value.slice none 0 0, Value.slice none 0 0, Value.int .i64 0] 54 (0, 0)) := by rw [hW2, hrb]; exact blk_new _ _
  have hs2 : W2.heap.size = w.heap.size + 1 := by rw [hW2, alloc_size, hs1]
  obtain ⟨W3, hrun, hM3, hO3⟩ := hM2.put (mt := 83) (e := 50) Tryz.underlying83 name (.pointer (some ⟨rb, 0, none⟩))
  have hF3 : MapIs W3 fm m := hF2.same (hO3.block _ HP.ne)
  have B3 : Below w0.heap.size w0 W3 := hO3.below B2 HP.bc
  have hlk1 := hM1.getOk Tryz.underlying83 name (.pointer none) (fun _ => rfl)
  rw [hc] at hlk1
  simp only [Option.getD_none, Option.isSome_none] at hlk1
  have hlk3 := hF3.get Tryz.underlying75 name (.string ⟨#[]⟩) (fun _ => rfl)
  rw [ht] at hlk3
  have hP2 := (k2 _ hPB).trans hP1
  have hP3 := (hO3.block _ (Ne.symm hcP)).trans hP2
  have hR3 := (hO3.block rb (by omega)).trans hR2
  have a1 : W1.cell? ⟨PB, 4, none⟩ = some (.map (some cm)) := by have := cell_of_row _ PB 4 _ _ _ hP1; simpa using this
  have a2 : W2.cell? ⟨PB, 4, none⟩ = some (.map (some cm)) := by have := cell_of_row _ PB 4 _ _ _ hP2; simpa using this
  have a3 : W3.cell? ⟨PB, 0, none⟩ = some (.map (some fm)) := by have := cell_of_row _ PB 0 _ _ _ hP3; simpa using this
  have H40 := scan_both text W3 (hG.below B3) hsz
  have K3 : ∀ k, k < w.heap.size → k ≠ PB → k ≠ cm → W3.heap[k]? = w.heap[k]? := fun k h1 h2 h3 => (hO3.block k h3).trans ((k2 k h1).trans (k1 k h2))
  have s3 : w.heap.size < W3.heap.size := by rw [hO3.size, hs2]; omega
  have er0 : ((scanR text).2 != 0) = true := by simpa using he
  have hrbs : rb < W3.heap.size := blk_lt hR3
  have hPs : PB < W3.heap.size := blk_lt hP3
  have hcs3 : cm < W3.heap.size := hM3.lt
  have hrP : rb ≠ PB := by omega
  have hrc : rb ≠ cm := by omega
  generalize (scanR text).1 = ys at H40
  generalize (scanR text).2 = er at *
  rw [hW2] at hrun a2
  rw [hrb] at hrun
  have HX := Aside0.mk (And.intro hR3 (And.intro hP3 (And.intro hM3 (And.intro B3 K3))))
  have HRB := Aside0.mk hrb
  have HPP := Aside0.mk HP
  have HYP := Aside0.mk (And.intro hP (And.intro s3 (And.intro hrbs (And.intro hPs (And.intro hcs3 (And.intro hrP hrc))))))
  have HS1 := Aside0.mk hs1
  clear hM1 hF1 B1 k1 hM2 hF2 B2 k2 hR2 hs2 hO3 hF3 B3 hP2 hP3 hR3 hP1 hW1 hW2 HP hP p2 f2 hs1 K3 s3 hrb hrbs hPs hcs3 hrP hrc hcs hfs hcP hfP hPB he hM3 HB hG hc ht hsz
  go_enter_defers Tryz.func21, Tryz.ntmps21
  go_wp2_with (first | (go_at_call 38; go_loud (refine HL.mono ?_; rintro e w' ⟨rfl, rfl⟩)) | (go_at_call 40; go_loud (refine H40.mono ?_; rintro e w8 ⟨v8, rfl, hr8, hb8⟩; obtain ⟨A8, c8, rfl⟩ := Kd.R_slice hr8; obtain ⟨hR3, hP3, hM3, B3, K3⟩ := HX.out; obtain ⟨_, _, hrbs, hPs, hcs3, _, _⟩ := HYP.out; have hR8 := (hb8.block _ hrbs).trans hR3; have hP8 := (hb8.block _ hPs).trans hP3; have m0 : w8.cell? ⟨rb, 0, none⟩ = some (.slice none 0 0) := (by have := cell_of_row _ rb 0 _ _ _ hR8; simpa using this); have m2 : w8.cell? ⟨rb, 2, none⟩ = some (.int .i64 0) := (by have := cell_of_row _ rb 2 _ _ _ hR8; simpa using this); have g0 := blk_frozen hR8 0; have g2 := blk_frozen hR8 2; rw [HRB.out] at m0 m2 g0 g2; have HR8 := Aside0.mk hR8; have HP8 := Aside0.mk hP8; have HB8 := Aside0.mk hb8; clear hr8 hb8 hR3 hP3 hM3 B3 K3 hrbs hPs hcs3 hR8 hP8)))
  obtain ⟨W9, hW9⟩ : ∃ W9, W9 = ((w8.setCell { block := w'.heap.size, off := 0 } (Value.slice A8 ys.length c8)).setCell { block := w'.heap.size, off := 2 } (Value.int IntKind.i64 er)) := ⟨_, rfl⟩
  rw [← hW9]
  rw [← HRB.out] at hW9 ⊢
  obtain ⟨hR3, hP3, hM3, B3, K3⟩ := HX.out
  obtain ⟨hP, s3, hrbs, hPs, hcs3, hrP, hrc⟩ := HYP.out
  have hR9 : W9.heap[rb]? = some (.cells #[Value.slice A8 ys.length c8, Value.slice none 0 0, Value.int .i64 er] 54 (0, 0)) := by rw [hW9]; exact blk_put (blk_put HR8.out 0 _ rfl) 2 _ rfl
  have hP9 : W9.heap[PB]? = some (.cells #[Value.map (some fm), pv, Value.int .i32 1, Value.int .u32 0, Value.map (some cm)] 87 (0, 0)) := by rw [hW9]; exact blk_far (blk_far HP8.out (Ne.symm hrP) _) (Ne.symm hrP) _
  have k9 : ∀ k, k ≠ rb → W9.heap[k]? = w8.heap[k]? := fun k hk => by rw [hW9]; exact (Below.heap_setCell _ ⟨rb, 2, none⟩ _ k hk).trans (Below.heap_setCell _ ⟨rb, 0, none⟩ _ k hk)
  have hrb0 : w.heap.size ≤ rb := by have h1 := HRB.out; have h2 := HS1.out; omega
  have hw0 : w0.heap.size ≤ rb := by have := HPP.out.bP; have := blk_lt hP; omega
  have B9 : Below w0.heap.size w0 W9 := by rw [hW9]; exact ((below_step B3 HB8.out).setCell hw0 _).setCell hw0 _
  have d1 : W9.cell? ⟨PB, 2, none⟩ = some (.int .i32 1) := by have := cell_of_row _ PB 2 _ _ _ hP9; simpa using this
  have d2 := blk_frozen hP9 2
  refine leaves_cons (f := 39) (args := #[.pointer (some ⟨PB, 2, none⟩)]) (by simp) (by simp [go_sem]) ?_
  refine (unlock_deferred Tryz.muLib ⟨PB, 2, none⟩ .returning W9 d1 d2).mono ?_
  rintro e u' w'' ⟨rfl, rfl, rfl⟩
  refine ⟨_, results_tmp rfl _ _ _, rb, rfl, ⟨⟨hw0, _, _, blk_far hR9 hrP _, Kd.R_nil _ _ _ _ _⟩, hrb0, hM3.same ?_, ?_, B9.setCell HPP.out.bP _, fun k h1 h2 h3 => ?_⟩⟩
  · exact (Below.heap_setCell _ ⟨PB, 2, none⟩ _ cm (by
      rintro e
      obtain ⟨es, cl, h1, _⟩ := HPP.out.hc
      have e' : cm = PB := e
      rw [e', hP] at h1
      cases h1)).trans ((k9 cm (Ne.symm hrc)).trans (HB8.out.block cm hcs3))
  · rw [hP]; exact blk_put hP9 2 _ rfl
  · exact (Below.heap_setCell _ ⟨PB, 2, none⟩ _ k h2).trans ((k9 k (by omega)).trans ((HB8.out.block k (by omega)).trans (K3 k h1 h2 h3)))
end Go.Proofs.YtolaiebjmhieiaaGreatDoor.OScan
end
section
namespace Go.Proofs.YtolaiebjmhieiaaGreatDoor.Graph
set_option linter.unusedVariables false
variable {α : Type} (er : α → Int) (us : α → List α)
inductive Reach : α → α → Prop
  | refl (a : α) : Reach a a
  | step {a b c : α} : b ∈ us a → Reach b c → Reach a c
theorem Reach.trans {a b c : α} (h : Reach us a b) (k : Reach us b c) : Reach us a c := by
  induction h with
  | refl => exact k
  | step hb _ ih => exact .step hb (ih k)
theorem Reach.snoc {a b c : α} (h : Reach us a b) (k : c ∈ us b) : Reach us a c := h.trans us (.step k (.refl c))
mutual
inductive Walk : α → List α → List α → Int → List α → List α → Prop
  | met {n : α} {met out : List α} : n ∈ met → Walk n met out 0 met out
  | bad {n : α} {met out : List α} : n ∉ met → er n ≠ 0 → Walk n met out (er n) (n :: met) out
  | go {n : α} {met out met' out' : List α} {e : Int} : n ∉ met → er n = 0 → Walks (us n) (n :: met) out e met' out' → Walk n met out e met' (out' ++ [n])
inductive Walks : List α → List α → List α → Int → List α → List α → Prop
  | nil {met out : List α} : Walks [] met out 0 met out
  | err {n : α} {ns met out met' out' : List α} {e : Int} : Walk n met out e met' out' → e ≠ 0 → Walks (n :: ns) met out e met' out'
  | cons {n : α} {ns met out met' out' met'' out'' : List α} {e : Int} : Walk n met out 0 met' out' → Walks ns met' out' e met'' out'' → Walks (n :: ns) met out e met'' out''
end
def Good (out : List α) : Prop := ∀ a x b, out = a ++ x :: b → ∀ y ∈ us x, y ∈ a ∨ y = x ∨ Reach us y x
theorem Good.snoc {out : List α} {n : α} (h : Good us out) (k : ∀ y ∈ us n, y ∈ out ∨ y = n ∨ Reach us y n) : Good us (out ++ [n]) := by
  intro a x b e y hy
  rcases List.eq_nil_or_concat b with rfl | ⟨b', z, rfl⟩
  · have := List.append_inj' e (by simp)
    obtain ⟨rfl, h2⟩ := this
    obtain rfl : n = x := by simpa using h2
    exact k y hy
  · have e' : out ++ [n] = (a ++ x :: b') ++ [z] := by rw [e]; simp
    obtain ⟨rfl, _⟩ := List.append_inj' e' (by simp)
    exact h a x b' rfl y hy
structure Kept (root : α) (met out met' out' : List α) : Prop where
  sub : ∀ x ∈ met, x ∈ met'
  grow : ∀ x ∈ out, x ∈ out'
  om : ∀ x ∈ out', x ∈ met'
  nd : out'.Nodup
  stack : ∀ x ∈ met', x ∈ out' ∨ (x ∈ met ∧ x ∉ out)
  good : Good us out'
  erz : ∀ x ∈ out', er x = 0
  reach : ∀ x ∈ out', Reach us root x
  closed : ∀ x ∈ out', ∀ y ∈ us x, y ∈ met'
  fresh : ∀ x ∈ out', x ∈ out ∨ x ∉ met
structure Pre (root n : α) (met out : List α) : Prop where
  om : ∀ x ∈ out, x ∈ met
  nd : out.Nodup
  anc : ∀ x ∈ met, x ∉ out → Reach us x n
  good : Good us out
  erz : ∀ x ∈ out, er x = 0
  reach : ∀ x ∈ out, Reach us root x
  root : Reach us root n
  closed : ∀ x ∈ out, ∀ y ∈ us x, y ∈ met
theorem walk_kept (root : α) : (∀ (n : α) (met out : List α) (e : Int) (met' out' : List α), Walk er us n met out e met' out' → e = 0 → Pre er us root n met out → Kept er us root met out met' out' ∧ n ∈ met' ∧ (n ∉ met → ∃ o, out' = o ++ [n])) := by
  intro n met out e met' out' h
  refine Walk.rec (motive_1 := fun n met out e met' out' _ => e = 0 → Pre er us root n met out → Kept er us root met out met' out' ∧ n ∈ met' ∧ (n ∉ met → ∃ o, out' = o ++ [n]))
    (motive_2 := fun ns met out e met' out' _ => e = 0 → ∀ p, (∀ n ∈ ns, n ∈ us p) → p ∈ met → p ∉ out → Pre er us root p met out → Kept er us root met out met' out' ∧ ∀ n ∈ ns, n ∈ met') ?_ ?_ ?_ ?_ ?_ ?_ h
  · intro n met out hn _ P
    exact ⟨⟨fun _ h => h, fun _ h => h, P.om, P.nd, fun x hx => by by_cases h : x ∈ out; exact .inl h; exact .inr ⟨hx, h⟩, P.good, P.erz, P.reach, P.closed, fun _ h => .inl h⟩, hn, fun h => absurd hn h⟩
  · intro n met out _ he h0
    exact absurd h0 he
  · intro n met out met' out' e hn he hw ih h0 P
    have hno : n ∉ out := fun h => hn (P.om n h)
    have P' : Pre er us root n (n :: met) out := ⟨fun x hx => List.mem_cons_of_mem _ (P.om x hx), P.nd, fun x hx hxo => by
      rcases List.mem_cons.1 hx with rfl | hx
      · exact .refl _
      · exact P.anc x hx hxo, P.good, P.erz, P.reach, P.root, fun x hx y hy => List.mem_cons_of_mem _ (P.closed x hx y hy)⟩
    obtain ⟨K, hall⟩ := ih h0 n (fun _ h => h) (List.mem_cons_self ..) hno P'
    have hnm : n ∈ met' := K.sub n (List.mem_cons_self ..)
    have hno' : n ∉ out' := by
      intro hc
      rcases K.fresh n hc with h | h
      · exact hno h
      · exact h (List.mem_cons_self ..)
    refine ⟨⟨fun x hx => K.sub x (List.mem_cons_of_mem _ hx), fun x hx => List.mem_append_left _ (K.grow x hx), ?_, ?_, ?_, ?_, ?_, ?_, ?_, ?_⟩, hnm, fun _ => ⟨_, rfl⟩⟩
    · intro x hx
      rcases List.mem_append.1 hx with hx | hx
      · exact K.om x hx
      · obtain rfl : x = n := by simpa using hx
        exact hnm
    · rw [List.nodup_append]
      exact ⟨K.nd, by simp, fun a ha b hb => by
        obtain rfl : b = n := by simpa using hb
        exact fun h => hno' (h ▸ ha)⟩
    · intro x hx
      rcases K.stack x hx with h | ⟨h1, h2⟩
      · exact .inl (List.mem_append_left _ h)
      · rcases List.mem_cons.1 h1 with rfl | h1
        · exact .inl (by simp)
        · exact .inr ⟨h1, h2⟩
    · refine Good.snoc us K.good fun y hy => ?_
      rcases K.stack y (hall y hy) with h | ⟨h1, h2⟩
      · exact .inl h
      · rcases List.mem_cons.1 h1 with rfl | h1
        · exact .inr (.inl rfl)
        · exact .inr (.inr (P.anc y h1 h2))
    · intro x hx
      rcases List.mem_append.1 hx with hx | hx
      · exact K.erz x hx
      · obtain rfl : x = n := by simpa using hx
        exact he
    · intro x hx
      rcases List.mem_append.1 hx with hx | hx
      · exact K.reach x hx
      · obtain rfl : x = n := by simpa using hx
        exact P.root
    · intro x hx y hy
      rcases List.mem_append.1 hx with hx | hx
      · exact K.closed x hx y hy
      · obtain rfl : x = n := by simpa using hx
        exact hall y hy
    · intro x hx
      rcases List.mem_append.1 hx with hx | hx
      · rcases K.fresh x hx with h | h
        · exact .inl h
        · exact .inr fun hm => h (List.mem_cons_of_mem _ hm)
      · obtain rfl : x = n := by simpa using hx
        exact .inr hn
  · intro met out _ p _ _ _ P
    exact ⟨⟨fun _ h => h, fun _ h => h, P.om, P.nd, fun x hx => by by_cases h : x ∈ out; exact .inl h; exact .inr ⟨hx, h⟩, P.good, P.erz, P.reach, P.closed, fun _ h => .inl h⟩, fun n hn => absurd hn (by simp)⟩
  · intro n ns met out met' out' e hw he _ h0
    exact absurd h0 he
  · intro n ns met out met' out' met'' out'' e hw hws ih1 ih2 h0 p hp hpm hpo P
    have hnp : n ∈ us p := hp n (List.mem_cons_self ..)
    obtain ⟨K1, hn1, _⟩ := ih1 rfl ⟨P.om, P.nd, fun x h1 h2 => (P.anc x h1 h2).snoc us hnp, P.good, P.erz, P.reach, P.root.snoc us hnp, P.closed⟩
    have hpo' : p ∉ out' := fun hc => by
      rcases K1.fresh p hc with h | h
      · exact hpo h
      · exact h hpm
    obtain ⟨K2, hall⟩ := ih2 h0 p (fun x hx => hp x (List.mem_cons_of_mem _ hx)) (K1.sub p hpm) hpo' ⟨K1.om, K1.nd, fun x h1 h2 => by
      rcases K1.stack x h1 with h | ⟨h3, h4⟩
      · exact absurd h h2
      · exact P.anc x h3 h4, K1.good, K1.erz, K1.reach, P.root, K1.closed⟩
    refine ⟨⟨fun x hx => K2.sub x (K1.sub x hx), fun x hx => K2.grow x (K1.grow x hx), K2.om, K2.nd, fun x hx => ?_, K2.good, K2.erz, K2.reach, K2.closed, fun x hx => ?_⟩, fun x hx => ?_⟩
    · rcases K2.stack x hx with h | ⟨h1, h2⟩
      · exact .inl h
      · rcases K1.stack x h1 with h | h
        · exact absurd h h2
        · exact .inr h
    · rcases K2.fresh x hx with h | h
      · exact K1.fresh x h
      · exact .inr fun hm => h (K1.sub x hm)
    · rcases List.mem_cons.1 hx with rfl | hx
      · exact K2.sub _ hn1
      · exact hall x hx
structure Found (root : α) (out : List α) : Prop where
  nd : out.Nodup
  last : ∃ o, out = o ++ [root]
  good : Good us out
  erz : ∀ x ∈ out, er x = 0
  mem : ∀ x, x ∈ out ↔ Reach us root x
theorem found_of_walk {root : α} {met out : List α} (h : Walk er us root [] [] 0 met out) : Found er us root out := by
  obtain ⟨K, h1, h2⟩ := walk_kept er us root root [] [] 0 met out h rfl ⟨by simp, by simp, by simp, by
    intro a x b e
    simp at e, by simp, by simp, .refl _, by simp⟩
  have hc : ∀ x ∈ out, ∀ y ∈ us x, y ∈ out := fun x hx y hy => by
    rcases K.stack y (K.closed x hx y hy) with h | h
    · exact h
    · simp at h
  have hl := h2 (by simp)
  refine ⟨K.nd, hl, K.good, K.erz, fun x => ⟨K.reach x, fun hr => ?_⟩⟩
  have : ∀ a b, Reach us a b → a ∈ out → b ∈ out := fun a b hr => by
    induction hr with
    | refl => exact id
    | step hb _ ih => exact fun ha => ih (hc _ ha _ hb)
  obtain ⟨o, ho⟩ := hl
  exact this root x hr (by rw [ho]; simp)
theorem walk_ok {names : List α} (hall : ∀ x ∈ names, er x = 0) (hus : ∀ x, ∀ y ∈ us x, y ∈ names) : ∀ (n : α) (met out : List α) (e : Int) (met' out' : List α), Walk er us n met out e met' out' → n ∈ names → e = 0 := by
  intro n met out e met' out' h
  refine Walk.rec (motive_1 := fun n met out e met' out' _ => n ∈ names → e = 0) (motive_2 := fun ns met out e met' out' _ => (∀ n ∈ ns, n ∈ names) → e = 0) ?_ ?_ ?_ ?_ ?_ ?_ h
  · intros; rfl
  · intro n met out _ he hm; exact absurd (hall n hm) he
  · intro n met out met' out' e _ _ _ ih _; exact ih fun y hy => hus _ y hy
  · intros; rfl
  · intro n ns met out met' out' e _ he ih hm; exact absurd (ih (hm n (List.mem_cons_self ..))) he
  · intro n ns met out met' out' met'' out'' e _ _ _ ih hm; exact ih fun y hy => hm y (List.mem_cons_of_mem _ hy)
open Classical in
noncomputable def left (names met : List α) : Nat := (names.filter fun n => decide (n ∉ met)).length
open Classical in
theorem left_mono {names met met' : List α} (h : ∀ x ∈ met, x ∈ met') : left names met' ≤ left names met := by
  unfold left
  induction names with
  | nil => simp
  | cons a l ih =>
    by_cases h1 : a ∈ met'
    · by_cases h2 : a ∈ met
      · simp [h1, h2]; simpa using ih
      · simp [h1, h2]; have := ih; simp at this; omega
    · have h2 : a ∉ met := fun hm => h1 (h a hm)
      simp [h1, h2]; simpa using ih
open Classical in
theorem left_cons {names met : List α} {n : α} (hn : n ∈ names) (hm : n ∉ met) : left names (n :: met) + 1 ≤ left names met := by
  unfold left
  induction names with
  | nil => simp at hn
  | cons a l ih =>
    rcases List.mem_cons.1 hn with rfl | hn
    · have := left_mono (names := l) (met := met) (met' := n :: met) (fun x hx => List.mem_cons_of_mem _ hx)
      unfold left at this
      rw [List.filter_cons_of_neg (by simp), List.filter_cons_of_pos (by simpa using hm)]
      simp only [List.length_cons]; omega
    · have := ih hn
      by_cases h1 : a ∈ met
      · rw [List.filter_cons_of_neg (by simp [h1]), List.filter_cons_of_neg (by simp [h1])]; exact this
      · rw [List.filter_cons_of_pos (l := l) (p := fun n => decide (n ∉ met)) (by simpa using h1)]
        by_cases h2 : a = n
        · rw [List.filter_cons_of_neg (by simp [h2])]; simp only [List.length_cons]; omega
        · rw [List.filter_cons_of_pos (by simp [h1, h2])]; simp only [List.length_cons]; omega
theorem walk_len {names : List α} (hus : ∀ x, ∀ y ∈ us x, y ∈ names) : ∀ (n : α) (met out : List α) (e : Int) (met' out' : List α), Walk er us n met out e met' out' → n ∈ names → (∀ x ∈ met, x ∈ met') ∧ out'.length + left names met' ≤ out.length + left names met := by
  intro n met out e met' out' h
  refine Walk.rec (motive_1 := fun n met out e met' out' _ => n ∈ names → (∀ x ∈ met, x ∈ met') ∧ out'.length + left names met' ≤ out.length + left names met)
    (motive_2 := fun ns met out e met' out' _ => (∀ n ∈ ns, n ∈ names) → (∀ x ∈ met, x ∈ met') ∧ out'.length + left names met' ≤ out.length + left names met) ?_ ?_ ?_ ?_ ?_ ?_ h
  · intro n met out _ _; exact ⟨fun _ h => h, Nat.le_refl _⟩
  · intro n met out hn _ hm
    have := left_cons hm hn
    exact ⟨fun _ h => List.mem_cons_of_mem _ h, by omega⟩
  · intro n met out met' out' e hn _ _ ih hm
    obtain ⟨h1, h2⟩ := ih (fun y hy => hus _ y hy)
    have := left_cons hm hn
    exact ⟨fun x hx => h1 x (List.mem_cons_of_mem _ hx), by rw [List.length_append, List.length_singleton]; omega⟩
  · intro met out _; exact ⟨fun _ h => h, Nat.le_refl _⟩
  · intro n ns met out met' out' e _ _ ih hm
    exact ih (hm n (List.mem_cons_self ..))
  · intro n ns met out met' out' met'' out'' e _ _ ih1 ih2 hm
    obtain ⟨h1, h2⟩ := ih1 (hm n (List.mem_cons_self ..))
    obtain ⟨h3, h4⟩ := ih2 fun y hy => hm y (List.mem_cons_of_mem _ hy)
    exact ⟨fun x hx => h3 x (h1 x hx), by omega⟩
end Go.Proofs.YtolaiebjmhieiaaGreatDoor.Graph
end
section
namespace Go.Proofs.YtolaiebjmhieiaaGreatDoor.OScan
open Go.RowKit Go.Proofs.YtolaiebjmhieiaaGreatDoorW.PrintWords Go.Proofs.YtolaiebjmhieiaaGreatDoorW.PrintLast Go.Proofs.YtolaiebjmhieiaaGreatDoorW.PrintMore
set_option linter.unusedVariables false
set_option linter.unusedSimpArgs false
theorem RdIs.kept {base : Nat} {w w' : World} {rb : Nat} {us : List Us} {er : Int} (h : RdIs base w rb us er) (hk : ∀ (k : Nat) (cs : Array Value), (w.heap[k]? = some (Obj.cells cs 54 (0, 0)) ∨ w.heap[k]? = some (Obj.cells cs 34 (0, 0))) → w'.heap[k]? = w.heap[k]?) : RdIs base w' rb us er := by
  obtain ⟨h0, vl, vu, h1, h2⟩ := h
  refine ⟨h0, vl, vu, (hk _ _ (.inl h1)).trans h1, Kd.R_mono (Kd.R_step (Kd.R_bound h2) (fun k ho _ => ?_)) (fun _ _ => trivial)⟩
  obtain ⟨_, _, _, q, hq, cs, hc⟩ := ho
  obtain rfl : q = 34 := by
    rcases List.mem_cons.1 hq with h | h
    · exact h
    · exact absurd (show q ∈ ([] : List Nat) from h) (by simp)
  exact hk _ _ (.inr hc)
structure PS (us : ByteArray → List Us) (er : ByteArray → Int) (w0 : World) (m : AL) (pv : Value) (PB fm cm : Nat) (w : World) : Prop where
  below : Below w0.heap.size w0 w
  prj : ∃ c, PrjIs w0.heap.size w PB fm cm pv m c ∧ ∀ n u, alGet c n = some u → ∃ rb, u = .pointer (some ⟨rb, 0, none⟩) ∧ RdIs w0.heap.size w rb (us n) (er n)
section
variable {us : ByteArray → List Us} {er : ByteArray → Int} {w0 : World} {m : AL} {pv : Value} {PB fm cm : Nat}
theorem PS.kept {w w' : World} (P : PS us er w0 m pv PB fm cm w) (hb : Below w0.heap.size w0 w') (hk : ∀ k, (k = PB ∨ k = fm ∨ k = cm ∨ ∃ cs : Array Value, w.heap[k]? = some (Obj.cells cs 54 (0, 0)) ∨ w.heap[k]? = some (Obj.cells cs 34 (0, 0))) → w'.heap[k]? = w.heap[k]?) : PS us er w0 m pv PB fm cm w' := by
  obtain ⟨c, hP, hc⟩ := P.prj
  refine ⟨hb, c, ⟨(hk _ (.inl rfl)).trans hP.hP, hP.hm.same (hk _ (.inr (.inl rfl))), hP.hc.same (hk _ (.inr (.inr (.inl rfl)))), hP.bP, hP.bm, hP.bc, hP.ne⟩, fun n u hu => ?_⟩
  obtain ⟨rb, e, hr⟩ := hc n u hu
  exact ⟨rb, e, hr.kept fun k cs hc => hk k (.inr (.inr (.inr ⟨cs, hc⟩)))⟩
theorem PS.step {w w' : World} (P : PS us er w0 m pv PB fm cm w) (hb : Below w.heap.size w w') : PS us er w0 m pv PB fm cm w' := by
  obtain ⟨c, hP, hc⟩ := P.prj
  refine P.kept (below_step P.below hb) (fun k hk => hb.block k ?_)
  rcases hk with rfl | rfl | rfl | ⟨cs, h | h⟩
  · exact blk_lt hP.hP
  · exact hP.hm.lt
  · exact hP.hc.lt
  · exact blk_lt h
  · exact blk_lt h
theorem PS.cell_ne {w : World} (P : PS us er w0 m pv PB fm cm w) {k t : Nat} {cs : Array Value} (h : w.heap[k]? = some (.cells cs t (0, 0))) (ht : t ≠ 87) : k ≠ PB ∧ k ≠ fm ∧ k ≠ cm := by
  obtain ⟨c, hP, hc⟩ := P.prj
  refine ⟨?_, ?_, ?_⟩
  · rintro rfl
    have := hP.hP
    rw [h] at this
    injection this with this
    injection this with _ h2
    exact ht h2
  · rintro rfl
    obtain ⟨es, cl, h1, _⟩ := hP.hm
    rw [h] at h1
    cases h1
  · rintro rfl
    obtain ⟨es, cl, h1, _⟩ := hP.hc
    rw [h] at h1
    cases h1
end
structure Ids where
  MC : Nat
  PC : Nat
  OC : Nat
  WC : Nat
  mm : Nat
  bA : Nat
def walkV (I : Ids) : Value := .func (.func 52) #[] #[.pointer (some ⟨I.MC, 0, none⟩), .pointer (some ⟨I.PC, 0, none⟩), .pointer (some ⟨I.OC, 0, none⟩), .pointer (some ⟨I.WC, 0, none⟩)]
structure WS (us : ByteArray → List Us) (er : ByteArray → Int) (w0 : World) (m : AL) (pv : Value) (PB fm cm : Nat) (I : Ids) (w : World) (v : Value) (met out : List ByteArray) : Prop where
  ps : PS us er w0 m pv PB fm cm w
  mc : w.heap[I.MC]? = some (.cells #[.map (some I.mm)] 112 (0, 0))
  pc : w.heap[I.PC]? = some (.cells #[.pointer (some ⟨PB, 0, none⟩)] 47 (0, 0))
  oc : w.heap[I.OC]? = some (.cells #[v] 23 (0, 0))
  wc : w.heap[I.WC]? = some (.cells #[walkV I] 113 (0, 0))
  mm : ∃ al, MapIs w I.mm al ∧ ∀ n, (n ∈ met → alGet al n = some (.bool true)) ∧ (n ∉ met → alGet al n = none)
  out : Kd.R Kd.string 9 w I.bA (fun _ => True) v out
  b0 : w0.heap.size ≤ I.bA
  bo : I.bA ≤ I.OC
  bm : I.bA ≤ I.mm
  nf : I.mm ≠ fm
  nc : I.mm ≠ cm
structure WF (cm : Nat) (I : Ids) (w : World) (v : Value) (w' : World) (v' : Value) : Prop where
  size : w.heap.size ≤ w'.heap.size
  keep : ∀ k, k < w.heap.size → k ≠ cm → k ≠ I.mm → k ≠ I.OC → some k ≠ v.ownBlock → w'.heap[k]? = w.heap[k]?
  at_ : v'.ownBlock = v.ownBlock ∨ ∃ b, v'.ownBlock = some b ∧ w.heap.size ≤ b
theorem WF.of_below {cm : Nat} {I : Ids} {w w' : World} {v : Value} (h : Below w.heap.size w w') : WF cm I w v w' v := ⟨h.size, fun k hk _ _ _ _ => h.block k hk, .inl rfl⟩
theorem WF.trans {cm : Nat} {I : Ids} {w w1 w2 : World} {v v1 v2 : Value} (h : WF cm I w v w1 v1) (k : WF cm I w1 v1 w2 v2) : WF cm I w v w2 v2 := by
  refine ⟨Nat.le_trans h.size k.size, fun j hj h1 h2 h3 h4 => ?_, ?_⟩
  · have hs := h.size
    refine (k.keep j (by omega) h1 h2 h3 ?_).trans (h.keep j hj h1 h2 h3 h4)
    rcases h.at_ with e | ⟨b, e, hb⟩
    · rw [e]; exact h4
    · rw [e]; intro e2; injection e2 with e2; omega
  · have hs := h.size
    rcases k.at_ with e | ⟨b, e, hb⟩
    · rw [e]; exact h.at_
    · exact .inr ⟨b, e, by omega⟩
section
variable {us : ByteArray → List Us} {er : ByteArray → Int} {w0 : World} {m : AL} {pv : Value} {PB fm cm : Nat} {I : Ids}
theorem WS.far {w w' : World} {v v' : Value} {met out : List ByteArray} (S : WS us er w0 m pv PB fm cm I w v met out) (F : WF cm I w v w' v') {k t : Nat} {cs : Array Value} (h : w.heap[k]? = some (.cells cs t (0, 0))) (h1 : t ≠ 87) (h2 : t ≠ 23) (h3 : t ≠ 9) : w'.heap[k]? = w.heap[k]? := by
  have hc := S.ps.cell_ne h h1
  refine F.keep k (blk_lt h) hc.2.2 ?_ ?_ (Kd.R_ne S.out h (by omega))
  · rintro rfl
    obtain ⟨al, ⟨es, cl, h4, _⟩, _⟩ := S.mm
    rw [h] at h4
    cases h4
  · rintro rfl
    have h4 := S.oc
    rw [h] at h4
    injection h4 with h4
    injection h4 with _ h5
    exact h2 h5
theorem WS.step {w w' : World} {v : Value} {met out : List ByteArray} (S : WS us er w0 m pv PB fm cm I w v met out) (hb : Below w.heap.size w w') : WS us er w0 m pv PB fm cm I w' v met out := by
  obtain ⟨al, hM, hal⟩ := S.mm
  exact ⟨S.ps.step hb, (hb.block _ (blk_lt S.mc)).trans S.mc, (hb.block _ (blk_lt S.pc)).trans S.pc, (hb.block _ (blk_lt S.oc)).trans S.oc, (hb.block _ (blk_lt S.wc)).trans S.wc, ⟨al, hM.same (hb.block _ hM.lt), hal⟩, Kd.R_below S.out hb, S.b0, S.bo, S.bm, S.nf, S.nc⟩
theorem alGet_put : ∀ (l : AL) (t : ByteArray) (v : Value) (n : ByteArray), alGet (alPut l t v) n = if n == t then some v else alGet l n
  | [], t, v, n => rfl
  | p :: l, t, v, n => by
    have ih := alGet_put l t v n
    simp only [alPut]
    by_cases h : (t == p.1) = true
    · have e : t = p.1 := (MapKept.bytes_beq _ _).1 h
      rw [if_pos h]
      simp only [alGet]
      rw [← e]
      by_cases h2 : (n == t) = true
      · simp [h2]
      · simp [h2]
    · rw [if_neg h]
      simp only [alGet, ih]
      by_cases h2 : (n == p.1) = true
      · have e : n = p.1 := (MapKept.bytes_beq _ _).1 h2
        have h3 : ¬ (n == t) = true := fun h4 => h (by rw [← (MapKept.bytes_beq _ _).1 h4]; exact h2)
        simp [h2, h3]
      · simp [h2]
theorem WS.put {w w' : World} {v : Value} {met out : List ByteArray} (S : WS us er w0 m pv PB fm cm I w v met out) (name : ByteArray) (al : AL) (hal : ∀ n, (n ∈ met → alGet al n = some (.bool true)) ∧ (n ∉ met → alGet al n = none)) (hM : MapIs w' I.mm (alPut al name (.bool true))) (hO : OnlyAt w w' I.mm) : WS us er w0 m pv PB fm cm I w' v (name :: met) out := by
  obtain ⟨al0, ⟨es, cl, hm0, _⟩, _⟩ := S.mm
  have hne : ∀ {k t : Nat} {cs : Array Value}, w.heap[k]? = some (.cells cs t (0, 0)) → k ≠ I.mm := by
    rintro k t cs h rfl
    rw [hm0] at h
    cases h
  obtain ⟨c, hP, _⟩ := S.ps.prj
  refine ⟨S.ps.kept ?_ (fun k hk => hO.block k ?_), (hO.block _ (hne S.mc)).trans S.mc, (hO.block _ (hne S.pc)).trans S.pc, (hO.block _ (hne S.oc)).trans S.oc, (hO.block _ (hne S.wc)).trans S.wc, ⟨_, hM, fun n => ?_⟩, ?_, S.b0, S.bo, S.bm, S.nf, S.nc⟩
  · have h1 := S.b0
    have h2 := S.bm
    exact hO.below S.ps.below (by omega)
  · rcases hk with rfl | rfl | rfl | ⟨cs, h | h⟩
    · exact hne hP.hP
    · exact Ne.symm S.nf
    · exact Ne.symm S.nc
    · exact hne h
    · exact hne h
  · rw [alGet_put]
    by_cases hn : (n == name) = true
    · have e := (MapKept.bytes_beq _ _).1 hn
      subst e
      exact ⟨fun _ => by rw [if_pos hn], fun h => absurd (List.mem_cons_self ..) h⟩
    · have e : n ≠ name := fun e => hn ((MapKept.bytes_beq _ _).2 e)
      rw [if_neg hn]
      exact ⟨fun h => (hal n).1 (by
        rcases List.mem_cons.1 h with h | h
        · exact absurd h e
        · exact h), fun h => (hal n).2 fun h2 => h (List.mem_cons_of_mem _ h2)⟩
  · exact Kd.R_step (Kd.R_bound S.out) (fun k ho _ => by
      obtain ⟨_, _, _, q, _, cs, hc⟩ := ho
      exact hO.block k (hne hc)) |> fun h => Kd.R_mono h (fun _ _ => trivial)
theorem WF.put {w w' : World} {v : Value} (hO : OnlyAt w w' I.mm) : WF cm I w v w' v := ⟨by rw [hO.size]; exact Nat.le_refl _, fun k _ _ h _ _ => hO.block k h, .inl rfl⟩
theorem WS.read {w w' : World} {v : Value} {met out : List ByteArray} (S : WS us er w0 m pv PB fm cm I w v met out) (hP : PS us er w0 m pv PB fm cm w') (hs : w.heap.size ≤ w'.heap.size) (hk : ∀ k, k < w.heap.size → k ≠ cm → w'.heap[k]? = w.heap[k]?) : WS us er w0 m pv PB fm cm I w' v met out := by
  obtain ⟨al, hM, hal⟩ := S.mm
  have far : ∀ {k t : Nat} {cs : Array Value}, w.heap[k]? = some (.cells cs t (0, 0)) → t ≠ 87 → w'.heap[k]? = w.heap[k]? := fun h ht => hk _ (blk_lt h) (S.ps.cell_ne h ht).2.2
  refine ⟨hP, (far S.mc (by decide)).trans S.mc, (far S.pc (by decide)).trans S.pc, (far S.oc (by decide)).trans S.oc, (far S.wc (by decide)).trans S.wc, ⟨al, hM.same (hk _ hM.lt S.nc), hal⟩, ?_, S.b0, S.bo, S.bm, S.nf, S.nc⟩
  exact Kd.R_step (Kd.R_bound S.out) (fun k ho _ => by
    obtain ⟨_, _, _, q, hq, cs, hc⟩ := ho
    obtain rfl : q = 9 := by
      rcases List.mem_cons.1 hq with h | h
      · exact h
      · exact absurd (show q ∈ ([] : List Nat) from h) (by simp)
    exact far hc (by decide)) |> fun h => Kd.R_mono h (fun _ _ => trivial)
theorem WF.read {w w' : World} {v : Value} (hs : w.heap.size ≤ w'.heap.size) (hk : ∀ k, k < w.heap.size → k ≠ cm → w'.heap[k]? = w.heap[k]?) : WF cm I w v w' v := ⟨hs, fun k h1 h2 _ _ _ => hk k h1 h2, .inl rfl⟩
end
end Go.Proofs.YtolaiebjmhieiaaGreatDoor.OScan
end
section
namespace Go.Proofs.YtolaiebjmhieiaaGreatDoor.OScan
open Go.RowKit Go.Proofs.YtolaiebjmhieiaaGreatDoorW.PrintWords Go.Proofs.YtolaiebjmhieiaaGreatDoorW.PrintLast Go.Proofs.YtolaiebjmhieiaaGreatDoorW.PrintMore
set_option linter.unusedVariables false
set_option linter.unusedSimpArgs false
theorem info9 : (Tryz.prog.info? 9).map (fun i => (i.zero, i.size, i.bytes)) = some (some (.string ⟨#[]⟩), 1, 16) := by kernel_rfl
set_option maxHeartbeats 1000000 in
set_option maxRecDepth 100000 in
theorem app_deferred (OC NB bA : Nat) (u : FrameMode) (w : World) (v : Value) (out : List ByteArray) (name : ByteArray) (hO : w.heap[OC]? = some (.cells #[v] 23 (0, 0))) (hN : w.heap[NB]? = some (.cells #[.string name] 9 (0, 0))) (hR : Kd.R Kd.string 9 w bA (fun _ => True) v out) (hb : bA ≤ w.heap.size) (hl : out.length ≤ 1000) :
    CallsD Tryz.prog 53 #[.pointer (some ⟨OC, 0, none⟩), .pointer (some ⟨NB, 0, none⟩)] u w fun e u' w' => u' = u ∧ (e = .returned (.tuple #[]) ∧ ∃ v', w'.heap[OC]? = some (.cells #[v'] 23 (0, 0)) ∧ Kd.R Kd.string 9 w' bA (fun _ => True) v' (out ++ [name]) ∧ w.heap.size ≤ w'.heap.size ∧ (∀ k, k < w.heap.size → k ≠ OC → some k ≠ v.ownBlock → w'.heap[k]? = w.heap[k]?) ∧ (v'.ownBlock = v.ownBlock ∨ ∃ b, v'.ownBlock = some b ∧ w.heap.size ≤ b) ∧ w'.os = w.os ∧ w'.tape = w.tape ∧ w'.output = w.output) := by
  obtain ⟨A, c, rfl⟩ := Kd.R_slice hR
  have o1 : w.cell? ⟨OC, 0, none⟩ = some (.slice A out.length c) := by have := cell_of_row w OC 0 _ _ _ hO; simpa using this
  have n1 : w.cell? ⟨NB, 0, none⟩ = some (.string name) := by have := cell_of_row w NB 0 _ _ _ hN; simpa using this
  have HO := Aside0.mk hO
  have HR := Aside0.mk hR
  have HB := Aside0.mk hb
  have HL := Aside0.mk hl
  have HOW : Aside0 (some OC ≠ (Value.slice A out.length c).ownBlock) := ⟨Kd.R_ne hR hO (by decide)⟩
  clear hO hN hR hb hl
  obtain ⟨n, hn⟩ : ∃ n, n = out.length := ⟨_, rfl⟩
  rw [← hn] at o1 HO HR HOW ⊢
  have HN := Aside0.mk hn
  clear hn
  go_enter_d Tryz.func53, Tryz.ntmps53
  go_wp2_with (at_builtin; go_loud (refine Kd.R_append Kd.string (w0 := w) (W := w) bA rfl (.tmp 2) (.tmp 4) 23 9 (.string ⟨#[]⟩) 16 rfl Tryz.underlying23 info9 rfl (by decide) (by omega) (.slice A n c) out name [.string name] (fun _ => True) (fun _ => False) rfl rfl rfl (fun _ hk => hk.elim) (fun _ _ => trivial) ?aO ?aB ?aS ?aL ?_; (case aO => exact HR.out); (case aB => exact Below.refl _ _); (case aS => exact HB.out); (case aL => have := HL.out; omega); intro v1 w6 ho hb6 hg6 hat6; obtain ⟨A1, c1, rfl⟩ := Kd.R_slice ho; rw [List.length_append, List.length_singleton] at ho hat6; have hc6 := (hg6.block OC (blk_lt HO.out) HOW.out).trans HO.out; have r0 : w6.cell? ⟨OC, 0, none⟩ = some (.slice A n c) := (by have := cell_of_row _ OC 0 _ _ _ hc6; simpa using this); have r1 := blk_frozen hc6 0; have HC6 := Aside0.mk hc6; have HO6 := Aside0.mk ho; have HG6 := Aside0.mk hg6; have HA6 := Aside0.mk hat6; clear ho hb6 hg6 hat6 hc6))
  go_end0
  refine ⟨rfl, _, blk_put HC6.out 0 _ rfl, Kd.R_set HO6.out HC6.out (by decide) 0 _, ?_, fun k h1 h2 h3 => ?_, HA6.out, ?_, ?_, ?_⟩
  · have := HG6.out.size; simp; exact this
  · exact (Below.heap_setCell _ ⟨OC, 0, none⟩ _ k h2).trans (HG6.out.block k h1 h3)
  · exact HG6.out.os
  · exact HG6.out.tape
  · exact HG6.out.output
end Go.Proofs.YtolaiebjmhieiaaGreatDoor.OScan
end
