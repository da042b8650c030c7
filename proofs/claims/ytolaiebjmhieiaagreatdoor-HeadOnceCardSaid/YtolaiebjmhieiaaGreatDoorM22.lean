/- HeadOnce: for every list of files, every name and every list of places the law answers true, and all read behind the call as before; the listed tables are tied to the text of the program; no condition. Here: parts of its proof. -/
import Derived.Test.YtolaiebjmhieiaaGreatDoorM21
import Derived.Test.YtolaiebjmhieiaaGreatDoorM19
import Derived.Test.YtolaiebjmhieiaaGreatDoorM20
import Derived.Test.YtolaiebjmhieiaaGreatDoorM01
import Derived.Lib.LazyBuf
import Derived.Shelf.SlSortCmp.WholeK
import Derived.Ground.SlsfProg
import Derived.Test.YtolaiebjmhieiaaGreatDoorProg
import Derived.Laws.Cover1
import Derived.Sort.LotA
import Derived.StillTailTactics
section
namespace Go.Proofs.YtolaiebjmhieiaaGreatDoor.OScan
open Go.RowKit Go.Proofs.YtolaiebjmhieiaaGreatDoorW.PrintWords Go.Proofs.YtolaiebjmhieiaaGreatDoorW.PrintLast Go.Proofs.YtolaiebjmhieiaaGreatDoorW.PrintMore
set_option linter.unusedVariables false
set_option linter.unusedSimpArgs false
def kindR (t : Tk) : ByteArray := (OCond.cond_Kind.f 20 t.1 t.2.1 t.2.2.1 t.2.2.2).getD ⟨#[]⟩
def incR (t : Tk) : Option (ByteArray × Bool) :=
  if (kindR t).toList = incL then
    match OCond.cond_Words.f t.1 t.2.1 t.2.2.1 t.2.2.2 with
    | some (ws, _) => incP (trimB (t.2.2.1.extract ((OCond.rd_T95 ws 0).f3 + 8).toNat t.2.2.1.size))
    | none => none
  else none
def ksR (s : ByteArray) : List ByteArray := (scanR s).1.map kindR
def grR (s : ByteArray) : List Gr := (groupsR (ksR s)).1
def erR (s : ByteArray) : Int := if (scanR s).2 ≠ 0 then (scanR s).2 else (groupsR (ksR s)).2.1
def incsR (s : ByteArray) (i : Nat) : Option (ByteArray × Bool) := ((scanR s).1[i]?).bind incR
def filesR (m : AL) (ps : List ByteArray) (name s : ByteArray) (i : Nat) : ByteArray := match incsR s i with
  | some (n, q) => findR m ps name n q
  | none => ⟨#[]⟩
def usT (m : AL) (ps : List ByteArray) (name s : ByteArray) : List Us := if erR s ≠ 0 then [] else usF (incsR s) (filesR m ps name s) (grR s) (scanR s).1.length
def txtOf (m : AL) (n : ByteArray) : ByteArray := match alGet m n with
  | some (.string s) => s
  | _ => ⟨#[]⟩
def usR (m : AL) (ps : List ByteArray) (n : ByteArray) : List Us := usT m ps n (txtOf m n)
def erN (m : AL) (n : ByteArray) : Int := erR (txtOf m n)
theorem kindR_of (t : Tk) (hs : t.2.2.1.size ≤ 190000) : KindOf t (kindR t) := by
  obtain ⟨kd, hk, _⟩ := Kind_tot t hs
  refine ⟨20, ?_⟩
  unfold kindR
  rw [hk]; rfl
theorem inc_any (t : Tk) (w : World) (hG : Glob2 w) (hs : t.2.2.1.size ≤ 190000) :
    Calls Tryz.prog 42 #[.agg #[.int .i64 t.1, .string t.2.1, .string t.2.2.1, .int .i64 t.2.2.2]] w fun e w' => e = .returned (.tuple #[useV (incR t), .bool (incR t).isSome]) ∧ Below w.heap.size w w' := by
  obtain ⟨kd, hk, hi⟩ := Kind_tot t hs
  have hkd : kindR t = kd := by unfold kindR; rw [hk]; rfl
  by_cases he : kd.toList = incL
  · obtain ⟨ws, er, a, hW, hl, ha, h0, h1⟩ := hi he
    have hr : incR t = incP (trimB (t.2.2.1.extract (a + 8).toNat t.2.2.1.size)) := by
      unfold incR
      rw [hkd, if_pos he, hW]
      simp only [ha]
    rw [hr]
    exact inc_yes t kd ws er a w hG ⟨20, hk⟩ he hW hl ha h0 h1 (by omega) _ rfl
  · have hr : incR t = none := by unfold incR; rw [hkd, if_neg he]
    rw [hr]
    exact inc_not t kd w hG ⟨20, hk⟩ he
theorem extract_le (s : ByteArray) (a b : Nat) : (s.extract a b).size ≤ s.size := by rw [ByteArray.size_extract]; omega
theorem incP_size {rest n : ByteArray} {q : Bool} (h : incP rest = some (n, q)) : n.size ≤ rest.size := by
  unfold incP at h
  split at h
  · unfold between at h
    simp only at h
    split at h
    · cases h
    · injection h with h
      injection h with h1 h2
      rw [← h1]; exact extract_le _ _ _
  · split at h
    · unfold between at h
      simp only at h
      split at h
      · cases h
      · injection h with h
        injection h with h1 h2
        rw [← h1]; exact extract_le _ _ _
    · cases h
theorem incR_size {t : Tk} {n : ByteArray} {q : Bool} (h : incR t = some (n, q)) : n.size ≤ t.2.2.1.size := by
  unfold incR at h
  split at h
  · split at h
    · have := incP_size h
      exact Nat.le_trans this (Nat.le_trans (trimB_le _) (extract_le _ _ _))
    · cases h
  · cases h
structure EnvOK (w0 : World) (m : AL) (ps : List ByteArray) (Ap : Option Addr) : Prop where
  glob : Glob2 w0
  places : Kd.C Kd.string w0 Ap ps.length ps
  hA : Ap = none ∨ ∃ b o, Ap = some ⟨b, o, none⟩
  npl : ps.length ≤ 5
  files : ∀ n u, alGet m n = some u → ∃ s, u = .string s ∧ s.size ≤ 4000 ∧ n.size ≤ 4000
  psz : ∀ p ∈ ps, p.size ≤ 140737488355328
theorem scan_toks (s : ByteArray) (hs : s.size ≤ 4000) : (scanR s).1.length ≤ 40000 ∧ ∀ (i : Nat) (t : Tk), (scanR s).1[i]? = some t → t.2.2.1.size ≤ 4000 := by
  unfold scanR
  rw [if_neg (by omega)]
  split
  · exact ⟨by simp, fun i t h => by simp at h⟩
  · refine ⟨by simp only; omega, fun i t h => ?_⟩
    obtain ⟨q1, q2, _⟩ := toksD_at s (by omega) (s.size + 1) 0 true (by omega) (by omega) i t h
    omega
theorem read_any (m : AL) (ps : List ByteArray) (Ap : Option Addr) (cp PB fm cm : Nat) (w0 w : World) (name : ByteArray) (E : EnvOK w0 m ps Ap) (hn : (alGet m name).isSome = true)
    (P : PS (usR m ps) (erN m) w0 m (.slice Ap ps.length cp) PB fm cm w) :
    Calls Tryz.prog 21 #[.pointer (some ⟨PB, 0, none⟩), .string name] w fun e w' => ∃ rb, e = .returned (.pointer (some ⟨rb, 0, none⟩)) ∧ RdIs w0.heap.size w' rb (usR m ps name) (erN m name) ∧ PS (usR m ps) (erN m) w0 m (.slice Ap ps.length cp) PB fm cm w' ∧ w.heap.size ≤ w'.heap.size ∧ ∀ k, k < w.heap.size → k ≠ cm → w'.heap[k]? = w.heap[k]? := by
  obtain ⟨c, HP, hC⟩ := P.prj
  obtain ⟨u0, hu0⟩ := Option.isSome_iff_exists.1 hn
  obtain ⟨text, rfl, hsz, hnsz⟩ := E.files name u0 hu0
  have htx : txtOf m name = text := by unfold txtOf; rw [hu0]
  have ht : (alGet m name).getD (.string ⟨#[]⟩) = .string text := by rw [hu0]; rfl
  have hmap0 : ∃ es cl, w.heap[cm]? = some (.map es cl) := by obtain ⟨es, cl, h, _⟩ := HP.hc; exact ⟨es, cl, h⟩
  have hmapf : ∃ es cl, w.heap[fm]? = some (.map es cl) := by obtain ⟨es, cl, h, _⟩ := HP.hm; exact ⟨es, cl, h⟩
  cases hc : alGet c name with
  | some u =>
    obtain ⟨rb, rfl, hR⟩ := hC name u hc
    refine (read_old m c name _ _ w0.heap.size PB fm cm w HP hc).mono fun e w' ⟨he, hb, ho⟩ => ⟨rb, he, ?_, ?_, by rw [ho.size]; exact Nat.le_refl _, fun k _ _ => ?_⟩
    · exact hR.kept fun k cs hk => by
        by_cases hkp : k = PB
        · rw [hkp]; exact hb
        · exact ho.block k hkp
    · refine P.kept ?_ (fun k _ => ?_)
      · have hbs := HP.bP
        exact ho.below P.below hbs
      · by_cases hkp : k = PB
        · rw [hkp]; exact hb
        · exact ho.block k hkp
    · by_cases hkp : k = PB
      · rw [hkp]; exact hb
      · exact ho.block k hkp
  | none =>
    have fin : ∀ (rb : Nat) (w' : World), ReadQ w0 w w' PB cm c name rb (usR m ps name) (erN m name) → RdIs w0.heap.size w' rb (usR m ps name) (erN m name) ∧ PS (usR m ps) (erN m) w0 m (.slice Ap ps.length cp) PB fm cm w' ∧ w.heap.size ≤ w'.heap.size ∧ ∀ k, k < w.heap.size → k ≠ cm → w'.heap[k]? = w.heap[k]? := fun rb w' Q => by
      have hk : ∀ k, k < w.heap.size → k ≠ cm → w'.heap[k]? = w.heap[k]? := fun k h1 h2 => by
        by_cases hkp : k = PB
        · rw [hkp]; exact Q.pb
        · exact Q.keep k h1 hkp h2
      have hcell : ∀ k (cs : Array Value) (t : Nat), w.heap[k]? = some (Obj.cells cs t (0, 0)) → w'.heap[k]? = w.heap[k]? := fun k cs t h => hk k (blk_lt h) (by
        rintro rfl
        obtain ⟨es, cl, h2⟩ := hmap0
        rw [h] at h2
        cases h2)
      have hrs : rb < w'.heap.size := by obtain ⟨_, vl, vu, h, _⟩ := Q.rd; exact blk_lt h
      refine ⟨Q.rd, ⟨Q.below, _, ⟨(hcell PB _ _ HP.hP).trans HP.hP, HP.hm.same (hk fm HP.hm.lt HP.ne), Q.map, HP.bP, HP.bm, HP.bc, HP.ne⟩, fun n u hu => ?_⟩, by have := Q.new; omega, hk⟩
      rw [alGet_put] at hu
      split at hu
      · rename_i hnn
        have e := (MapKept.bytes_beq _ _).1 hnn
        obtain rfl := Option.some.inj hu
        rw [e]
        exact ⟨rb, rfl, Q.rd⟩
      · obtain ⟨rb', e, hR⟩ := hC n u hu
        exact ⟨rb', e, hR.kept fun k cs h => by
          rcases h with h | h
          · exact hcell k cs _ h
          · exact hcell k cs _ h⟩
    obtain ⟨hyl, htk⟩ := scan_toks text hsz
    by_cases he1 : (scanR text).2 = 0
    · have hkl : (ksR text).length = (scanR text).1.length := by unfold ksR; rw [List.length_map]
      have hK : ∀ (i : Nat) (t : Tk), (scanR text).1[i]? = some t → ∃ r, (ksR text)[i]? = some r ∧ KindOf t r := fun i t h => ⟨kindR t, by unfold ksR; rw [List.getElem?_map, h]; rfl, kindR_of t (by have := htk i t h; omega)⟩
      by_cases he2 : (groupsR (ksR text)).2.1 = 0
      · have hgi := groups_inv (ksR text)
        have her : erR text = 0 := by unfold erR; rw [if_neg (by simpa using he1)]; exact he2
        have hus : usR m ps name = usF (incsR text) (filesR m ps name text) (groupsR (ksR text)).1 (scanR text).1.length := by
          unfold usR usT
          rw [htx, if_neg (by simpa using her)]; rfl
        have hern : erN m name = 0 := by unfold erN; rw [htx]; exact her
        rw [hus, hern] at fin
        rw [hus, hern]
        refine (read_ok m c name text Ap ps.length cp PB fm cm w0 w HP P.below E.glob hc ht (by omega) he1 (ksR text) (by omega) hkl hK he2 (fun g hg => ⟨groups_two _ he2 g hg, by have := hgi.2 g hg; omega⟩) (by omega) (incsR text) (filesR m ps name text) (fun i t h W hW => ?_) (fun i n q hi _ W hb hF => ?_)).mono fun e w' ⟨rb, he, Q⟩ => ⟨rb, he, fin rb w' Q⟩
        · have : incsR text i = incR t := by unfold incsR; rw [h]; rfl
          rw [this]
          exact inc_any t W hW (by have := htk i t h; omega)
        · have hfi : filesR m ps name text i = findR m ps name n q := by unfold filesR; rw [hi]
          rw [hfi]
          have hns : n.size ≤ 4000 := by
            unfold incsR at hi
            obtain ⟨t, h1, h2⟩ := Option.bind_eq_some_iff.1 hi
            have := incR_size h2
            have := htk i t h1
            omega
          obtain ⟨l1, l2, l3⟩ := ldR_of name (by omega)
          exact find_any m 1 ps name n ⟨#[]⟩ q (ldR name) (name.size + 2) ((dirsR ps name q).map fun d => joinR d n) PB fm cm Ap cp W hF (Kd.C_below E.places (by exact hb)) E.hA (by have := E.npl; omega) l1 l2 l3 (by omega) (dirsR ps name q) rfl (by rw [List.length_map]) (fun j d hd => ⟨joinR d n, by rw [List.getElem?_map, hd]; rfl, joinR_of d n (by omega) (by
            have hm := List.mem_of_getElem? hd
            unfold dirsR at hm
            split at hm
            · rcases List.mem_cons.1 hm with h | h
              · rw [h]; have := extract_le name 0 (max 0 (ldR name)).toNat; omega
              · exact E.psz d h
            · exact E.psz d hm)⟩)
      · have her : erR text = (groupsR (ksR text)).2.1 := by unfold erR; rw [if_neg (by simpa using he1)]
        have hus : usR m ps name = [] := by unfold usR usT; rw [htx, if_pos (by rw [her]; exact he2)]
        have hern : erN m name = (groupsR (ksR text)).2.1 := by unfold erN; rw [htx]; exact her
        rw [hus, hern] at fin
        rw [hus, hern]
        exact (read_e2 m c name text _ PB fm cm w0 w HP P.below E.glob hc ht (by omega) he1 (ksR text) (by omega) hkl hK he2).mono fun e w' ⟨rb, he, Q⟩ => ⟨rb, he, fin rb w' Q⟩
    · have her : erR text = (scanR text).2 := by unfold erR; rw [if_pos he1]
      have hus : usR m ps name = [] := by unfold usR usT; rw [htx, if_pos (by rw [her]; exact he1)]
      have hern : erN m name = (scanR text).2 := by unfold erN; rw [htx]; exact her
      rw [hus, hern] at fin
      rw [hus, hern]
      exact (read_e1 m c name text _ PB fm cm w0 w HP P.below E.glob hc ht (by omega) he1).mono fun e w' ⟨rb, he, Q⟩ => ⟨rb, he, fin rb w' Q⟩
end Go.Proofs.YtolaiebjmhieiaaGreatDoor.OScan
end
section
namespace Go.Proofs.YtolaiebjmhieiaaGreatDoor.OScan
open Go.RowKit Go.Proofs.YtolaiebjmhieiaaGreatDoorW.PrintWords Go.Proofs.YtolaiebjmhieiaaGreatDoorW.PrintLast Go.Proofs.YtolaiebjmhieiaaGreatDoorW.PrintMore
set_option linter.unusedVariables false
set_option linter.unusedSimpArgs false
structure ArgsOK (W : World) (files : List Fl) (ps : List ByteArray) (A Ap : Option Addr) (c cp : Nat) : Prop where
  glob : Glob2 W
  fc : Kd.C kFl W A files.length files
  fl : files.length ≤ c
  pc : Kd.C Kd.string W Ap ps.length ps
  hA : Ap = none ∨ ∃ b o, Ap = some ⟨b, o, none⟩
  npl : ps.length ≤ 5
  nfl : files.length ≤ 61
  fsz : ∀ f ∈ files, f.1.size ≤ 4000 ∧ f.2.size ≤ 4000
  psz : ∀ p ∈ ps, p.size ≤ 140737488355328
theorem ArgsOK.below {W W' : World} {files : List Fl} {ps : List ByteArray} {A Ap : Option Addr} {c cp : Nat} (h : ArgsOK W files ps A Ap c cp) (hb : Below W.heap.size W W') : ArgsOK W' files ps A Ap c cp :=
  ⟨h.glob.below hb, Kd.C_below h.fc hb, h.fl, Kd.C_below h.pc hb, h.hA, h.npl, h.nfl, h.fsz, h.psz⟩
theorem filesGo_get : ∀ (files : List Fl) (m0 m : AL), filesGo m0 files = some m → (∀ n u, alGet m n = some u → alGet m0 n = some u ∨ ∃ f ∈ files, f.1 = n ∧ u = .string f.2) ∧ (∀ n, (alGet m0 n).isSome = true → (alGet m n).isSome = true) ∧ ∀ f ∈ files, (alGet m f.1).isSome = true
  | [], m0, m, h => by
    obtain rfl := Option.some.inj h
    exact ⟨fun n u h => .inl h, fun n h => h, fun f hf => by simp at hf⟩
  | f :: l, m0, m, h => by
    unfold filesGo at h
    split at h
    · cases h
    · obtain ⟨h1, h2, h3⟩ := filesGo_get l _ m h
      refine ⟨fun n u hu => ?_, fun n hn => h2 n ?_, fun g hg => ?_⟩
      · rcases h1 n u hu with h4 | ⟨g, hg, h5⟩
        · rw [alGet_put] at h4
          split at h4
          · rename_i hn
            exact .inr ⟨f, List.mem_cons_self .., ((MapKept.bytes_beq _ _).1 hn).symm, (Option.some.inj h4).symm⟩
          · exact .inl h4
        · exact .inr ⟨g, List.mem_cons_of_mem _ hg, h5⟩
      · rw [alGet_put]
        split
        · rfl
        · exact hn
      · rcases List.mem_cons.1 hg with rfl | hg
        · refine h2 _ ?_
          rw [alGet_put, if_pos ((MapKept.bytes_beq _ _).2 rfl)]; rfl
        · exact h3 g hg
theorem openF_files {files : List Fl} {m : AL} (h : openF files = (0, some m)) : filesGo [] files = some m ∧ files.length ≤ 60 := by
  unfold openF at h
  split at h
  · cases h
  · split at h
    · cases h
    · split at h
      · cases h
      · rename_i m' hm
        injection h with _ h
        injection h with h
        rw [← h]; exact ⟨hm, by omega⟩
theorem open_get {files : List Fl} {m : AL} (h : openF files = (0, some m)) : (∀ n u, alGet m n = some u → ∃ f ∈ files, f.1 = n ∧ u = .string f.2) ∧ ∀ f ∈ files, (alGet m f.1).isSome = true := by
  obtain ⟨h1, _, h3⟩ := filesGo_get files [] m (openF_files h).1
  refine ⟨fun n u hu => ?_, h3⟩
  rcases h1 n u hu with h | h
  · cases h
  · exact h
theorem usF_mem (incs : Nat → Option (ByteArray × Bool)) (files : Nat → ByteArray) (gs : List Gr) : ∀ k, ∀ x ∈ usF incs files gs k, ∃ i, incs i = some (x.1, x.2.1) ∧ x.2.2 = files i
  | 0, x, h => by simp [usF] at h
  | k + 1, x, h => by
    unfold usF at h
    rcases List.mem_append.1 h with h | h
    · exact usF_mem incs files gs k x h
    · split at h
      · rename_i n q hi
        split at h
        · obtain rfl := List.mem_singleton.1 h
          exact ⟨k, hi, rfl⟩
        · simp at h
      · simp at h
theorem usR_in (m : AL) (ps : List ByteArray) (n : ByteArray) : ∀ u ∈ usR m ps n, u.2.2.toList ≠ [] → (alGet m u.2.2).isSome = true := by
  intro u hu hne
  unfold usR usT at hu
  split at hu
  · simp at hu
  · obtain ⟨i, h1, h2⟩ := usF_mem _ _ _ _ u hu
    unfold filesR at h2
    rw [h1] at h2
    simp only at h2
    rcases findGo_in m ((dirsR ps n u.2.1).map fun d => joinR d u.1) with h | h
    · refine absurd ?_ hne
      rw [h2]
      unfold findR
      rw [h, ByteArray.toList_eq]
    · rw [h2]; exact h
def gR (m : AL) (ps : List ByteArray) (n : ByteArray) : List ByteArray := fsOf (usR m ps n)
section
variable {W : World} {files : List Fl} {ps : List ByteArray} {A Ap : Option Addr} {c cp : Nat} {m : AL}
theorem ArgsOK.get_ (H : ArgsOK W files ps A Ap c cp) (hm : openF files = (0, some m)) : ∀ n u, alGet m n = some u → ∃ s, u = .string s ∧ s.size ≤ 4000 ∧ n.size ≤ 4000 := fun n u hu => by
  obtain ⟨f, hf, h1, h2⟩ := (open_get hm).1 n u hu
  have := H.fsz f hf
  exact ⟨f.2, h2, this.2, by rw [← h1]; exact this.1⟩
theorem ArgsOK.envOK (H : ArgsOK W files ps A Ap c cp) (hm : openF files = (0, some m)) : EnvOK W m ps Ap := ⟨H.glob, H.pc, H.hA, H.npl, H.get_ hm, H.psz⟩
theorem ArgsOK.text (H : ArgsOK W files ps A Ap c cp) (hm : openF files = (0, some m)) (n : ByteArray) : (txtOf m n).size ≤ 4000 := by
  unfold txtOf
  split
  · rename_i s h
    obtain ⟨s', h1, h2, _⟩ := H.get_ hm n _ h
    injection h1 with h1
    rw [h1]; exact h2
  · show 0 ≤ 4000
    omega
theorem ArgsOK.env (H : ArgsOK W files ps A Ap c cp) (hm : openF files = (0, some m)) (PB fm cm : Nat) : Env (usR m ps) (erN m) W m (.slice Ap ps.length cp) PB fm cm (files.map (·.1)) where
  nm n hn := by
    obtain ⟨u, hu⟩ := Option.isSome_iff_exists.1 hn
    obtain ⟨f, hf, h1, _⟩ := (open_get hm).1 n u hu
    exact List.mem_map.2 ⟨f, hf, h1⟩
  rd n hn := fun W' P => read_any m ps Ap cp PB fm cm W W' n (H.envOK hm) hn P
  fs n := usR_in m ps n
  len n := by
    unfold usR usT
    split
    · simp
    · have h1 := usF_len (incsR (txtOf m n)) (filesR m ps n (txtOf m n)) (grR (txtOf m n)) (scanR (txtOf m n)).1.length
      have h2 := (scan_toks (txtOf m n) (H.text hm n)).1
      omega
  small := by rw [List.length_map]; have := H.nfl; omega
theorem ps_of_new {PB fm cm : Nat} {W' : World} (hP : PrjIs W.heap.size W' PB fm cm (.slice Ap ps.length cp) m []) (hb : Below W.heap.size W W') : PS (usR m ps) (erN m) W m (.slice Ap ps.length cp) PB fm cm W' :=
  ⟨hb, [], hP, fun n u hu => by cases hu⟩
theorem withF_cases (files : List Fl) (name : ByteArray) : (∃ er, er ≠ 0 ∧ withF files name = (er, none)) ∨ ∃ m, openF files = (0, some m) ∧ (alGet m name).isSome = true ∧ withF files name = (0, some m) := by
  rcases openF_err files with ⟨h1, h2⟩ | ⟨m, hm⟩
  · have h3 : openF files = ((openF files).1, none) := by rw [← h1]
    exact .inl ⟨(openF files).1, by omega, by unfold withF; rw [h3]⟩
  · unfold withF
    rw [hm]
    by_cases h : (alGet m name).isSome = true
    · exact .inr ⟨m, rfl, h, by simp only; rw [if_pos h]⟩
    · exact .inl ⟨4, by decide, by simp only; rw [if_neg h]⟩
set_option maxHeartbeats 1000000 in
set_option maxRecDepth 100000 in
theorem All_any (H : ArgsOK W files ps A Ap c cp) (name : ByteArray) :
    Calls Tryz.prog 9 #[.slice A files.length c, .string name, .slice Ap ps.length cp] W fun e w' => ∃ (er : Int) (v : Value) (out : List ByteArray), e = .returned (.tuple #[v, .int .i64 er]) ∧ Below W.heap.size W w' ∧ Kd.R Kd.string 9 w' W.heap.size (fun _ => True) v out ∧ (er = 0 → ∃ m met, openF files = (0, some m) ∧ (alGet m name).isSome = true ∧ Graph.Walk (erN m) (gR m ps) name [] [] 0 met out) := by
  have H20 := with_any files name A c Ap ps.length cp W H.glob H.fc H.fl (by have := H.nfl; omega) (fun f hf => by have := (H.fsz f hf).1; omega)
  have HH := Aside0.mk H
  obtain ⟨n, hn⟩ : ∃ n, n = files.length := ⟨_, rfl⟩
  obtain ⟨np, hnp⟩ : ∃ np, np = ps.length := ⟨_, rfl⟩
  rcases withF_cases files name with ⟨er, he, hw⟩ | ⟨m, hm, hsome, hw⟩
  · rw [hw, ← hn, ← hnp] at H20
    rw [← hn, ← hnp]
    have er0 : (er != 0) = true := by simpa using he
    have HER := Aside0.mk he
    clear H hw hn hnp he
    go_enter Tryz.func9, Tryz.ntmps9
    go_wp2_with (go_at_call 20; go_loud (refine H20.mono ?_; rintro e w5 ⟨rfl, hb5⟩; have HB5 := Aside0.mk hb5; clear hb5))
    go_ret2
    exact ⟨er, _, [], rfl, HB5.out, Kd.R_nil _ _ _ _ _, fun h => absurd h HER.out⟩
  · have H26 : Aside0 (∀ (w5 : World) (PB fm cm : Nat), PrjIs W.heap.size w5 PB fm cm (.slice Ap np cp) m [] → Below W.heap.size W w5 → Calls Tryz.prog 26 #[.pointer (some ⟨PB, 0, none⟩), .string name] w5 fun e w' => ∃ (er : Int) (v : Value) (out : List ByteArray), e = .returned (.tuple #[v, .int .i64 er]) ∧ Below W.heap.size W w' ∧ Kd.R Kd.string 9 w' W.heap.size (fun _ => True) v out ∧ (er = 0 → ∃ m met, openF files = (0, some m) ∧ (alGet m name).isSome = true ∧ Graph.Walk (erN m) (gR m ps) name [] [] 0 met out)) := ⟨fun w5 PB fm cm hP hb => by
      rw [hnp] at hP
      refine (all_any (HH.out.env hm PB fm cm) name w5 hsome (ps_of_new hP hb)).mono ?_
      rintro e w' ⟨er', met', out', v', rfl, hw, hr, hps, hsz, hk⟩
      refine ⟨er', v', _, rfl, hps.below, Kd.R_lower hr hb.size, fun h => ?_⟩
      subst h
      rw [if_pos rfl]
      exact ⟨m, met', hm, hsome, hw⟩⟩
    rw [hw, ← hn, ← hnp] at H20
    rw [← hn, ← hnp]
    clear H hw hn hnp hm hsome HH
    go_enter Tryz.func9, Tryz.ntmps9
    go_wp2_with (first | (go_at_call 20; go_loud (refine H20.mono ?_; rintro e w5 ⟨⟨PB, fm, cm, rfl, hP⟩, hb5⟩; have H26' := H26.out w5 PB fm cm hP hb5; clear hP hb5)) | (go_at_call 26; go_loud (refine H26'.mono ?_; rintro e w6 ⟨er6, v6, out6, rfl, h1, h2, h3⟩; obtain ⟨A6, c6, rfl⟩ := Kd.R_slice h2; have HX := Aside0.mk (And.intro h1 (And.intro h2 h3)); clear h1 h2 h3)))
    go_ret2
    exact ⟨er6, _, out6, rfl, HX.out.1, HX.out.2.1, HX.out.2.2⟩
end
end Go.Proofs.YtolaiebjmhieiaaGreatDoor.OScan
end
section
namespace Go.Proofs.YtolaiebjmhieiaaGreatDoor.OScan
open Go.RowKit Go.Proofs.YtolaiebjmhieiaaGreatDoorW.PrintWords Go.Proofs.YtolaiebjmhieiaaGreatDoorW.PrintLast Go.Proofs.YtolaiebjmhieiaaGreatDoorW.PrintMore
set_option linter.unusedVariables false
set_option linter.unusedSimpArgs false
theorem info34 : (Tryz.prog.info? 34).map (fun i => (i.zero, i.size, i.bytes)) = some (some (.agg #[(.string ⟨#[]⟩), (.bool false), (.string ⟨#[]⟩)]), 3, 40) := by kernel_rfl
set_option maxHeartbeats 1000000 in
set_option maxRecDepth 100000 in
theorem cloneU_any (xs : List Us) (A : Option Addr) (c : Nat) (w : World) (HC : Kd.C kUs w A xs.length xs) (hl : xs.length ≤ 1000000) :
    Calls Tryz.prog 22 #[.slice A xs.length c] w fun e w' => ∃ v', e = .returned v' ∧ Kd.R kUs 34 w' w.heap.size (fun _ => True) v' xs ∧ Below w.heap.size w w' := by
  cases A with
  | none =>
    have h0 : xs = [] := by
      cases xs with
      | nil => rfl
      | cons x xs =>
        obtain ⟨ad, e, _⟩ := us_at HC 0 (by simp) x rfl
        cases e
    subst h0
    have hnil := Go.Lib.run_eql_slice_nil (P := Tryz.prog) w 25 34 none 0 c 0 0 Tryz.underlying25
    simp only [Option.isNone_none] at hnil
    go_enter Tryz.func22, Tryz.ntmps22
    go_wp2_with (fail)
    go_ret
    exact ⟨_, rfl, Kd.R_nil _ _ _ _ _, Below.refl _ _⟩
  | some ad =>
    have hB := below_alloc (Below.refl w.heap.size w) (Obj.cells #[] 34)
    have hnew : (w.alloc (Obj.cells #[] 34)).heap[w.heap.size]? = some (.cells #[] 34 (0, 0)) := blk_new _ _
    have hR0 : Kd.R kUs 34 (w.alloc (Obj.cells #[] 34)) w.heap.size (fun _ => True) (.slice (some ⟨w.heap.size, 0, none⟩) 0 0) [] := ⟨fun _ _ => trivial, [], ⟨rfl, .inr ⟨w.heap.size, 0, #[], rfl, Nat.le_refl _, hnew, Nat.le_refl _, by decide, rfl, rfl⟩⟩, ⟨rfl, fun j p hp => by simp at hp⟩⟩
    have HR0 := Aside0.mk hR0
    have HCC := Aside0.mk (Kd.C_below HC hB)
    have HB := Aside0.mk hB
    have HL := Aside0.mk hl
    clear HC hB hnew hR0 hl
    obtain ⟨n, hn⟩ : ∃ n, n = xs.length := ⟨_, rfl⟩
    rw [← hn] at HCC HL ⊢
    have HN := Aside0.mk hn
    clear hn
    have hnil := Go.Lib.run_eql_slice_nil (P := Tryz.prog) w 25 34 (some ad) n c 0 0 Tryz.underlying25
    simp only [Option.isNone_some] at hnil
    go_enter Tryz.func22, Tryz.ntmps22
    go_wp2_with (at_builtin; go_loud (refine Kd.R_append_rows kUs (w0 := w) (W := w.alloc (Obj.cells #[] 34)) w.heap.size rfl (.tmp 5) (.tmp 6) 25 34 (.agg #[(.string ⟨#[]⟩), (.bool false), (.string ⟨#[]⟩)]) 40 rfl Tryz.underlying25 info34 rfl (by decide) (by omega) (.slice (some ⟨w.heap.size, 0, none⟩) 0 0) [] xs (some ad) n c (fun _ => True) (fun _ => False) rfl rfl HR0.out HCC.out (fun _ _ h => h) (fun _ h => h.elim) (fun _ _ => trivial) HB.out HB.out.size ?aL ?_; (case aL => have := HL.out; simp only [List.length_nil]; omega); intro v1 w6 ho hb6 hg6 hat6; obtain ⟨A1, c1, rfl⟩ := Kd.R_slice ho; rw [List.nil_append] at ho; have HO6 := Aside0.mk ho; have HB6 := Aside0.mk hb6; clear ho hb6 hg6 hat6))
    go_ret
    exact ⟨_, rfl, HO6.out, HB6.out⟩
section
variable {W : World} {files : List Fl} {ps : List ByteArray} {A Ap : Option Addr} {c cp : Nat} {m : AL}
set_option maxHeartbeats 1000000 in
set_option maxRecDepth 100000 in
theorem Uses_ok (H : ArgsOK W files ps A Ap c cp) (hm : openF files = (0, some m)) (name : ByteArray) (hsome : (alGet m name).isSome = true) (he : erN m name = 0) :
    Calls Tryz.prog 7 #[.slice A files.length c, .string name, .slice Ap ps.length cp] W fun e w' => ∃ (v : Value), e = .returned (.tuple #[v, .int .i64 0]) ∧ Below W.heap.size W w' ∧ Kd.R kUs 34 w' W.heap.size (fun _ => True) v (usR m ps name) := by
  have H20 := with_any files name A c Ap ps.length cp W H.glob H.fc H.fl (by have := H.nfl; omega) (fun f hf => by have := (H.fsz f hf).1; omega)
  have hw : withF files name = (0, some m) := by unfold withF; rw [hm]; simp only; rw [if_pos hsome]
  have hlen : (usR m ps name).length ≤ 1000000 := (H.env hm 0 0 0).len name
  rw [hw] at H20
  obtain ⟨l, hl⟩ : ∃ l, l = usR m ps name := ⟨_, rfl⟩
  obtain ⟨np, hnp⟩ : ∃ np, np = ps.length := ⟨_, rfl⟩
  have H21 : Aside0 (∀ (w5 : World) (PB fm cm : Nat), PrjIs W.heap.size w5 PB fm cm (.slice Ap np cp) m [] → Below W.heap.size W w5 → Calls Tryz.prog 21 #[.pointer (some ⟨PB, 0, none⟩), .string name] w5 fun e w' => ∃ rb, e = .returned (.pointer (some ⟨rb, 0, none⟩)) ∧ RdIs W.heap.size w' rb l 0 ∧ Below W.heap.size W w') := ⟨fun w5 PB fm cm hP hb => by
    rw [hnp] at hP
    refine (read_any m ps Ap cp PB fm cm W w5 name (H.envOK hm) hsome (ps_of_new hP hb)).mono ?_
    rintro e w' ⟨rb, rfl, hr, hps, _⟩
    rw [he, ← hl] at hr
    exact ⟨rb, rfl, hr, hps.below⟩⟩
  obtain ⟨n, hn⟩ : ∃ n, n = files.length := ⟨_, rfl⟩
  rw [← hn, ← hnp] at H20
  rw [← hl] at hlen
  rw [← hn, ← hnp, ← hl]
  have HLEN := Aside0.mk hlen
  clear H hw hn hnp hm hsome he hl hlen
  obtain ⟨L, hL⟩ : ∃ L, L = l.length := ⟨_, rfl⟩
  have HLE := Aside0.mk hL
  clear hL
  go_enter Tryz.func7, Tryz.ntmps7
  go_wp2_with (first | (go_at_call 20; go_loud (refine H20.mono ?_; rintro e w5 ⟨⟨PB, fm, cm, rfl, hP⟩, hb5⟩; have H21' := H21.out w5 PB fm cm hP hb5; clear hP hb5)) | (go_at_call 21; go_loud (refine H21'.mono ?_; rintro e w6 ⟨rb, rfl, hrd, h1⟩; obtain ⟨vl, vu, hrb, hus⟩ := hrd.2; obtain ⟨Au, cu, rfl⟩ := Kd.R_slice hus; have r2 : w6.cell? ⟨rb, 2, none⟩ = some (.int .i64 0) := (by have := cell_of_row _ rb 2 _ _ _ hrb; simpa using this); rw [← HLE.out] at hrb hus; have r1 : w6.cell? ⟨rb, 1, none⟩ = some (.slice Au L cu) := (by have := cell_of_row _ rb 1 _ _ _ hrb; simpa using this); have H22 := (by have h9 := cloneU_any l Au cu w6 (Kd.R_reads' hus).2.2 HLEN.out; rw [← HLE.out] at h9; exact h9); have HX := Aside0.mk h1; clear h1 hrd hrb hus)) | (go_at_call 22; go_loud (refine H22.mono ?_; rintro e w7 ⟨v7, rfl, hr7, hb7⟩; obtain ⟨A7, c7, rfl⟩ := Kd.R_slice hr7; have HY := Aside0.mk (And.intro hr7 hb7); clear hr7 hb7)))
  go_ret2
  exact ⟨_, rfl, below_step HX.out HY.out.2, Kd.R_lower HY.out.1 HX.out.size⟩
end
end Go.Proofs.YtolaiebjmhieiaaGreatDoor.OScan
end
section
namespace Go.Proofs.YtolaiebjmhieiaaGreatDoor.OScan
open Go.RowKit Go.Proofs.YtolaiebjmhieiaaGreatDoorW.PrintWords Go.Proofs.YtolaiebjmhieiaaGreatDoorW.PrintLast Go.Proofs.YtolaiebjmhieiaaGreatDoorW.PrintMore
open Go.Sort (putRow putCells mapBlock onCells Holds grow)
set_option linter.unusedVariables false
set_option linter.unusedSimpArgs false
structure PutQ {α : Type} (enc : α → Value) (w W' : World) (g e : Nat) (cur : Array Value) (d : Array α) : Prop where
  row : ∃ cur', W'.heap[g]? = some (.cells cur' e (0, 0)) ∧ cur'.size = cur.size ∧ cur'.toList.take d.size = d.toList.map enc
  keep : ∀ k, k < w.heap.size → k ≠ g → W'.heap[k]? = w.heap[k]?
  size : w.heap.size ≤ W'.heap.size
  os : W'.os = w.os
  tape : W'.tape = w.tape
  output : W'.output = w.output
theorem put_own {α : Type} [Inhabited α] (enc : α → Value) (w : World) (g e : Nat) (cur : Array Value) (hh : w.heap[g]? = some (.cells cur e (0, 0))) (d : Array α) (m : Nat) (os : Array Obj) (hs : d.size ≤ cur.size) :
    PutQ enc w (grow (putRow enc (Go.Sort.ahead w m) g 0 d) os) g e cur d := by
  have hg : g < w.heap.size := blk_lt hh
  have hheap : (grow (putRow enc (Go.Sort.ahead w m) g 0 d) os).heap = w.heap.modify g (onCells (putCells enc 0 d)) ++ os := rfl
  refine ⟨⟨putCells enc 0 d cur, ?_, ?_, ?_⟩, fun k hk hne => ?_, ?_, rfl, rfl, rfl⟩
  · rw [hheap, Array.getElem?_append_left (by simpa using hg), Array.getElem?_modify, if_pos rfl, hh]
    rfl
  · simp [putCells]
  · apply List.ext_getElem?
    intro j
    rw [List.getElem?_take, List.getElem?_map, Array.getElem?_toList, Array.getElem?_toList]
    unfold putCells
    rw [Array.getElem?_mapIdx]
    by_cases hj : j < d.size
    · rw [if_pos hj, Array.getElem?_eq_getElem (show j < cur.size by omega), Array.getElem?_eq_getElem hj]
      simp only [Option.map_some]
      rw [if_pos ⟨Nat.zero_le _, by omega⟩, Nat.sub_zero, getElem!_pos d j hj]
    · rw [if_neg hj, Array.getElem?_eq_none (by omega)]; rfl
  · rw [hheap, Array.getElem?_append_left (by simpa using hk), Array.getElem?_modify, if_neg (Ne.symm hne)]
  · rw [hheap, Array.size_append, Array.size_modify]; omega
theorem mk_toList (b : ByteArray) : (⟨b.data.toList.toArray⟩ : ByteArray) = b := by simp
theorem sort_any (xs : List ByteArray) (base : Nat) (v : Value) (w : World) (HR : Kd.R Kd.string 9 w base (fun _ => True) v xs) (hl : xs.length ≤ 1000000) :
    Calls Tryz.prog 29 #[v] w fun e w' => e = .returned (.tuple #[]) ∧ ∃ ys, ys.Perm xs ∧ Kd.R Kd.string 9 w' base (fun _ => True) v ys ∧ w.heap.size ≤ w'.heap.size ∧ (∀ k, k < w.heap.size → some k ≠ v.ownBlock → w'.heap[k]? = w.heap[k]?) ∧ w'.os = w.os ∧ w'.tape = w.tape ∧ w'.output = w.output := by
  obtain ⟨h0, inner, ho, hr⟩ := HR
  have hin : inner = xs.map Value.string := by
    have h1 := ho.1
    have h2 : inner.length = xs.length := by rw [h1]; exact Nat.mul_one _
    apply List.ext_getElem?
    intro j
    rw [List.getElem?_map]
    by_cases hj : j < xs.length
    · obtain ⟨x, hx⟩ : ∃ x, xs[j]? = some x := ⟨_, List.getElem?_eq_getElem hj⟩
      have h3 := hr.2 j x hx
      have h4 : (inner.drop (j * 1)).take 1 = [Value.string x] := h3
      rw [Nat.mul_one] at h4
      have h5 : (inner.drop j)[0]? = some (Value.string x) := by
        have := congrArg (fun l : List Value => l[0]?) h4
        simpa [List.getElem?_take] using this
      rw [List.getElem?_drop, Nat.add_zero] at h5
      rw [h5, hx]; rfl
    · rw [List.getElem?_eq_none (by omega), List.getElem?_eq_none (by omega)]; rfl
  rcases ho with ⟨ho1, ⟨rfl, hn⟩ | ⟨g, cap, cur, rfl, hb, hh, hc1, hc2, hc3, hc4⟩⟩
  · obtain rfl : xs = [] := List.eq_nil_of_length_eq_zero hn
    refine (Tryz.slices_Sort_string_none none 0 w).mono ?_
    rintro e w' ⟨rfl, rfl⟩
    exact ⟨rfl, [], .nil, Kd.R_nil _ _ _ _ _, Nat.le_refl _, fun _ _ _ => rfl, rfl, rfl, rfl⟩
  · have hs1 : xs.length ≤ cur.size := by rw [hc3]; show xs.length ≤ cap * 1; omega
    have hcell : ∀ j, j < xs.length → cur[j]? = (xs[j]?).map Value.string := fun j hj => by
      have h6 : (cur.toList.take (xs.length * 1))[j]? = inner[j]? := by rw [← hc4]; rfl
      rw [List.getElem?_take, if_pos (by omega), hin, List.getElem?_map, Array.getElem?_toList] at h6
      exact h6
    have hH : Holds encStr w g 0 (xs.map fun b => b.data.toList).toArray := fun j hj => by
      simp only [List.size_toArray, List.length_map] at hj
      refine ⟨?_, blk_frozen hh _⟩
      rw [Nat.zero_add, cell_of_row w g j _ _ _ hh, hcell j hj, getElem!_pos _ j (by simpa using hj), List.getElem?_eq_getElem hj]
      simp [encStr]
    have H := Tryz.slices_Sort_string g 0 cap (xs.map fun b => b.data.toList) w hH (blk_lt hh) (by rw [List.length_map]; omega)
    rw [List.length_map] at H
    refine H.mono ?_
    rintro e w' ⟨rfl, m, os, rfl⟩
    have hperm := List.mergeSort_perm (xs.map fun b => b.data.toList) (fun x y => decide (x ≤ y))
    generalize (xs.map fun b => b.data.toList).mergeSort (fun x y => decide (x ≤ y)) = ss at *
    have hlen : ss.length = xs.length := by rw [hperm.length_eq, List.length_map]
    obtain ⟨⟨cur', q1, q2, q3⟩, q4, q5, q6, q7, q8⟩ := put_own encStr w g 9 cur hh ss.toArray m os (by simpa [hlen] using hs1)
    refine ⟨rfl, ss.map fun l => ⟨l.toArray⟩, ?_, ?_, q5, fun k hk hne => q4 k hk (fun e => hne (by rw [e]; rfl)), q6, q7, q8⟩
    · have := hperm.map (fun l : List UInt8 => (⟨l.toArray⟩ : ByteArray))
      rw [List.map_map] at this
      have e : ((fun l : List UInt8 => (⟨l.toArray⟩ : ByteArray)) ∘ fun b : ByteArray => b.data.toList) = id := by funext b; exact mk_toList b
      rw [e, List.map_id] at this
      exact this
    · have hown : (grow (putRow encStr (Go.Sort.ahead w m) g 0 ss.toArray) os).ownsRow base 9 1 (.slice (some ⟨g, 0, none⟩) (ss.map fun l => (⟨l.toArray⟩ : ByteArray)).length cap) (ss.map fun l => (⟨l.toArray⟩ : ByteArray)).length ((ss.map fun l => (⟨l.toArray⟩ : ByteArray)).map Value.string) := by
        refine ⟨by simp, .inr ⟨g, cap, cur', rfl, hb, q1, by rw [List.length_map, hlen]; exact hc1, hc2, by rw [q2, hc3]; rfl, ?_⟩⟩
        rw [List.size_toArray] at q3
        rw [List.length_map, Nat.mul_one, q3, List.map_map]
        rfl
      have h9 := Kd.R_of_own (enc := Value.string) (h1 := fun _ => rfl) hown (ok := fun _ => True) (fun _ _ => trivial)
      have hl9 : (ss.map fun l => (⟨l.toArray⟩ : ByteArray)).length = xs.length := by rw [List.length_map, hlen]
      rw [hl9] at h9
      exact h9
end Go.Proofs.YtolaiebjmhieiaaGreatDoor.OScan
end
section
namespace Go.Proofs.YtolaiebjmhieiaaGreatDoor.OScan
open Go.RowKit Go.Proofs.YtolaiebjmhieiaaGreatDoorW.PrintWords Go.Proofs.YtolaiebjmhieiaaGreatDoorW.PrintLast Go.Proofs.YtolaiebjmhieiaaGreatDoorW.PrintMore
set_option linter.unusedVariables false
set_option linter.unusedSimpArgs false
section
variable {W : World} {files : List Fl} {ps : List ByteArray} {A Ap : Option Addr} {c cp : Nat} {m : AL}
theorem gR_in (H : ArgsOK W files ps A Ap c cp) (hm : openF files = (0, some m)) : ∀ x, ∀ y ∈ gR m ps x, y ∈ files.map (·.1) := (H.env hm 0 0 0).in_
theorem R_far9 {w w' : World} {base : Nat} {v : Value} {xs : List ByteArray} (h : Kd.R Kd.string 9 w base (fun _ => True) v xs) (hk : ∀ (k : Nat) (cs : Array Value), w.heap[k]? = some (Obj.cells cs 9 (0, 0)) → w'.heap[k]? = w.heap[k]?) : Kd.R Kd.string 9 w' base (fun _ => True) v xs :=
  Kd.R_mono (Kd.R_step (Kd.R_bound h) (fun k ho _ => by
    obtain ⟨_, _, _, q, hq, cs, hc⟩ := ho
    obtain rfl : q = 9 := by
      rcases List.mem_cons.1 hq with h | h
      · exact h
      · exact absurd (show q ∈ ([] : List Nat) from h) (by simp)
    exact hk _ _ hc)) (fun _ _ => trivial)
theorem all_ok (H : ArgsOK W files ps A Ap c cp) (hm : openF files = (0, some m)) (hall : ∀ f ∈ files, erN m f.1 = 0) (PB fm cm : Nat) (name : ByteArray) (hn : (alGet m name).isSome = true) (w : World) (P : PS (usR m ps) (erN m) W m (.slice Ap ps.length cp) PB fm cm w) :
    Calls Tryz.prog 26 #[.pointer (some ⟨PB, 0, none⟩), .string name] w fun e w' => ∃ (out : List ByteArray) (v : Value), e = .returned (.tuple #[v, .int .i64 0]) ∧ Graph.Found (erN m) (gR m ps) name out ∧ Kd.R Kd.string 9 w' w.heap.size (fun _ => True) v out ∧ PS (usR m ps) (erN m) W m (.slice Ap ps.length cp) PB fm cm w' ∧ w.heap.size ≤ w'.heap.size ∧ (∀ k, k < w.heap.size → k ≠ cm → w'.heap[k]? = w.heap[k]?) ∧ out.length ≤ 1000 := by
  have E := H.env hm PB fm cm
  refine (all_any E name w hn P).mono ?_
  rintro e w' ⟨er', met', out', v', rfl, hw, hr, hps, hs, hk⟩
  have h0 : er' = 0 := Graph.walk_ok (erN m) (fun n => fsOf (usR m ps n)) (names := files.map (·.1)) (fun x hx => by
    obtain ⟨f, hf, rfl⟩ := List.mem_map.1 hx
    exact hall f hf) E.in_ _ _ _ _ _ _ hw (E.nm name hn)
  subst h0
  rw [if_pos rfl] at hr
  have h1 := (Graph.walk_len (erN m) (fun n => fsOf (usR m ps n)) E.in_ _ _ _ _ _ _ hw (E.nm name hn)).2
  have h2 := left_le (files.map (·.1)) []
  have h3 := E.small
  simp only [List.length_nil] at h1
  exact ⟨out', v', rfl, Graph.found_of_walk (erN m) (gR m ps) hw, hr, hps, hs, hk, by omega⟩
theorem R_own9 {w : World} {base : Nat} {v : Value} {xs : List ByteArray} (h : Kd.R Kd.string 9 w base (fun _ => True) v xs) : ∀ k, some k = v.ownBlock → base ≤ k ∧ ∃ cs, w.heap[k]? = some (Obj.cells cs 9 (0, 0)) := fun k hk => by
  obtain ⟨inner, ho⟩ := Kd.R_own h
  exact ⟨own_base ho k hk.symm, Kd.R_typed h k hk.symm⟩
theorem PS.grown9 {us : ByteArray → List Us} {er : ByteArray → Int} {w0 : World} {m : AL} {pv : Value} {PB fm cm : Nat} {w w' : World} {v : Value} {base : Nat} {xs : List ByteArray} (P : PS us er w0 m pv PB fm cm w) (hR : Kd.R Kd.string 9 w base (fun _ => True) v xs) (hb : Below w0.heap.size w0 w') (hg : ∀ k, k < w.heap.size → some k ≠ v.ownBlock → w'.heap[k]? = w.heap[k]?) : PS us er w0 m pv PB fm cm w' := by
  obtain ⟨c, hP, _⟩ := P.prj
  have hcell : ∀ {k t : Nat} {cs : Array Value}, w.heap[k]? = some (.cells cs t (0, 0)) → t ≠ 9 → w'.heap[k]? = w.heap[k]? := fun {k t cs} h ht => hg k (blk_lt h) (Kd.R_ne hR h (by omega))
  have hmap : ∀ {k : Nat} {es : Array MapEntry} {cl : Nat}, w.heap[k]? = some (.map es cl) → w'.heap[k]? = w.heap[k]? := fun {k es cl} h => hg k (heap_lt h) (fun hk => by
    obtain ⟨_, cs, h2⟩ := R_own9 hR k hk
    rw [h] at h2
    cases h2)
  refine P.kept hb (fun k hk => ?_)
  rcases hk with rfl | rfl | rfl | ⟨cs, h | h⟩
  · exact hcell hP.hP (by decide)
  · obtain ⟨es, cl, h, _⟩ := hP.hm; exact hmap h
  · obtain ⟨es, cl, h, _⟩ := hP.hc; exact hmap h
  · exact hcell h (by decide)
  · exact hcell h (by decide)
theorem below_own {w0 w w' : World} {v : Value} {xs : List ByteArray} (hb : Below w0.heap.size w0 w) (hR : Kd.R Kd.string 9 w w0.heap.size (fun _ => True) v xs) (hs : w.heap.size ≤ w'.heap.size) (hk : ∀ k, k < w.heap.size → some k ≠ v.ownBlock → w'.heap[k]? = w.heap[k]?) (h1 : w'.os = w.os) (h2 : w'.tape = w.tape) (h3 : w'.output = w.output) : Below w0.heap.size w0 w' :=
  ⟨h1.trans hb.os, h2.trans hb.tape, h3.trans hb.output, by have := hb.size; omega, fun k hk' => (hk k (by have := hb.size; omega) (fun e => by have := (R_own9 hR k e).1; omega)).trans (hb.block k hk')⟩
set_option maxHeartbeats 2000000 in
set_option maxRecDepth 100000 in
theorem Users_ok (H : ArgsOK W files ps A Ap c cp) (hm : openF files = (0, some m)) (hall : ∀ f ∈ files, erN m f.1 = 0) (name : ByteArray) (hsome : (alGet m name).isSome = true) :
    Calls Tryz.prog 15 #[.slice A files.length c, .string name, .slice Ap ps.length cp] W fun e w' => ∃ (v : Value) (xs : List ByteArray), e = .returned (.tuple #[v, .int .i64 0]) ∧ Below W.heap.size W w' ∧ Kd.R Kd.string 9 w' W.heap.size (fun _ => True) v xs ∧ xs.length ≤ 1000 ∧ ∀ f ∈ files, Graph.Reach (gR m ps) f.1 name → f.1 ∈ xs := by
  have H20 := with_any files name A c Ap ps.length cp W H.glob H.fc H.fl (by have := H.nfl; omega) (fun f hf => by have := (H.fsz f hf).1; omega)
  have hw : withF files name = (0, some m) := by unfold withF; rw [hm]; simp only; rw [if_pos hsome]
  rw [hw] at H20
  have HGET := Aside0.mk (open_get hm).2
  have HALL := Aside0.mk (fun (PB fm cm : Nat) (n : ByteArray) (hn : (alGet m n).isSome = true) (w : World) P => all_ok H hm hall PB fm cm n hn w P)
  have HPN := Aside0.mk (fun (PB fm cm : Nat) (W' : World) hP hb => ps_of_new (W := W) (ps := ps) (Ap := Ap) (cp := cp) (m := m) (PB := PB) (fm := fm) (cm := cm) (W' := W') hP hb)
  have HFC := Aside0.mk H.fc
  have HNF := Aside0.mk H.nfl
  have HIN := Aside0.mk (gR_in H hm)
  obtain ⟨n, hn⟩ : ∃ n, n = files.length := ⟨_, rfl⟩
  obtain ⟨np, hnp⟩ : ∃ np, np = ps.length := ⟨_, rfl⟩
  rw [← hn, ← hnp] at H20
  rw [← hn] at HFC HNF
  rw [← hnp] at HALL HPN
  rw [← hn, ← hnp]
  have HN := Aside0.mk hn
  clear H hw hn hnp hm hsome hall
  have hn61 := HNF.out
  go_enter Tryz.func15, Tryz.ntmps15
  go_wp2_with (go_at_call 20; go_loud (refine H20.mono ?_; rintro e w5 ⟨⟨PB, fm, cm, rfl, hP⟩, hb5⟩; have HP5 := Aside0.mk (HPN.out PB fm cm w5 hP hb5); clear hP hb5))
  have hb5 := HP5.out.below
  go_loopg [10, 27] n (fun kq v10 v27 w' => ∃ (i : Nat) (xs : List ByteArray), v27 = .int .i64 i ∧ Aside0 (kq + i = n) ∧ Aside0 (xs.length ≤ i) ∧ Aside0 (Kd.R Kd.string 9 w' W.heap.size (fun _ => True) v10 xs) ∧ Aside0 (PS (usR m ps) (erN m) W m (.slice Ap np cp) PB fm cm w') ∧ Aside0 (∀ f ∈ files.take i, Graph.Reach (gR m ps) f.1 name → f.1 ∈ xs))
  case atStart => exact ⟨0, [], rfl, ⟨rfl⟩, ⟨Nat.le_refl _⟩, ⟨Kd.R_nil _ _ _ _ _⟩, HP5, ⟨fun f hf => by simp at hf⟩⟩
  case round =>
    clear hb5
    obtain ⟨i, xs, rfl, hki, hxl, hR, hP, hX⟩ := hrel
    have hki' := hki.out
    cases gk with
    | zero =>
      have hlt : decide ((i : Int) < (n : Int)) = false := decide_eq_false (by omega)
      have H29 := sort_any xs W.heap.size u10 wr hR.out (by have := hxl.out; omega)
      go_wp2_with (go_at_call 29; go_loud (refine H29.mono ?_; rintro e w9 ⟨rfl, ys, hp9, hr9, hs9, hk9, ho9, ht9, hu9⟩; have HQ := Aside0.mk (And.intro hp9 (And.intro hr9 (And.intro hs9 (And.intro hk9 (And.intro ho9 (And.intro ht9 hu9)))))); clear hp9 hr9 hs9 hk9 ho9 ht9 hu9))
      obtain ⟨q1, q2, q3, q4, q5, q6, q7⟩ := HQ.out
      obtain ⟨A10, c10, rfl⟩ := Kd.R_slice hR.out
      go_ret2
      refine ⟨_, ys, rfl, below_own hP.out.below hR.out q3 q4 q5 q6 q7, q2, by rw [q1.length_eq]; have := hxl.out; omega, fun f hf hr => q1.mem_iff.2 (hX.out f ?_ hr)⟩
      rw [List.take_of_length_le (by rw [← HN.out]; omega)]
      exact hf
    | succ g1 =>
      have hlt : decide ((i : Int) < (n : Int)) = true := decide_eq_true (by omega)
      have hii : (0 : Int) ≤ (i : Int) := by omega
      obtain ⟨x, hx⟩ : ∃ x, files[i]? = some x := ⟨_, List.getElem?_eq_getElem (by rw [← HN.out]; omega)⟩
      obtain ⟨ad, hAd, hx0, hx1⟩ := fl_at (Kd.C_below HFC.out hP.out.below) i (by omega) x hx
      obtain rfl := hAd
      have htk := take_snoc files i x hx
      have hxm := List.mem_of_getElem? hx
      obtain ⟨f1, f2⟩ := x
      simp only at hx0 hx1
      have hB4 := below_alloc (Below.refl wr.heap.size wr) (Obj.cells #[Value.string f1, Value.string f2] 46)
      have H26 := HALL.out PB fm cm f1 (HGET.out _ hxm) _ (hP.out.step hB4)
      have HTK := Aside0.mk htk
      have HB4 := Aside0.mk hB4
      have HNW : Aside0 ((wr.alloc (Obj.cells #[Value.string f1, Value.string f2] 46)).heap[wr.heap.size]? = some (.cells #[Value.string f1, Value.string f2] 46 (0, 0))) := ⟨blk_new _ _⟩
      have HNC : Aside0 (wr.heap.size ≠ cm) := ⟨by obtain ⟨c', hP', _⟩ := hP.out.prj; have := hP'.hc.lt; omega⟩
      clear hx htk hxm hB4
      go_wp2_with (first | (go_at_call 26; go_loud (refine H26.mono ?_; rintro e w6 ⟨out6, v6, rfl, hf6, hr6, hp6, hs6, hk6, hl6⟩; obtain ⟨A6, c6, rfl⟩ := Kd.R_slice hr6; obtain ⟨bb, hbb, hbi⟩ := contains_tot out6 name (out6.length + 1) (by omega) (by omega); have hr6' := Kd.R_reads' hr6; have H28 := OCond.slices_Contains_string_string.calls (out6.length + 1) A6 c6 out6 name bb w6 hr6'.2.2 hr6'.2.1 hbb; have HQ6 := Aside0.mk (And.intro hf6 (And.intro hp6 (And.intro hs6 (And.intro hk6 hbi)))); clear hf6 hr6 hp6 hs6 hk6 hbi hbb hr6')) | (go_at_call 28; go_loud (refine H28.mono ?_; rintro e w7 ⟨rfl, hd7⟩; have hb7 := hd7.below; obtain ⟨q1, q2, q3, q4, q5⟩ := HQ6.out; have hn7 := (hb7.block wr.heap.size (Nat.lt_of_lt_of_le (blk_lt HNW.out) q3)).trans ((q4 wr.heap.size (blk_lt HNW.out) HNC.out).trans HNW.out); have hc7 : w7.cell? ⟨wr.heap.size, 0, none⟩ = some (.string f1) := (by have := cell_of_row _ _ 0 _ _ _ hn7; simpa using this); have HR7 := Aside0.mk (Kd.R_below (R_far9 (Kd.R_below hR.out HB4.out) (fun k cs hk => q4 k (blk_lt hk) ((hP.out.step HB4.out).cell_ne hk (by decide)).2.2)) hb7); have HP7 := Aside0.mk (q2.step hb7); have HF6 := Aside0.mk (And.intro q1 q5); clear hd7 hb7 q1 q2 q3 q4 q5 hn7)) | (at_builtin; go_loud (refine Kd.R_append Kd.string (w0 := W) (W := w7) W.heap.size rfl (.tmp 44) (.tmp 47) 23 9 (.string ⟨#[]⟩) 16 rfl Tryz.underlying23 info9 rfl (by decide) (by omega) u10 xs f1 [.string f1] (fun _ => True) (fun _ => False) rfl rfl rfl (fun _ hk => hk.elim) (fun _ _ => trivial) HR7.out HP7.out.below HP7.out.below.size ?aL ?_; (case aL => have := hxl.out; omega); intro v1 w8 ho hb8 hg8 hat8; have HO8 := Aside0.mk ho; have HG8 := Aside0.mk (And.intro hb8 (And.intro hg8 hat8)); clear ho hb8 hg8 hat8)))
      · rename_i hbt
        go_roundg g1
        case measure => omega
        case rel =>
          obtain ⟨q1, q2, q3⟩ := HG8.out
          refine ⟨i + 1, xs ++ [f1], by (try simp), ⟨by omega⟩, ⟨by rw [List.length_append, List.length_singleton]; have := hxl.out; omega⟩, HO8, ⟨HP7.out.grown9 HR7.out q1 (fun k hk hne => q2.block k hk hne)⟩, ⟨fun f hf hr => ?_⟩⟩
          rw [HTK.out] at hf
          rcases List.mem_append.1 hf with hf | hf
          · exact List.mem_append_left _ (hX.out f hf hr)
          · obtain rfl := List.mem_singleton.1 hf
            simp
      · rename_i hbt
        go_roundg g1
        case measure => omega
        case rel =>
          refine ⟨i + 1, xs, by (try simp), ⟨by omega⟩, ⟨by have := hxl.out; omega⟩, HR7, HP7, ⟨fun f hf hr => ?_⟩⟩
          rw [HTK.out] at hf
          rcases List.mem_append.1 hf with hf | hf
          · exact hX.out f hf hr
          · obtain rfl := List.mem_singleton.1 hf
            have := HF6.out.2.2 ((HF6.out.1.mem name).2 hr)
            rw [this] at hbt
            exact absurd hbt (by decide)
end
end Go.Proofs.YtolaiebjmhieiaaGreatDoor.OScan
end
section
namespace Go.Proofs
open Go.Shelf
def Tryz.sortPairs_ren : Go.Shelf.Ren := ⟨fun | 6 => 32 | 15 => 56 | 14 => 60 | 28 => 95 | 29 => 96 | 20 => 101 | 21 => 102 | 22 => 103 | 23 => 104 | 24 => 105 | 25 => 106 | 26 => 107 | 27 => 108 | 46 => 147 | 47 => 141 | 48 => 142 | 49 => 148 | 50 => 149 | 57 => 186 | n => n, fun | 22 => 40 | 24 => 43 | 25 => 70 | 3 => 3 | 39 => 116 | 0 => 0 | 53 => 78 | 55 => 159 | 4 => 4 | 46 => 151 | 45 => 150 | 50 => 155 | 5 => 5 | 9 => 9 | 66 => 195 | 70 => 199 | 76 => 222 | 77 => 193 | n => n, fun | n => n⟩
theorem Tryz.sortPairs : Go.Proofs.SlLaysF0.n6 Tryz.prog Tryz.sortPairs_ren := {
  mixed := by kernel_rfl
  f6 := ⟨Tryz.f32.name, by decide, Tryz.func32.trans (congrArg some (by kernel_rfl))⟩
  f14 := ⟨Tryz.f60.name, by decide, Tryz.func60.trans (congrArg some (by kernel_rfl))⟩
  f15 := Tryz.func56.trans (congrArg some (by kernel_rfl))
  f20 := ⟨Tryz.f101.name, by decide, Tryz.func101.trans (congrArg some (by kernel_rfl))⟩
  f21 := ⟨Tryz.f102.name, by decide, Tryz.func102.trans (congrArg some (by kernel_rfl))⟩
  f22 := ⟨Tryz.f103.name, by decide, Tryz.func103.trans (congrArg some (by kernel_rfl))⟩
  f23 := ⟨Tryz.f104.name, by decide, Tryz.func104.trans (congrArg some (by kernel_rfl))⟩
  f24 := ⟨Tryz.f105.name, by decide, Tryz.func105.trans (congrArg some (by kernel_rfl))⟩
  f25 := ⟨Tryz.f106.name, by decide, Tryz.func106.trans (congrArg some (by kernel_rfl))⟩
  f26 := ⟨Tryz.f107.name, by decide, Tryz.func107.trans (congrArg some (by kernel_rfl))⟩
  f27 := ⟨Tryz.f108.name, by decide, Tryz.func108.trans (congrArg some (by kernel_rfl))⟩
  f28 := Tryz.func95.trans (congrArg some (by kernel_rfl))
  f29 := Tryz.func96.trans (congrArg some (by kernel_rfl))
  f46 := ⟨Tryz.f147.name, by decide, Tryz.func147.trans (congrArg some (by kernel_rfl))⟩
  f47 := Tryz.func141.trans (congrArg some (by kernel_rfl))
  f48 := Tryz.func142.trans (congrArg some (by kernel_rfl))
  f49 := ⟨Tryz.f148.name, by decide, Tryz.func148.trans (congrArg some (by kernel_rfl))⟩
  f50 := ⟨Tryz.f149.name, by decide, Tryz.func149.trans (congrArg some (by kernel_rfl))⟩
  f57 := ⟨Tryz.f186.name, by decide, Tryz.func186.trans (congrArg some (by kernel_rfl))⟩
  t0 := Tryz.underlying0
  a0 := Tryz.isAgg0
  z0 := Tryz.sizeOf0
  v0 := Tryz.zeroValue0
  t3 := Tryz.underlying3
  a3 := Tryz.isAgg3
  z3 := Tryz.sizeOf3
  v3 := Tryz.zeroValue3
  t4 := Tryz.underlying4
  a4 := Tryz.isAgg4
  z4 := Tryz.sizeOf4
  v4 := Tryz.zeroValue4
  t5 := Tryz.underlying5
  a5 := Tryz.isAgg5
  z5 := Tryz.sizeOf5
  v5 := Tryz.zeroValue5
  t9 := Tryz.underlying9
  a9 := Tryz.isAgg9
  z9 := Tryz.sizeOf9
  v9 := Tryz.zeroValue9
  t22 := Tryz.underlying40
  a22 := Tryz.isAgg40
  z22 := Tryz.sizeOf40
  v22 := Tryz.zeroValue40
  t25 := Tryz.underlying70
  a25 := Tryz.isAgg70
  z25 := Tryz.sizeOf70
  v25 := Tryz.zeroValue70
  t39 := Tryz.underlying116
  a39 := Tryz.isAgg116
  z39 := Tryz.sizeOf116
  v39 := Tryz.zeroValue116
  t45 := Tryz.underlying150
  a45 := Tryz.isAgg150
  z45 := Tryz.sizeOf150
  v45 := Tryz.zeroValue150
  t46 := Tryz.underlying151
  a46 := Tryz.isAgg151
  z46 := Tryz.sizeOf151
  v46 := Tryz.zeroValue151
  t50 := Tryz.underlying155
  a50 := Tryz.isAgg155
  z50 := Tryz.sizeOf155
  v50 := Tryz.zeroValue155
  t53 := Tryz.underlying78
  a53 := Tryz.isAgg78
  z53 := Tryz.sizeOf78
  v53 := Tryz.zeroValue78
  t55 := Tryz.underlying159
  a55 := Tryz.isAgg159
  z55 := Tryz.sizeOf159
  v55 := Tryz.zeroValue159
  t66 := Tryz.underlying195
  a66 := Tryz.isAgg195
  z66 := Tryz.sizeOf195
  v66 := Tryz.zeroValue195
  t70 := Tryz.underlying199
  a70 := Tryz.isAgg199
  z70 := Tryz.sizeOf199
  v70 := Tryz.zeroValue199
  t76 := Tryz.underlying222
  a76 := Tryz.isAgg222
  z76 := Tryz.sizeOf222
  v76 := Tryz.zeroValue222
  t77 := Tryz.underlying193
  a77 := Tryz.isAgg193
  z77 := Tryz.sizeOf193
  v77 := Tryz.zeroValue193 }
end Go.Proofs
end
section
namespace Go.Proofs.YtolaiebjmhieiaaGreatDoor.OScan
open Go.RowKit Go.Proofs.YtolaiebjmhieiaaGreatDoorW.PrintWords Go.Proofs.YtolaiebjmhieiaaGreatDoorW.PrintLast Go.Proofs.YtolaiebjmhieiaaGreatDoorW.PrintMore
open Go.Sort (ltStr SWO)
set_option linter.unusedVariables false
set_option linter.unusedSimpArgs false
abbrev Pr := ByteArray × ByteArray
def cmpB (x y : ByteArray) : Int := if ltStr x.toList y.toList = true then -1 else if ltStr y.toList x.toList = true then 1 else 0
def cmpP (x y : Pr) : Int := if cmpB x.1 y.1 ≠ 0 then cmpB x.1 y.1 else cmpB x.2 y.2
theorem nan_any (x : ByteArray) (w : World) : Calls Tryz.prog 61 #[.string x] w fun e w' => e = .returned (.bool false) ∧ w' = w := by
  go_enter Tryz.func61, Tryz.ntmps61
  go_wp2_with (fail)
  go_ret
  exact ⟨by simp, rfl⟩
theorem cmp_any (x y : ByteArray) (w : World) : Calls Tryz.prog 35 #[.string x, .string y] w fun e w' => e = .returned (.int .i64 (cmpB x y)) ∧ w' = w := by
  have hb := bytesLess_eq x.toList y.toList
  by_cases h1 : x.toList < y.toList
  · have hc : cmpB x y = -1 := by unfold cmpB ltStr; rw [if_pos (by simpa using h1)]
    rw [decide_eq_true h1] at hb
    rw [hc]
    clear hc h1
    go_enter Tryz.func35, Tryz.ntmps35
    go_wp2_with (go_at_call 61; go_loud (refine (nan_any _ _).mono ?_; rintro e w' ⟨rfl, rfl⟩))
    go_ret
    exact ⟨rfl, rfl⟩
  · rw [decide_eq_false h1] at hb
    by_cases h2 : y.toList < x.toList
    · have hc : cmpB x y = 1 := by unfold cmpB ltStr; rw [if_neg (by simpa using h1), if_pos (by simpa using h2)]
      have he : (x.toList == y.toList) = false := beq_eq_false_iff_ne.mpr fun e => by rw [e] at h2; exact List.lt_irrefl _ h2
      rw [hc]
      clear hc h1 h2
      go_enter Tryz.func35, Tryz.ntmps35
      go_wp2_with (go_at_call 61; go_loud (refine (nan_any _ _).mono ?_; rintro e w' ⟨rfl, rfl⟩))
      go_ret
      exact ⟨rfl, rfl⟩
    · have hc : cmpB x y = 0 := by unfold cmpB ltStr; rw [if_neg (by simpa using h1), if_neg (by simpa using h2)]
      have he : (x.toList == y.toList) = true := beq_iff_eq.mpr (List.le_antisymm (List.not_lt.1 h2) (List.not_lt.1 h1))
      rw [hc]
      clear hc h1 h2
      go_enter Tryz.func35, Tryz.ntmps35
      go_wp2_with (go_at_call 61; go_loud (refine (nan_any _ _).mono ?_; rintro e w' ⟨rfl, rfl⟩))
      go_ret
      exact ⟨rfl, rfl⟩
theorem or_any (a b : Int) (g : Nat) (w : World) (h : w.heap[g]? = some (.cells #[.int .i64 a, .int .i64 b] 3 (0, 0))) : Calls Tryz.prog 34 #[.slice (some ⟨g, 0, none⟩) 2 2] w fun e w' => e = .returned (.int .i64 (if a ≠ 0 then a else b)) ∧ w' = w := by
  have c0 : w.cell? ⟨g, 0, none⟩ = some (.int .i64 a) := by have := cell_of_row w g 0 _ _ _ h; simpa using this
  have c1 : w.cell? ⟨g, 1, none⟩ = some (.int .i64 b) := by have := cell_of_row w g 1 _ _ _ h; simpa using this
  clear h
  obtain ⟨r, hr⟩ : ∃ r, r = if a ≠ 0 then a else b := ⟨_, rfl⟩
  rw [← hr]
  have HR := Aside0.mk hr
  clear hr
  go_enter Tryz.func34, Tryz.ntmps34
  go_wp2_with (fail)
  go_loopg [8] 2 (fun kq v8 w' => ∃ (i : Nat), v8 = .int .i64 i ∧ Aside0 (kq + i = 2) ∧ Aside0 (w' = w) ∧ Aside0 (1 ≤ i → a = 0) ∧ Aside0 (2 ≤ i → b = 0))
  case atStart => exact ⟨0, rfl, ⟨rfl⟩, ⟨rfl⟩, ⟨fun h => by omega⟩, ⟨fun h => by omega⟩⟩
  case round =>
    obtain ⟨i, rfl, hki, hw, h1, h2⟩ := hrel
    have hki' := hki.out
    obtain rfl := hw.out
    obtain ⟨rfl, rfl⟩ | ⟨rfl, rfl⟩ | ⟨rfl, rfl⟩ : (gk = 0 ∧ i = 2) ∨ (gk = 1 ∧ i = 1) ∨ (gk = 2 ∧ i = 0) := by omega
    · clear hki' hki hw
      go_wp2
      go_ret
      have ha := h1.out (by omega)
      have hb := h2.out (by omega)
      exact ⟨by rw [HR.out]; simp [ha, hb], rfl⟩
    · clear hki' hki
      by_cases hb : b = 0
      · have hb' : (b != 0) = false := by simp [hb]
        have HB := Aside0.mk hb
        clear hb
        go_wp2
        go_roundg 0
        case measure => omega
        case rel => exact ⟨2, by (try simp), ⟨by omega⟩, ⟨rfl⟩, ⟨fun _ => h1.out (by omega)⟩, ⟨fun _ => HB.out⟩⟩
      · have hb' : (b != 0) = true := by simp [hb]
        have HB := Aside0.mk hb
        clear hb
        go_wp2
        go_ret
        have ha := h1.out (by omega)
        exact ⟨by rw [HR.out]; simp [ha], rfl⟩
    · clear hki' hki
      by_cases ha : a = 0
      · have ha' : (a != 0) = false := by simp [ha]
        have HA := Aside0.mk ha
        clear ha
        go_wp2
        go_roundg 1
        case measure => omega
        case rel => exact ⟨1, by (try simp), ⟨by omega⟩, ⟨rfl⟩, ⟨fun _ => HA.out⟩, ⟨fun h => by omega⟩⟩
      · have ha' : (a != 0) = true := by simp [ha]
        have HA := Aside0.mk ha
        clear ha
        go_wp2
        go_ret
        have ha := HA.out
        exact ⟨by rw [HR.out]; simp [ha], rfl⟩
set_option maxRecDepth 100000 in
set_option maxHeartbeats 1000000 in
theorem pair_any (x y : Pr) (w : World) : Calls Tryz.prog 33 #[.agg #[.string x.1, .string x.2], .agg #[.string y.1, .string y.2]] w fun e w' => e = .returned (.int .i64 (cmpP x y)) ∧ ∃ q os', w' = Go.Sort.grow (w.drewN q) os' := by
  obtain ⟨x1, x2⟩ := x
  obtain ⟨y1, y2⟩ := y
  go_enter Tryz.func33, Tryz.ntmps33
  go_wp2_with (fail)
  obtain ⟨W1, hW1⟩ : ∃ W1, W1 = (w.alloc (Obj.cells #[Value.string x1, Value.string x2] 43)).alloc (Obj.cells #[Value.string y1, Value.string y2] 43) := ⟨_, rfl⟩
  rw [← hW1]
  have hA : W1.heap[w.heap.size]? = some (.cells #[Value.string x1, Value.string x2] 43 (0, 0)) := by rw [hW1]; exact blk_alloc (blk_new _ _) _
  have hBb : W1.heap[w.heap.size + 1]? = some (.cells #[Value.string y1, Value.string y2] 43 (0, 0)) := by rw [hW1]; exact alloc_at (by simp)
  have HW := Aside0.mk hW1
  clear hW1
  refine wp_region_still_tail 10 (by kernel_rfl) (by kernel_rfl) ?_
  simp only [List.take_succ_cons, List.take_zero, List.drop_succ_cons, List.drop_zero]
  generalize hW2' : ({ W1 with drawn := W1.drawn + 1 } : World) = W2
  have hW2 : W2 = W1.drew := hW2'.symm
  clear hW2'
  have a0 : W2.cell? ⟨w.heap.size, 0, none⟩ = some (.string x1) := by rw [hW2]; have := cell_of_row _ _ 0 _ _ _ (blk_drew hA); simpa using this
  have a1 : W2.cell? ⟨w.heap.size, 1, none⟩ = some (.string x2) := by rw [hW2]; have := cell_of_row _ _ 1 _ _ _ (blk_drew hA); simpa using this
  have b0 : W2.cell? ⟨w.heap.size + 1, 0, none⟩ = some (.string y1) := by rw [hW2]; have := cell_of_row _ _ 0 _ _ _ (blk_drew hBb); simpa using this
  have b1 : W2.cell? ⟨w.heap.size + 1, 1, none⟩ = some (.string y2) := by rw [hW2]; have := cell_of_row _ _ 1 _ _ _ (blk_drew hBb); simpa using this
  have HW2 := Aside0.mk hW2
  clear hW2 hA hBb
  still_step
  still_step
  still_step
  still_step
  still_call (cmp_any _ _ _)
  still_step
  still_step
  still_step
  still_step
  still_call (cmp_any _ _ _)
  refine wpStill_nil ?_
  have HOR := or_any (cmpB x1 y1) (cmpB x2 y2) W2.heap.size (W2.alloc (Obj.cells #[.int .i64 (cmpB x1 y1), .int .i64 (cmpB x2 y2)] 3)) (blk_new _ _)
  obtain ⟨r, hr⟩ : ∃ r, r = if cmpB x1 y1 ≠ 0 then cmpB x1 y1 else cmpB x2 y2 := ⟨_, rfl⟩
  rw [← hr] at HOR
  have HR : Aside0 (r = cmpP (x1, x2) (y1, y2)) := ⟨hr⟩
  clear hr a0 a1 b0 b1
  generalize cmpB x1 y1 = c1 at *
  generalize cmpB x2 y2 = c2 at *
  go_wp2_with (go_at_call 34; go_loud (refine HOR.mono ?_; rintro e w' ⟨rfl, rfl⟩))
  go_ret
  refine ⟨by rw [← HR.out]; rfl, 1, #[Obj.cells #[Value.string x1, Value.string x2] 43] ++ #[Obj.cells #[Value.string y1, Value.string y2] 43] ++ #[Obj.cells #[Value.int IntKind.i64 c1, Value.int IntKind.i64 c2] 3], ?_⟩
  have e : W2.alloc (Obj.cells #[Value.int IntKind.i64 c1, Value.int IntKind.i64 c2] 3) = (((w.drewN 1).alloc (Obj.cells #[Value.string x1, Value.string x2] 43)).alloc (Obj.cells #[Value.string y1, Value.string y2] 43)).alloc (Obj.cells #[Value.int IntKind.i64 c1, Value.int IntKind.i64 c2] 3) := by rw [HW2.out, HW.out]; rfl
  rw [e, Go.Sort.alloc_eq_grow, Go.Sort.alloc_eq_grow, Go.Sort.alloc_eq_grow, Go.Sort.grow_grow, Go.Sort.grow_grow, Array.append_assoc]
theorem swo_lex {β : Type} (l : β → β → Bool) (h : SWO l) : SWO (fun x y : β × β => l x.1 y.1 || (!l y.1 x.1 && l x.2 y.2)) where
  irrefl x := by simp [h.irrefl]
  trans x y z h1 h2 := by
    have t1 := h.trans x.1 y.1 z.1
    have t2 := h.trans x.2 y.2 z.2
    have n1 := h.ntrans x.1 z.1 y.1
    have n2 := h.ntrans y.1 x.1 z.1
    have n3 := h.ntrans z.1 y.1 x.1
    revert t1 t2 n1 n2 n3 h1 h2
    generalize l x.1 y.1 = a
    generalize l y.1 z.1 = b
    generalize l x.1 z.1 = c
    generalize l z.1 x.1 = d
    generalize l z.1 y.1 = e
    generalize l y.1 x.1 = f
    generalize l x.2 y.2 = p
    generalize l y.2 z.2 = q
    generalize l x.2 z.2 = r
    cases a <;> cases b <;> cases c <;> cases d <;> cases e <;> cases f <;> cases p <;> cases q <;> cases r <;> simp
  ntrans x y z h1 h2 := by
    have n0 := h.ntrans x.1 y.1 z.1
    have n4 := h.ntrans x.2 y.2 z.2
    have n1 := h.ntrans y.1 z.1 x.1
    have n2 := h.ntrans z.1 x.1 y.1
    revert n0 n4 n1 n2 h1 h2
    generalize l x.1 y.1 = a
    generalize l y.1 z.1 = b
    generalize l x.1 z.1 = c
    generalize l z.1 x.1 = d
    generalize l z.1 y.1 = e
    generalize l y.1 x.1 = f
    generalize l x.2 y.2 = p
    generalize l y.2 z.2 = q
    generalize l x.2 z.2 = r
    cases a <;> cases b <;> cases c <;> cases d <;> cases e <;> cases f <;> cases p <;> cases q <;> cases r <;> simp
end Go.Proofs.YtolaiebjmhieiaaGreatDoor.OScan
end
