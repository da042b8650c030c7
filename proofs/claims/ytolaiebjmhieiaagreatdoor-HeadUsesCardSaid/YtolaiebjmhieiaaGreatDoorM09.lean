/- Parts of the proof of HeadUses; no condition. -/
import Derived.Test.YtolaiebjmhieiaaGreatDoorM08
import Derived.Test.YtolaiebjmhieiaaGreatDoorM05
import Derived.Test.YtolaiebjmhieiaaGreatDoorM07
import Derived.Test.YtolaiebjmhieiaaGreatDoorM06
import Derived.Test.YtolaiebjmhieiaaGreatDoorM01
import Derived.Test.YtolaiebjmhieiaaGreatDoorM04
import Derived.BigRegion
import Derived.Deep.RegionLaw
import Derived.Defers
set_option maxHeartbeats 8000000
set_option maxRecDepth 100000
set_option linter.unusedVariables false
set_option linter.unusedSimpArgs false
section
namespace Go.Proofs.YtolaiebjmhieiaaGreatDoor.OScan
open Go.RowKit YtolaiebjmhieiaaGreatDoorW.PrintWords YtolaiebjmhieiaaGreatDoorW.PrintLast YtolaiebjmhieiaaGreatDoorW.PrintMore
open Go.MuLone
theorem read_e2 (m c:AL)(name text:ByteArray)(pv:Value)(PB fm cm:Nat)(w0 w:World)(HP:PrjIs w0.heap.size w PB fm cm pv m c)(HB:Below w0.heap.size w0 w)(hG:Glob2 w0)(hc:alGet c name=none)
 (ht:(alGet m name).getD (.string ⟨#[]⟩)= .string text) (hsz:text.size≤140737488355328) (hs0:(scanR text).2=0) (ks:List ByteArray) (hyl:(scanR text).1.length≤900000) (hkl:ks.length=(scanR text).1.length)
 (hK:∀(i:Nat) (t:Tk),(scanR text).1[i]? =some t→∃r,ks[i]? =some r∧KindOf t r) (he:(groupsR ks).2.1≠0):
 Calls Tryz.prog 21 #[.pointer (some ⟨PB,0,none⟩),.string name] w fun e w'=>∃rb,e= .returned (.pointer (some ⟨rb,0,none⟩))∧ReadQ w0 w w' PB cm c name rb [] (groupsR ks).2.1:=by
 have hP:=HP.hP
 have hPB:=blk_lt hP
 have p2:w.cell? ⟨PB,2,none⟩=some (.int .i32 0):=by have:=cell_of_row w PB 2 _ _ _ hP;simpa using this
 have f2:=blk_frozen hP 2
 have hP1:=blk_put hP 2 (.int .i32 1) rfl
 have hcP:cm≠PB:=by
  rintro e
  obtain ⟨es,cl,h1,_⟩:=HP.hc
  rw [e,hP] at h1
  cases h1
 have hfP:fm≠PB:=by
  rintro e
  obtain ⟨es,cl,h1,_⟩:=HP.hm
  rw [e,hP] at h1
  cases h1
 have hcs:=HP.hc.lt
 have hfs:=HP.hm.lt
 have HL:=lock_free Tryz.muLib ⟨PB,2,none⟩ w p2 f2
 obtain ⟨W1,hW1⟩:∃W1,W1=w.setCell ⟨PB,2,none⟩ (.int .i32 1):=⟨_,rfl⟩
 rw [←hW1] at HL hP1
 have hs1:W1.heap.size=w.heap.size:=by rw [hW1];simp
 have k1:∀k,k≠PB→W1.heap[k]? =w.heap[k]? :=fun k hk=>by rw [hW1];exact Below.heap_setCell _ ⟨PB,2,none⟩ _ k hk
 have B1:Below w0.heap.size w0 W1:=by rw [hW1];exact HB.setCell HP.bP _
 have hM1:MapIs W1 cm c:=HP.hc.same (k1 _ hcP)
 have hF1:MapIs W1 fm m:=HP.hm.same (k1 _ hfP)
 obtain ⟨W2,hW2⟩:∃W2,W2=W1.alloc (.cells #[Value.slice none 0 0,Value.slice none 0 0,Value.int .i64 0] 54):=⟨_,rfl⟩
 have B2:Below w0.heap.size w0 W2:=by rw [hW2];exact below_alloc B1 _
 have k2:∀k,k<w.heap.size→W2.heap[k]? =W1.heap[k]? :=fun k hk=>by rw [hW2];exact Below.heap_alloc _ _ _ (by omega)
 have hM2:MapIs W2 cm c:=hM1.same (k2 _ hcs)
 have hF2:MapIs W2 fm m:=hF1.same (k2 _ hfs)
 obtain ⟨rb,hrb⟩:∃rb,rb=W1.heap.size:=⟨_,rfl⟩
 have hR2:W2.heap[rb]? =some (.cells #[Value.slice none 0 0,Value.slice none 0 0,Value.int .i64 0] 54 (0,0)):=by rw [hW2,hrb];exact blk_new _ _
 have hs2:W2.heap.size=w.heap.size+1:=by rw [hW2,alloc_size,hs1]
 obtain ⟨W3,hrun,hM3,hO3⟩:=hM2.put (mt:=83) (e:=50) Tryz.underlying83 name (.pointer (some ⟨rb,0,none⟩))
 have hF3:MapIs W3 fm m:=hF2.same (hO3.block _ HP.ne)
 have B3:Below w0.heap.size w0 W3:=hO3.below B2 HP.bc
 have hlk1:=hM1.getOk Tryz.underlying83 name (.pointer none) (fun _=>rfl)
 rw [hc] at hlk1
 simp only [Option.getD_none,Option.isSome_none] at hlk1
 have hlk3:=hF3.get Tryz.underlying75 name (.string ⟨#[]⟩) (fun _=>rfl)
 rw [ht] at hlk3
 have hP2:=(k2 _ hPB).trans hP1
 have hP3:=(hO3.block _ (Ne.symm hcP)).trans hP2
 have hR3:=(hO3.block rb (by omega)).trans hR2
 have a1:W1.cell? ⟨PB,4,none⟩=some (.map (some cm)):=by have:=cell_of_row _ PB 4 _ _ _ hP1;simpa using this
 have a2:W2.cell? ⟨PB,4,none⟩=some (.map (some cm)):=by have:=cell_of_row _ PB 4 _ _ _ hP2;simpa using this
 have a3:W3.cell? ⟨PB,0,none⟩=some (.map (some fm)):=by have:=cell_of_row _ PB 0 _ _ _ hP3;simpa using this
 have H40:=scan_both text W3 (hG.below B3) hsz
 have K3:∀k,k<w.heap.size→k≠PB→k≠cm→W3.heap[k]? =w.heap[k]? :=fun k h1 h2 h3=>(hO3.block k h3).trans ((k2 k h1).trans (k1 k h2))
 have s3:w.heap.size<W3.heap.size:=by rw [hO3.size,hs2];omega
 have er0:((groupsR ks).2.1 !=0)=true:=by simpa using he
 rw [hs0] at H40
 have hrbs:rb<W3.heap.size:=blk_lt hR3
 have hPs:PB<W3.heap.size:=blk_lt hP3
 have hcs3:cm<W3.heap.size:=hM3.lt
 have hrP:rb≠PB:=by omega
 have hrc:rb≠cm:=by omega
 generalize (scanR text).1=ys at *
 have H41:Aside0 (∀(W:World) (A:Option Addr) (c:Nat),Kd.C kTk W A ys.length ys→ys.length≤c→Below w0.heap.size w0 W→Calls Tryz.prog 41 #[.slice A ys.length c] W fun e w'=>∃v,e= .returned (.tuple #[v,.int .i64 (groupsR ks).2.1,.int .i64 (groupsR ks).2.2])∧Kd.R kGr 134 w' W.heap.size (fun _=>True) v (groupsR ks).1∧Below W.heap.size W w'):=⟨fun W A c h1 h2 h3=>groups_any ys ks W A c h1 h2 (hG.below h3) hyl hkl hK⟩
 generalize (groupsR ks).2.1=er at *
 generalize (groupsR ks).2.2=gat at *
 generalize (groupsR ks).1=ggs at *
 rw [hW2] at hrun a2
 rw [hrb] at hrun
 have HX:=z0 (And.intro hR3 (And.intro hP3 (And.intro hM3 (And.intro B3 K3))))
 have HRB:=z0 hrb
 have HPP:=z0 HP
 have HYP:=z0 (And.intro hP (And.intro s3 (And.intro hrbs (And.intro hPs (And.intro hcs3 (And.intro hrP hrc))))))
 have HS1:=z0 hs1
 clear hM1 hF1 B1 k1 hM2 hF2 B2 k2 hR2 hs2 hO3 hF3 B3 hP2 hP3 hR3 hP1 hW1 hW2 HP hP p2 f2 hs1 K3 s3 hrb hrbs hPs hcs3 hrP hrc hcs hfs hcP hfP hPB he hM3 HB hG hc ht hsz hs0 hkl hK hyl
 go_enter_defers Tryz.func21,Tryz.ntmps21
 go_wp2_with (first|(go_at_call 38;go_loud (refine HL.mono ?_;rintro e w' ⟨rfl,rfl⟩))|(go_at_call 40;go_loud (refine H40.mono ?_;rintro e w8 ⟨v8,rfl,hr8,hb8⟩;obtain ⟨A8,c8,rfl⟩:=Kd.R_slice hr8;obtain ⟨hR3,hP3,hM3,B3,K3⟩:=HX.out;obtain ⟨_,_,hrbs,hPs,hcs3,_,_⟩:=HYP.out;have hR8:=(hb8.block _ hrbs).trans hR3;have hP8:=(hb8.block _ hPs).trans hP3;have m0:w8.cell? ⟨rb,0,none⟩=some (.slice none 0 0):=(by have:=cell_of_row _ rb 0 _ _ _ hR8;simpa using this);have m2:w8.cell? ⟨rb,2,none⟩=some (.int .i64 0):=(by have:=cell_of_row _ rb 2 _ _ _ hR8;simpa using this);have g0:=blk_frozen hR8 0;have g2:=blk_frozen hR8 2;rw [HRB.out] at m0 m2 g0 g2;have HR8:=z0 hR8;have HP8:=z0 hP8;have HT8:=z0 hr8;have HB8:=z0 hb8;clear hr8 hb8 hR3 hP3 hM3 B3 K3 hrbs hPs hcs3 hR8 hP8)))
 obtain ⟨W9,hW9⟩:∃W9,W9=((w8.setCell {block:=w'.heap.size,off:=0} (Value.slice A8 ys.length c8)).setCell {block:=w'.heap.size,off:=2} (Value.int IntKind.i64 0)):=⟨_,rfl⟩
 rw [←hW9]
 rw [←HRB.out] at hW9 ⊢
 obtain ⟨hR3,hP3,hM3,B3,K3⟩:=HX.out
 obtain ⟨hP,s3,hrbs,hPs,hcs3,hrP,hrc⟩:=HYP.out
 have hR9a:=blk_put HR8.out 0 (Value.slice A8 ys.length c8) rfl
 have hR9:W9.heap[rb]? =some (.cells #[Value.slice A8 ys.length c8,Value.slice none 0 0,Value.int .i64 0] 54 (0,0)):=by rw [hW9];exact blk_put hR9a 2 _ rfl
 have hP9:W9.heap[PB]? =some (.cells #[Value.map (some fm),pv,Value.int .i32 1,Value.int .u32 0,Value.map (some cm)] 87 (0,0)):=by rw [hW9];exact blk_far (blk_far HP8.out (Ne.symm hrP) _) (Ne.symm hrP) _
 have k9:∀k,k≠rb→W9.heap[k]? =w8.heap[k]? :=fun k hk=>by rw [hW9];exact (Below.heap_setCell _ ⟨rb,2,none⟩ _ k hk).trans (Below.heap_setCell _ ⟨rb,0,none⟩ _ k hk)
 have hrb0:w.heap.size≤rb:=by have h1:=HRB.out;have h2:=HS1.out;omega
 have hw0:w0.heap.size≤rb:=by have:=HPP.out.bP;have:=blk_lt hP;omega
 have B9:Below w0.heap.size w0 W9:=by rw [hW9];exact ((below_step B3 HB8.out).setCell hw0 _).setCell hw0 _
 have hs98:W9.heap.size=w8.heap.size:=by rw [hW9];simp
 have hT9:Kd.R kTk 95 W9 W3.heap.size (fun _=>True) (.slice A8 ys.length c8) ys:=by rw [hW9];exact Kd.R_set (Kd.R_set HT8.out HR8.out (by decide) 0 _) hR9a (by decide) 2 _
 have hC9:=Kd.R_reads' hT9
 refine (H41.out W9 A8 c8 hC9.2.2 hC9.2.1 B9).mono ?_
 rintro e w10 ⟨v10,rfl,hr10,hb10⟩
 have hR10:=(hb10.block _ (blk_lt hR9)).trans hR9
 have hP10:=(hb10.block _ (blk_lt hP9)).trans hP9
 have q0:w10.cell? ⟨rb,0,none⟩=some (.slice A8 ys.length c8):=by have:=cell_of_row _ rb 0 _ _ _ hR10;simpa using this
 have q2:w10.cell? ⟨rb,2,none⟩=some (.int .i64 0):=by have:=cell_of_row _ rb 2 _ _ _ hR10;simpa using this
 have q3:=blk_frozen hR10 2
 have HP10:=z0 hP10
 have HR10:=z0 hR10
 have HB10:=z0 hb10
 have HK9:=z0 (And.intro k9 (And.intro hrb0 (And.intro hw0 (And.intro B9 hs98))))
 clear hR9a hR9 hP9 k9 hrb0 hw0 B9 hs98 hT9 hC9 hb10 hR10 hP10 hR3 hP3 hM3 B3 K3 hP s3 hrbs hPs hcs3 hrP hrc m0 m2 g0 g2 hW9
 go_wp2
 obtain ⟨W11,hW11⟩:∃W11,W11=w10.setCell {block:=rb,off:=2} (Value.int IntKind.i64 er):=⟨_,rfl⟩
 rw [←hW11]
 obtain ⟨hR3,hP3,hM3,B3,K3⟩:=HX.out
 obtain ⟨hP,s3,hrbs,hPs,hcs3,hrP,hrc⟩:=HYP.out
 obtain ⟨k9,hrb0,hw0,B9,hs98⟩:=HK9.out
 have hR11:W11.heap[rb]? =some (.cells #[Value.slice A8 ys.length c8,Value.slice none 0 0,Value.int .i64 er] 54 (0,0)):=by rw [hW11];exact blk_put HR10.out 2 _ rfl
 have hP11:W11.heap[PB]? =some (.cells #[Value.map (some fm),pv,Value.int .i32 1,Value.int .u32 0,Value.map (some cm)] 87 (0,0)):=by rw [hW11];exact blk_far HP10.out (Ne.symm hrP) _
 have k11:∀k,k<W3.heap.size→k≠rb→W11.heap[k]? =W3.heap[k]? :=fun k h1 hk=>by
  have h8:=HB8.out.size
  rw [hW11]
  exact (Below.heap_setCell _ ⟨rb,2,none⟩ _ k hk).trans ((HB10.out.block k (by omega)).trans ((k9 k hk).trans (HB8.out.block k h1)))
 have B11:Below w0.heap.size w0 W11:=by rw [hW11];exact (below_step B9 HB10.out).setCell hw0 _
 have d1:W11.cell? ⟨PB,2,none⟩=some (.int .i32 1):=by have:=cell_of_row _ PB 2 _ _ _ hP11;simpa using this
 have d2:=blk_frozen hP11 2
 refine leaves_cons (f:=39) (args:= #[.pointer (some ⟨PB,2,none⟩)]) (by simp) (by simp [go_sem]) ?_
 refine (unlock_deferred Tryz.muLib ⟨PB,2,none⟩ .returning W11 d1 d2).mono ?_
 rintro e u' w'' ⟨rfl,rfl,rfl⟩
 refine ⟨_,results_tmp rfl _ _ _,rb,rfl,⟨⟨hw0,_,_,blk_far hR11 hrP _,Kd.R_nil _ _ _ _ _⟩,hrb0,hM3.same ?_,?_,B11.setCell HPP.out.bP _,fun k h1 h2 h3=> ?_⟩⟩
 · exact (Below.heap_setCell _ ⟨PB,2,none⟩ _ cm (by
    rintro e
    obtain ⟨es,cl,h1,_⟩:=HPP.out.hc
    have e':cm=PB:=e
    rw [e',hP] at h1
    cases h1)).trans (k11 cm hcs3 (Ne.symm hrc))
 · rw [hP];exact blk_put hP11 2 _ rfl
 · exact (Below.heap_setCell _ ⟨PB,2,none⟩ _ k h2).trans ((k11 k (by omega) (by omega)).trans (K3 k h1 h2 h3))
def usF (incs:Nat→Option (ByteArray × Bool))(files:Nat→ByteArray)(gs:List Gr):Nat→List Us
 |0=>[]
 |k+1=>usF incs files gs k++(match incs k with|some (n,q)=>if seenB gs k=true then [(n,q,files k)] else []|none=>[])
theorem usF_len (incs:Nat→Option (ByteArray × Bool))(files:Nat→ByteArray)(gs:List Gr):∀k,(usF incs files gs k).length≤k
 |0=>Nat.le_refl _
 |k+1=>by
  have:=usF_len incs files gs k
  unfold usF
  rw [List.length_append]
  split
  · split<;>simp<;>omega
  · simp;omega
def normalOnly (Q:Exit→Act→World→Prop):Exit→Act→World→Prop:=fun e a w=>match e with| .normal=>Q .normal a w|_=>False
theorem normalOnly_imp (Q:Exit→Act→World→Prop):∀e a w,normalOnly Q e a w→Q e a w:=fun e a w h=>by
 cases e with
 |normal=>exact h
 |_=>exact h.elim
theorem read_ok (m c:AL)(name text:ByteArray)(Ap:Option Addr)(np cp:Nat)(PB fm cm:Nat)(w0 w:World)(HP:PrjIs w0.heap.size w PB fm cm (.slice Ap np cp) m c)(HB:Below w0.heap.size w0 w)(hG:Glob2 w0)(hc:alGet c name=none)
 (ht:(alGet m name).getD (.string ⟨#[]⟩)= .string text) (hsz:text.size≤140737488355328) (hs0:(scanR text).2=0) (ks:List ByteArray) (hyl:(scanR text).1.length≤900000) (hkl:ks.length=(scanR text).1.length)
 (hK:∀(i:Nat) (t:Tk),(scanR text).1[i]? =some t→∃r,ks[i]? =some r∧KindOf t r) (he:(groupsR ks).2.1=0)
 (hgs:∀g∈(groupsR ks).1,2≤g.1.length∧g.1.length≤1000000) (hgl:(groupsR ks).1.length≤1000000) (incs:Nat→Option (ByteArray × Bool)) (files:Nat→ByteArray)
 (hInc:∀(i:Nat) (t:Tk),(scanR text).1[i]? =some t→∀W,Glob2 W→Calls Tryz.prog 42 #[.agg #[.int .i64 t.1,.string t.2.1,.string t.2.2.1,.int .i64 t.2.2.2]] W fun e w'=>e= .returned (.tuple #[useV (incs i),.bool (incs i).isSome])∧Below W.heap.size W w')
 (hFind:∀(i:Nat) (n:ByteArray) (q:Bool),incs i=some (n,q)→seenB (groupsR ks).1 i=true→∀W,Below w0.heap.size w0 W→PrjF W PB fm cm 1 (.slice Ap np cp) m→Calls Tryz.prog 44 #[.pointer (some ⟨PB,0,none⟩),.string name,.agg #[.string n,.bool q,.string ⟨#[]⟩]] W fun e w'=>e= .returned (.string (files i))∧Below W.heap.size W w'):
 Calls Tryz.prog 21 #[.pointer (some ⟨PB,0,none⟩),.string name] w fun e w'=>∃rb,e= .returned (.pointer (some ⟨rb,0,none⟩))∧ReadQ w0 w w' PB cm c name rb (usF incs files (groupsR ks).1 (scanR text).1.length) 0:=by
 have hP:=HP.hP
 have hPB:=blk_lt hP
 have p2:w.cell? ⟨PB,2,none⟩=some (.int .i32 0):=by have:=cell_of_row w PB 2 _ _ _ hP;simpa using this
 have f2:=blk_frozen hP 2
 have hP1:=blk_put hP 2 (.int .i32 1) rfl
 have hcP:cm≠PB:=by
  rintro e
  obtain ⟨es,cl,h1,_⟩:=HP.hc
  rw [e,hP] at h1
  cases h1
 have hfP:fm≠PB:=by
  rintro e
  obtain ⟨es,cl,h1,_⟩:=HP.hm
  rw [e,hP] at h1
  cases h1
 have hcs:=HP.hc.lt
 have hfs:=HP.hm.lt
 have HL:=lock_free Tryz.muLib ⟨PB,2,none⟩ w p2 f2
 obtain ⟨W1,hW1⟩:∃W1,W1=w.setCell ⟨PB,2,none⟩ (.int .i32 1):=⟨_,rfl⟩
 rw [←hW1] at HL hP1
 have hs1:W1.heap.size=w.heap.size:=by rw [hW1];simp
 have k1:∀k,k≠PB→W1.heap[k]? =w.heap[k]? :=fun k hk=>by rw [hW1];exact Below.heap_setCell _ ⟨PB,2,none⟩ _ k hk
 have B1:Below w0.heap.size w0 W1:=by rw [hW1];exact HB.setCell HP.bP _
 have hM1:MapIs W1 cm c:=HP.hc.same (k1 _ hcP)
 have hF1:MapIs W1 fm m:=HP.hm.same (k1 _ hfP)
 obtain ⟨W2,hW2⟩:∃W2,W2=W1.alloc (.cells #[Value.slice none 0 0,Value.slice none 0 0,Value.int .i64 0] 54):=⟨_,rfl⟩
 have B2:Below w0.heap.size w0 W2:=by rw [hW2];exact below_alloc B1 _
 have k2:∀k,k<w.heap.size→W2.heap[k]? =W1.heap[k]? :=fun k hk=>by rw [hW2];exact Below.heap_alloc _ _ _ (by omega)
 have hM2:MapIs W2 cm c:=hM1.same (k2 _ hcs)
 have hF2:MapIs W2 fm m:=hF1.same (k2 _ hfs)
 obtain ⟨rb,hrb⟩:∃rb,rb=W1.heap.size:=⟨_,rfl⟩
 have hR2:W2.heap[rb]? =some (.cells #[Value.slice none 0 0,Value.slice none 0 0,Value.int .i64 0] 54 (0,0)):=by rw [hW2,hrb];exact blk_new _ _
 have hs2:W2.heap.size=w.heap.size+1:=by rw [hW2,alloc_size,hs1]
 obtain ⟨W3,hrun,hM3,hO3⟩:=hM2.put (mt:=83) (e:=50) Tryz.underlying83 name (.pointer (some ⟨rb,0,none⟩))
 have hF3:MapIs W3 fm m:=hF2.same (hO3.block _ HP.ne)
 have B3:Below w0.heap.size w0 W3:=hO3.below B2 HP.bc
 have hlk1:=hM1.getOk Tryz.underlying83 name (.pointer none) (fun _=>rfl)
 rw [hc] at hlk1
 simp only [Option.getD_none,Option.isSome_none] at hlk1
 have hlk3:=hF3.get Tryz.underlying75 name (.string ⟨#[]⟩) (fun _=>rfl)
 rw [ht] at hlk3
 have hP2:=(k2 _ hPB).trans hP1
 have hP3:=(hO3.block _ (Ne.symm hcP)).trans hP2
 have hR3:=(hO3.block rb (by omega)).trans hR2
 have a1:W1.cell? ⟨PB,4,none⟩=some (.map (some cm)):=by have:=cell_of_row _ PB 4 _ _ _ hP1;simpa using this
 have a2:W2.cell? ⟨PB,4,none⟩=some (.map (some cm)):=by have:=cell_of_row _ PB 4 _ _ _ hP2;simpa using this
 have a3:W3.cell? ⟨PB,0,none⟩=some (.map (some fm)):=by have:=cell_of_row _ PB 0 _ _ _ hP3;simpa using this
 have H40:=scan_both text W3 (hG.below B3) hsz
 have K3:∀k,k<w.heap.size→k≠PB→k≠cm→W3.heap[k]? =w.heap[k]? :=fun k h1 h2 h3=>(hO3.block k h3).trans ((k2 k h1).trans (k1 k h2))
 have s3:w.heap.size<W3.heap.size:=by rw [hO3.size,hs2];omega
 rw [hs0] at H40
 have hrbs:rb<W3.heap.size:=blk_lt hR3
 have hPs:PB<W3.heap.size:=blk_lt hP3
 have hcs3:cm<W3.heap.size:=hM3.lt
 have hrP:rb≠PB:=by omega
 have hrc:rb≠cm:=by omega
 generalize (scanR text).1=ys at *
 have H41:Aside0 (∀(W:World) (A:Option Addr) (c:Nat),Kd.C kTk W A ys.length ys→ys.length≤c→Below w0.heap.size w0 W→Calls Tryz.prog 41 #[.slice A ys.length c] W fun e w'=>∃v,e= .returned (.tuple #[v,.int .i64 (groupsR ks).2.1,.int .i64 (groupsR ks).2.2])∧Kd.R kGr 134 w' W.heap.size (fun _=>True) v (groupsR ks).1∧Below W.heap.size W w'):=⟨fun W A c h1 h2 h3=>groups_any ys ks W A c h1 h2 (hG.below h3) hyl hkl hK⟩
 rw [he] at H41
 generalize (groupsR ks).2.2=gat at *
 generalize (groupsR ks).1=ggs at *
 rw [hW2] at hrun a2
 rw [hrb] at hrun
 have HX:=z0 (And.intro hR3 (And.intro hP3 (And.intro hM3 (And.intro B3 K3))))
 have HRB:=z0 hrb
 have HPP:=z0 HP
 have HYP:=z0 (And.intro hP (And.intro s3 (And.intro hrbs (And.intro hPs (And.intro hcs3 (And.intro hrP hrc))))))
 have HS1:=z0 hs1
 clear hM1 hF1 B1 k1 hM2 hF2 B2 k2 hR2 hs2 hO3 hF3 B3 hP2 hP3 hR3 hP1 hW1 hW2 HP hP p2 f2 hs1 K3 s3 hrb hrbs hPs hcs3 hrP hrc hcs hfs hcP hfP hPB he hM3 HB hc ht hsz hs0 hkl hK
 go_enter_defers Tryz.func21,Tryz.ntmps21
 go_wp2_with (first|(go_at_call 38;go_loud (refine HL.mono ?_;rintro e w' ⟨rfl,rfl⟩))|(go_at_call 40;go_loud (refine H40.mono ?_;rintro e w8 ⟨v8,rfl,hr8,hb8⟩;obtain ⟨A8,c8,rfl⟩:=Kd.R_slice hr8;obtain ⟨hR3,hP3,hM3,B3,K3⟩:=HX.out;obtain ⟨_,_,hrbs,hPs,hcs3,_,_⟩:=HYP.out;have hR8:=(hb8.block _ hrbs).trans hR3;have hP8:=(hb8.block _ hPs).trans hP3;have m0:w8.cell? ⟨rb,0,none⟩=some (.slice none 0 0):=(by have:=cell_of_row _ rb 0 _ _ _ hR8;simpa using this);have m2:w8.cell? ⟨rb,2,none⟩=some (.int .i64 0):=(by have:=cell_of_row _ rb 2 _ _ _ hR8;simpa using this);have g0:=blk_frozen hR8 0;have g2:=blk_frozen hR8 2;rw [HRB.out] at m0 m2 g0 g2;have HR8:=z0 hR8;have HP8:=z0 hP8;have HT8:=z0 hr8;have HB8:=z0 hb8;clear hr8 hb8 hR3 hP3 hM3 B3 K3 hrbs hPs hcs3 hR8 hP8)))
 obtain ⟨W9,hW9⟩:∃W9,W9=((w8.setCell {block:=w'.heap.size,off:=0} (Value.slice A8 ys.length c8)).setCell {block:=w'.heap.size,off:=2} (Value.int IntKind.i64 0)):=⟨_,rfl⟩
 rw [←hW9]
 rw [←HRB.out] at hW9 ⊢
 obtain ⟨hR3,hP3,hM3,B3,K3⟩:=HX.out
 obtain ⟨hP,s3,hrbs,hPs,hcs3,hrP,hrc⟩:=HYP.out
 have hR9a:=blk_put HR8.out 0 (Value.slice A8 ys.length c8) rfl
 have hR9:W9.heap[rb]? =some (.cells #[Value.slice A8 ys.length c8,Value.slice none 0 0,Value.int .i64 0] 54 (0,0)):=by rw [hW9];exact blk_put hR9a 2 _ rfl
 have hP9:W9.heap[PB]? =some (.cells #[Value.map (some fm),Value.slice Ap np cp,Value.int .i32 1,Value.int .u32 0,Value.map (some cm)] 87 (0,0)):=by rw [hW9];exact blk_far (blk_far HP8.out (Ne.symm hrP) _) (Ne.symm hrP) _
 have k9:∀k,k≠rb→W9.heap[k]? =w8.heap[k]? :=fun k hk=>by rw [hW9];exact (Below.heap_setCell _ ⟨rb,2,none⟩ _ k hk).trans (Below.heap_setCell _ ⟨rb,0,none⟩ _ k hk)
 have hrb0:w.heap.size≤rb:=by have h1:=HRB.out;have h2:=HS1.out;omega
 have hw0:w0.heap.size≤rb:=by have:=HPP.out.bP;have:=blk_lt hP;omega
 have B9:Below w0.heap.size w0 W9:=by rw [hW9];exact ((below_step B3 HB8.out).setCell hw0 _).setCell hw0 _
 have hs98:W9.heap.size=w8.heap.size:=by rw [hW9];simp
 have hT9:Kd.R kTk 95 W9 W3.heap.size (fun _=>True) (.slice A8 ys.length c8) ys:=by rw [hW9];exact Kd.R_set (Kd.R_set HT8.out HR8.out (by decide) 0 _) hR9a (by decide) 2 _
 have hC9:=Kd.R_reads' hT9
 refine (H41.out W9 A8 c8 hC9.2.2 hC9.2.1 B9).mono ?_
 rintro e w10 ⟨v10,rfl,hr10,hb10⟩
 obtain ⟨A10,c10,rfl⟩:=Kd.R_slice hr10
 have hT10:Kd.R kTk 95 w10 W3.heap.size (fun k=>True∧k≠rb) (.slice A8 ys.length c8) ys:=Kd.R_below (Kd.R_types hT9 hR9 (by decide)) hb10
 have hG10:Kd.R kGr 134 w10 W9.heap.size (fun k=>True∧k≠rb) (.slice A10 ggs.length c10) ggs:=Kd.R_types hr10 ((hb10.block _ (blk_lt hR9)).trans hR9) (by decide)
 have HT10:=z0 hT10
 have HG10:=z0 hG10
 have hR10:=(hb10.block _ (blk_lt hR9)).trans hR9
 have hP10:=(hb10.block _ (blk_lt hP9)).trans hP9
 have q0:w10.cell? ⟨rb,0,none⟩=some (.slice A8 ys.length c8):=by have:=cell_of_row _ rb 0 _ _ _ hR10;simpa using this
 have q2:w10.cell? ⟨rb,2,none⟩=some (.int .i64 0):=by have:=cell_of_row _ rb 2 _ _ _ hR10;simpa using this
 have q3:=blk_frozen hR10 2
 have HP10:=z0 hP10
 have HR10:=z0 hR10
 have HB10:=z0 hb10
 have HK9:=z0 (And.intro k9 (And.intro hrb0 (And.intro hw0 (And.intro B9 hs98))))
 clear hr10 hT10 hG10 hR9a hR9 hP9 k9 hrb0 hw0 B9 hs98 hT9 hC9 hb10 hR10 hP10 hR3 hP3 hM3 B3 K3 hP s3 hrbs hPs hcs3 hrP hrc m0 m2 g0 g2 hW9
 go_wp2
 obtain ⟨WL,hWL⟩:∃WL,WL=w10.setCell {block:=rb,off:=2} (Value.int IntKind.i64 0):=⟨_,rfl⟩
 rw [←hWL]
 have HTL:Aside0 (Kd.R kTk 95 WL W3.heap.size (fun k=>True∧k≠rb) (.slice A8 ys.length c8) ys):=⟨by rw [hWL];exact Kd.R_far HT10.out (fun k hk=>hk.2) _⟩
 have HGL:Aside0 (Kd.R kGr 134 WL W9.heap.size (fun k=>True∧k≠rb) (.slice A10 ggs.length c10) ggs):=⟨by rw [hWL];exact Kd.R_far HG10.out (fun k hk=>hk.2) _⟩
 have HRL:Aside0 (WL.heap[rb]? =some (.cells #[Value.slice A8 ys.length c8,Value.slice none 0 0,Value.int .i64 0] 54 (0,0))):=⟨by rw [hWL];exact blk_put HR10.out 2 _ rfl⟩
 have HPL:Aside0 (WL.heap[PB]? =some (.cells #[Value.map (some fm),Value.slice Ap np cp,Value.int .i32 1,Value.int .u32 0,Value.map (some cm)] 87 (0,0))):=⟨by rw [hWL];exact blk_far HP10.out (Ne.symm HYP.out.2.2.2.2.2.1) _⟩
 have HBL:Aside0 (Below w0.heap.size w0 WL):=⟨by rw [hWL];exact (below_step HK9.out.2.2.2.1 HB10.out).setCell HK9.out.2.2.1 _⟩
 have HKL:Aside0 (∀k,k<W3.heap.size→k≠rb→WL.heap[k]? =W3.heap[k]?):=⟨fun k h1 hk=>by
  have h8:=HB8.out.size
  have h9:=HK9.out.2.2.2.2
  rw [hWL]
  exact (Below.heap_setCell _ ⟨rb,2,none⟩ _ k hk).trans ((HB10.out.block k (by omega)).trans ((HK9.out.1 k hk).trans (HB8.out.block k h1)))⟩
 clear hWL q0 q2 q3 HT10 HG10 HR10 HP10
 go_loopg [88] ys.length (fun kq v88 w'=>∃(i:Nat) (us0:List Us) (vu:Value),v88= .int .i64 i∧Aside0 (us0=usF incs files ggs i)∧Aside0 (kq+i=ys.length)∧Aside0 (w'.heap[rb]? =some (.cells #[Value.slice A8 ys.length c8,vu,Value.int .i64 0] 54 (0,0)))∧Aside0 (Kd.R kUs 34 w' WL.heap.size (fun _=>True) vu us0)∧Aside0 (KeepBut WL w' rb none)∧Aside0 (Below w0.heap.size w0 w'))
 case atStart=>exact ⟨0,[],_,rfl,⟨rfl⟩,⟨rfl⟩,HRL,⟨Kd.R_nil _ _ _ _ _⟩,⟨KeepBut.refl _ _ _⟩,HBL⟩
 case round=>
  obtain ⟨i,us0,vu,rfl,hus0,hki,hRr,hU,hKr,hBr⟩:=hrel
  have hki':=hki.out
  cases gk with
  |zero=>
   have hlt:decide ((i:Int)<(ys.length:Int))=false:=decide_eq_false (by omega)
   go_wp2
   obtain rfl:i=ys.length:=by omega
   obtain ⟨hR3,hP3,hM3,B3,K3⟩:=HX.out
   obtain ⟨hP,s3,hrbs,hPs,hcs3,hrP,hrc⟩:=HYP.out
   obtain ⟨k9,hrb0,hw0,B9,hs98⟩:=HK9.out
   have hPw:wr.heap[PB]? =some (.cells #[Value.map (some fm),Value.slice Ap np cp,Value.int .i32 1,Value.int .u32 0,Value.map (some cm)] 87 (0,0)):=(hKr.out.2 PB (blk_lt HPL.out) (Ne.symm hrP) (by simp)).trans HPL.out
   have d1:wr.cell? ⟨PB,2,none⟩=some (.int .i32 1):=by have:=cell_of_row _ PB 2 _ _ _ hPw;simpa using this
   have d2:=blk_frozen hPw 2
   have hWLs:W3.heap.size≤WL.heap.size:=by
    rcases Nat.lt_or_ge WL.heap.size W3.heap.size with h|h
    · have h1:=HKL.out WL.heap.size h (by have:=blk_lt HRL.out;omega)
      rw [Array.getElem?_eq_none (Nat.le_refl _),Array.getElem?_eq_getElem h] at h1
      cases h1
    · exact h
   refine leaves_cons (f:=39) (args:= #[.pointer (some ⟨PB,2,none⟩)]) (by simp) (by simp [go_sem]) ?_
   refine (unlock_deferred Tryz.muLib ⟨PB,2,none⟩ .returning wr d1 d2).mono ?_
   rintro e u' w'' ⟨rfl,rfl,rfl⟩
   refine ⟨_,results_tmp rfl _ _ _,rb,rfl,⟨⟨hw0,_,_,blk_far hRr.out hrP _,by rw [←hus0.out];exact Kd.R_lower (Kd.R_set hU.out hPw (by decide) 2 _) HBL.out.size⟩,hrb0,hM3.same ?_,?_,hBr.out.setCell HPP.out.bP _,fun k h1 h2 h3=> ?_⟩⟩
   · exact (Below.heap_setCell _ ⟨PB,2,none⟩ _ cm (by
      rintro e
      obtain ⟨es,cl,h1,_⟩:=HPP.out.hc
      have e':cm=PB:=e
      rw [e',hP] at h1
      cases h1)).trans ((hKr.out.2 cm (by omega) (Ne.symm hrc) (by simp)).trans (HKL.out cm hcs3 (Ne.symm hrc)))
   · rw [hP];exact blk_put hPw 2 _ rfl
   · exact (Below.heap_setCell _ ⟨PB,2,none⟩ _ k h2).trans ((hKr.out.2 k (by omega) (by omega) (by simp)).trans ((HKL.out k (by omega) (by omega)).trans (K3 k h1 h2 h3)))
  |succ g1=>
   have hlt:decide ((i:Int)<(ys.length:Int))=true:=decide_eq_true (by omega)
   have hii:(0:Int)≤(i:Int):=by omega
   obtain ⟨x,hx⟩:∃x,ys[i]? =some x:=⟨_,List.getElem?_eq_getElem (by omega)⟩
   have HI:=hInc i x hx
   obtain ⟨ad,hAd,hx0,hx1,hx2,hx3⟩:=tk_at (Kd.R_reads' (Kd.R_keep HTL.out hKr.out (fun k hk=>hk.2))).2.2 i (by omega) x hx
   obtain rfl:=hAd
   clear hx
   obtain ⟨kd,bf,tx,a1⟩:=x
   simp only at hx0 hx1 hx2 hx3 HI
   have HII:=z0 HI
   clear HI
   have hus:usF incs files ggs (i+1)=usF incs files ggs i++(match incs i with|some (n,q)=>if seenB ggs i=true then [(n,q,files i)] else []|none=>[]):=rfl
   have HUS:=z0 hus
   clear hus
   have HINC:=z0 hInc
   have HFIND:=z0 hFind
   clear hInc hFind
   cases hri:incs i with
   |none=>
    rw [hri] at HII HUS
    clear hri
    go_wp2_with (go_at_call 42;go_loud (refine (HII.out _ (hG.below (below_alloc hBr.out _))).mono ?_;rintro e w4 ⟨he4,hb4⟩;obtain rfl:e= .returned (.tuple #[.agg #[.string ⟨#[]⟩,.bool false,.string ⟨#[]⟩],.bool false]):=he4;have HB4:=z0 (below_step (below_alloc (Below.refl wr.heap.size wr) _) hb4);clear hb4))
    obtain ⟨We,hWe⟩:∃We,We=w4.alloc (Obj.cells #[Value.string {data:= #[]},Value.bool false,Value.string {data:= #[]}] 34):=⟨_,rfl⟩
    rw [←hWe]
    have HBe:Aside0 (Below wr.heap.size wr We):=⟨by rw [hWe];exact below_alloc HB4.out _⟩
    clear hWe
    go_roundg g1
    case measure=>omega
    case rel=>exact ⟨i+1,us0,vu,by (try simp),⟨by rw [HUS.out,←hus0.out];simp⟩,⟨by omega⟩,⟨(HBe.out.block _ (blk_lt hRr.out)).trans hRr.out⟩,⟨Kd.R_below hU.out HBe.out⟩,⟨KeepBut.trans hKr.out (KeepBut.of_below HBe.out rb none) (.inl rfl)⟩,⟨below_step hBr.out HBe.out⟩⟩
   |some nq=>
    obtain ⟨un,uq⟩:=nq
    have hri':=hri
    rw [hri] at HII HUS
    have HRI:=z0 hri'
    clear hri hri'
    have H43:Aside0 (∀W,Below wr.heap.size wr W→Calls Tryz.prog 43 #[.slice A10 ggs.length c10,.int .i64 i] W fun e w'=>e= .returned (.bool (seenB ggs i))∧Below W.heap.size W w'):=⟨fun W hb=>seen_any ggs i W A10 c10 (Kd.R_reads' (Kd.R_keep HGL.out (KeepBut.trans hKr.out (KeepBut.of_below hb rb none) (.inl rfl)) (fun k hk=>hk.2))).2.2 hgl hgs⟩
    obtain ⟨sb,hsb⟩:∃sb,sb=seenB ggs i:=⟨_,rfl⟩
    rw [←hsb] at H43 HUS
    have HSB:=z0 hsb
    clear hsb
    cases sb with
    |false=>
     go_wp2_with (first|(go_at_call 42;go_loud (refine (HII.out _ (hG.below (below_alloc hBr.out _))).mono ?_;rintro e w4 ⟨he4,hb4⟩;obtain rfl:e= .returned (.tuple #[.agg #[.string un,.bool uq,.string ⟨#[]⟩],.bool true]):=he4;have HB4:=z0 (below_step (below_alloc (Below.refl wr.heap.size wr) _) hb4);clear hb4))|(go_at_call 43;go_loud (refine (H43.out _ (below_alloc HB4.out _)).mono ?_;rintro e w5 ⟨rfl,hb5⟩;have HB5:=z0 (below_step (below_alloc HB4.out _) hb5);clear hb5)))
     go_roundg g1
     case measure=>omega
     case rel=>exact ⟨i+1,us0,vu,by (try simp),⟨by rw [HUS.out,←hus0.out];simp⟩,⟨by omega⟩,⟨(HB5.out.block _ (blk_lt hRr.out)).trans hRr.out⟩,⟨Kd.R_below hU.out HB5.out⟩,⟨KeepBut.trans hKr.out (KeepBut.of_below HB5.out rb none) (.inl rfl)⟩,⟨below_step hBr.out HB5.out⟩⟩
    |true=>
     have HF44:Aside0 (∀W,Below wr.heap.size wr W→Calls Tryz.prog 44 #[.pointer (some ⟨PB,0,none⟩),.string name,.agg #[.string un,.bool uq,.string ⟨#[]⟩]] W fun e w'=>e= .returned (.string (files i))∧Below W.heap.size W w'):=⟨fun W hb=>by
      obtain ⟨hR3,hP3,hM3,B3,K3⟩:=HX.out
      obtain ⟨hP,s3,hrbs,hPs,hcs3,hrP,hrc⟩:=HYP.out
      have hK:=KeepBut.trans hKr.out (KeepBut.of_below hb rb none) (.inl rfl)
      have hrb0:=HK9.out.2.1
      have hfl:=HPP.out.hm.lt
      have hfP:fm≠PB:=by
       rintro e
       obtain ⟨es,cl,h1,_⟩:=HPP.out.hm
       rw [e,hP] at h1
       cases h1
      have hWLs:W3.heap.size≤WL.heap.size:=by
       rcases Nat.lt_or_ge WL.heap.size W3.heap.size with h|h
       · have h1:=HKL.out WL.heap.size h (by have:=blk_lt HRL.out;omega)
         rw [Array.getElem?_eq_none (Nat.le_refl _),Array.getElem?_eq_getElem h] at h1
         cases h1
       · exact h
      exact HFIND.out i un uq HRI.out HSB.out.symm W (below_step hBr.out hb) ⟨(hK.2 PB (blk_lt HPL.out) (Ne.symm hrP) (by simp)).trans HPL.out,HPP.out.hm.same ((hK.2 fm (by omega) (by omega) (by simp)).trans ((HKL.out fm (by omega) (by omega)).trans (K3 fm hfl hfP HPP.out.ne)))⟩⟩
     go_wp2_with (first|(go_at_call 42;go_loud (refine (HII.out _ (hG.below (below_alloc hBr.out _))).mono ?_;rintro e w4 ⟨he4,hb4⟩;obtain rfl:e= .returned (.tuple #[.agg #[.string un,.bool uq,.string ⟨#[]⟩],.bool true]):=he4;have HB4:=z0 (below_step (below_alloc (Below.refl wr.heap.size wr) _) hb4);clear hb4))|(go_at_call 43;go_loud (refine (H43.out _ (below_alloc HB4.out _)).mono ?_;rintro e w5 ⟨rfl,hb5⟩;have hU5:=(hb5.block w4.heap.size (by simp)).trans (blk_new w4 (Obj.cells #[Value.string un,Value.bool uq,Value.string ⟨#[]⟩] 34));have v0:w5.cell? ⟨w4.heap.size,0,none⟩=some (.string un):=(by have:=cell_of_row _ w4.heap.size 0 _ _ _ hU5;simpa using this);have v1:w5.cell? ⟨w4.heap.size,1,none⟩=some (.bool uq):=(by have:=cell_of_row _ w4.heap.size 1 _ _ _ hU5;simpa using this);have v2:w5.cell? ⟨w4.heap.size,2,none⟩=some (.string ⟨#[]⟩):=(by have:=cell_of_row _ w4.heap.size 2 _ _ _ hU5;simpa using this);have HU5:=z0 hU5;have HB5:=z0 (below_step (below_alloc HB4.out _) hb5);clear hb5 hU5))|(go_at_call 44;go_loud (refine (HF44.out _ HB5.out).mono ?_;rintro e w6 ⟨rfl,hb6⟩;have hU6:=(hb6.block _ (blk_lt HU5.out)).trans HU5.out;have z2:w6.cell? ⟨w4.heap.size,2,none⟩=some (.string ⟨#[]⟩):=(by have:=cell_of_row _ w4.heap.size 2 _ _ _ hU6;simpa using this);have z3:=blk_frozen hU6 2;have HU6:=z0 hU6;have HB6:=z0 (below_step HB5.out hb6);clear hb6 hU6)))
     obtain ⟨U,hUe⟩:∃U,U=w4.heap.size:=⟨_,rfl⟩
     rw [←hUe]
     obtain ⟨W7,hW7⟩:∃W7,W7=w6.setCell ⟨U,2,none⟩ (Value.string (files i)):=⟨_,rfl⟩
     rw [←hW7]
     have hrbw:=blk_lt hRr.out
     have hwU:wr.heap.size≤U:=by have:=HB4.out.size;omega
     have hUr:U≠rb:=by omega
     have hU7:W7.heap[U]? =some (.cells #[Value.string un,Value.bool uq,Value.string (files i)] 34 (0,0)):=by rw [hW7];exact blk_put (by rw [hUe];exact HU6.out) 2 _ rfl
     have hB7:Below wr.heap.size wr W7:=by rw [hW7];exact below_set HB6.out hwU
     have hR7:W7.heap[rb]? =some (.cells #[Value.slice (some ad) ys.length c8,vu,Value.int .i64 0] 54 (0,0)):=(hB7.block _ hrbw).trans hRr.out
     obtain ⟨Au,cu,rfl⟩:=Kd.R_slice hU.out
     have hO7:Aside0 (Kd.R kUs 34 W7.drew WL.heap.size (fun _=>True) (.slice Au us0.length cu) us0):=⟨Kd.R_drew (Kd.R_below hU.out hB7)⟩
     have HWU:=z0 hwU
     have HB7:=z0 hB7
     have HR7:=z0 hR7
     have hul:us0.length≤1000000:=by rw [hus0.out];have:=usF_len incs files ggs i;omega
     have HUL:=z0 hul
     have HSZ7:Aside0 (WL.heap.size≤W7.drew.heap.size):=⟨by have h1:=hKr.out.1;have h2:=HB7.out.size;show WL.heap.size≤W7.heap.size;omega⟩
     have b1:W7.drew.cell? ⟨rb,1,none⟩=some (.slice Au us0.length cu):=by have:=cell_of_row _ rb 1 _ _ _ (blk_drew hR7);simpa using this
     have b2:W7.drew.cell? ⟨U,0,none⟩=some (.string un):=by have:=cell_of_row _ U 0 _ _ _ (blk_drew hU7);simpa using this
     have b3:W7.drew.cell? ⟨U,1,none⟩=some (.bool uq):=by have:=cell_of_row _ U 1 _ _ _ (blk_drew hU7);simpa using this
     have b4:W7.drew.cell? ⟨U,2,none⟩=some (.string (files i)):=by have:=cell_of_row _ U 2 _ _ _ (blk_drew hU7);simpa using this
     have b5:(W7.alloc (Obj.cells #[Value.string un,Value.bool uq,Value.string (files i)] 34)).cell? ⟨rb,1,none⟩=some (.slice Au us0.length cu):=by have:=cell_of_row _ rb 1 _ _ _ (blk_alloc hR7 (Obj.cells #[Value.string un,Value.bool uq,Value.string (files i)] 34));simpa using this
     have HCF:Aside0 (∀w9,World.grownBy W7.drew w9 (Value.slice Au us0.length cu).ownBlock→w9.heap[rb]? =some (.cells #[Value.slice (some ad) ys.length c8,.slice Au us0.length cu,Value.int .i64 0] 54 (0,0))):=⟨fun w9 hg=>(hg.block rb (blk_lt hR7) (Kd.R_ne hO7.out (blk_drew hR7) (by decide))).trans hR7⟩
     clear hUe hW7 hrbw hwU hUr hU7 hB7 hR7 hul z2 z3 v0 v1 v2
     obtain ⟨nu,hnu⟩:∃nu,nu=us0.length:=⟨_,rfl⟩
     rw [←hnu] at b1 b5
     have HNU:=z0 hnu
     clear hnu
     go_wp2
     refine Code.wp_mono (normalOnly_imp _) ?_
     go_region_law ((first|refine Kd.R_append_step kUs (w0:=W7.drew) (W:=W7.drew) WL.heap.size (by rfl) (.tmp 113) (.tmp 115) 25 34 (.agg #[(.string ⟨#[]⟩),(.bool false),(.string ⟨#[]⟩)]) 40 ?aH Tryz.underlying25 (by kernel_rfl) rfl (by decide) (by omega) (.slice Au nu cu) us0 (un,uq,files i) [.string un,.bool uq,.string (files i)] (fun _=>True) (fun _=>False) ?aV ?aX ⟨_,_,rfl,rfl,⟨_,_,rfl,rfl,rfl⟩⟩ (fun _ h=>h.elim) (fun _ _=>trivial) ?aO (Below.refl _ _) ?aS ?aL ?_);(case aH=>rfl);(case aV=>rfl);(case aX=>rfl);(case aO=>rw [HNU.out];exact hO7.out);(case aS=>exact HSZ7.out);(case aL=>have:=HUL.out;show (us0.length+1)*40≤_;omega);intro v9 w9 ho hb hg hat;obtain ⟨A9,c9,rfl⟩:=Kd.R_slice ho;have hc9:=HCF.out w9 (by rw [←HNU.out];exact hg);have r0:w9.cell? ⟨rb,1,none⟩=some (.slice Au nu cu):=(by have:=cell_of_row _ rb 1 _ _ _ hc9;rw [←HNU.out] at this;simpa using this);have r1:=blk_frozen hc9 1;have HC9:=z0 hc9;have HO9:=z0 ho;have HB9:=z0 hb;clear hc9 ho hb hg hat)
     all_goals (try unfold normalOnly)
     all_goals (try dsimp only)
     all_goals
      obtain ⟨W8,hW8⟩:∃W8,W8=w9.setCell ⟨rb,1,none⟩ (Value.slice A9 (us0.length+1) c9):=⟨_,rfl⟩
      rw [←hW8]
      have hR8:W8.heap[rb]? =some (.cells #[Value.slice (some ad) ys.length c8,Value.slice A9 (us0.length+1) c9,Value.int .i64 0] 54 (0,0)):=by rw [hW8];exact blk_put HC9.out 1 _ rfl
      have hO8:Kd.R kUs 34 W8 WL.heap.size (fun _=>True) (.slice A9 (us0.length+1) c9) (us0++[(un,uq,files i)]):=by rw [hW8];have:=HO9.out;rw [List.length_append,List.length_singleton] at this;exact Kd.R_set this HC9.out (by decide) 1 _
      have hK8:KeepBut WL W8 rb none:=by
       have h7:=KeepBut.trans hKr.out (KeepBut.of_below HB7.out rb none) (.inl rfl)
       refine ⟨by rw [hW8];have h1:=h7.1;have h2:=HB9.out.size;simp;exact Nat.le_trans h1 h2,fun k h1 h2 h3=> ?_⟩
       rw [hW8]
       exact (Below.heap_setCell _ ⟨rb,1,none⟩ _ k h2).trans ((HB9.out.block k h1).trans (h7.2 k h1 h2 h3))
      have hB8:Below w0.heap.size w0 W8:=by
       have h0:=HBL.out.size
       have hw0:=HK9.out.2.2.1
       have h9:Below w0.heap.size W7.drew w9:=⟨HB9.out.os,HB9.out.tape,HB9.out.output,HB9.out.size,fun k hk=>HB9.out.block k (by omega)⟩
       rw [hW8]
       exact ((below_drew1 (below_step hBr.out HB7.out)).trans h9).setCell hw0 _
      have HZ:=z0 (And.intro hR8 (And.intro hO8 (And.intro hK8 hB8)))
      clear hW8 hR8 hO8 hK8 hB8 r0 r1
      go_wp2
      go_roundg g1
      case measure=>omega
      case rel=>exact ⟨i+1,_,_,by (try simp),⟨by rw [HUS.out,←hus0.out];simp⟩,⟨by omega⟩,⟨HZ.out.1⟩,⟨HZ.out.2.1⟩,⟨HZ.out.2.2.1⟩,⟨HZ.out.2.2.2⟩⟩
end Go.Proofs.YtolaiebjmhieiaaGreatDoor.OScan
end
section
namespace Go.Proofs.YtolaiebjmhieiaaGreatDoor.OScan
open Go.RowKit YtolaiebjmhieiaaGreatDoorW.PrintWords YtolaiebjmhieiaaGreatDoorW.PrintLast YtolaiebjmhieiaaGreatDoorW.PrintMore
theorem index_tot (xs:List ByteArray)(a:ByteArray)(hl:xs.length≤1000000):∀(d k:Nat) (i:Int),0≤i→i≤xs.length→(xs.length:Int)-i≤d→d<k→∃r,OCond.slices_Index_string_string.l0 k xs a (xs.length:Int) i=some r∧ -1≤r∧r<xs.length∧(0≤r→r.toNat<xs.length∧a.toList=(rdOf ByteArray.empty xs r).toList)∧(r<0→∀j:Int,i≤j→j<xs.length→a.toList≠(rdOf ByteArray.empty xs j).toList)
 |d,0,i,_,_,_,hk=>by omega
 |d,k+1,i,h0,h1,hd,hk=>by
  rw [OCond.slices_Index_string_string.l0]
  by_cases h:i<(xs.length:Int)
  · rw [if_pos h,if_pos h0,if_pos h]
    by_cases he:a.toList=(rdOf ByteArray.empty xs i).toList
    · rw [if_pos he]
      exact ⟨i,rfl,by omega,h,fun _=>⟨by omega,he⟩,fun h=>by omega⟩
    · rw [if_neg he,wr (by omega) (by omega)]
      cases d with
      |zero=>omega
      |succ d=>
       obtain ⟨r,hr,q1,q2,q3,q4⟩:=index_tot xs a hl d k (i+1) (by omega) (by omega) (by omega) (by omega)
       refine ⟨r,hr,q1,q2,q3,fun hr0 j hj hj2=> ?_⟩
       by_cases hji:j=i
       · rw [hji];exact he
       · exact q4 hr0 j (by omega) hj2
  · rw [if_neg h]
    exact ⟨-1,rfl,by omega,by omega,fun h=>by omega,fun _ j hj hj2=>by omega⟩
theorem contains_tot (xs:List ByteArray)(a:ByteArray)(k:Nat)(hl:xs.length≤1000000)(hk:xs.length<k):∃b,OCond.slices_Contains_string_string.f k xs a=some b∧(b=true↔a∈xs):=by
 obtain ⟨r,hr,q1,q2,q3,q4⟩:=index_tot xs a hl xs.length k 0 (by omega) (by omega) (by omega) hk
 refine ⟨decide (r≥0),?_,?_⟩
 · unfold OCond.slices_Contains_string_string.f OCond.slices_Index_string_string.f
   rw [hr];rfl
 · have hrd:∀j:Int,rdOf ByteArray.empty xs j=xs.getD j.toNat ByteArray.empty:=fun j=>rfl
   have hinj:∀x y:ByteArray,x.toList=y.toList→x=y:=fun x y h=>by
    rw [ByteArray.toList_eq,ByteArray.toList_eq] at h
    exact Go.WideShapes.bytes_inj h
   rw [decide_eq_true_iff]
   constructor
   · intro h
     obtain ⟨h1,h2⟩:=q3 h
     have:=hinj _ _ h2
     rw [this,hrd,List.getD_eq_getElem?_getD,List.getElem?_eq_getElem h1]
     exact List.getElem_mem h1
   · intro h
     obtain ⟨j,hj,he⟩:=List.getElem_of_mem h
     rcases Int.lt_or_le r 0 with hr0|hr0
     · refine absurd ?_ (q4 hr0 j (by omega) (by omega))
       rw [hrd,List.getD_eq_getElem?_getD,show ((j:Int)).toNat=j from rfl,List.getElem?_eq_getElem hj,←he];rfl
     · exact hr0
theorem toS95_rd (r:List Tk)(h:1≤r.length):∃t:Tk,r[0]? =some t∧OCond.rd_T95 (r.map OCond.toS95) 0=OCond.toS95 t:=by
 cases r with
 |nil=>simp at h
 |cons t r=>exact ⟨t,rfl,rfl⟩
theorem Words_tot (t:Tk)(h7:t.1=7)(hs:t.2.2.1.size≤190000):∃(r:List Tk) (er:Int),OCond.cond_Words.f t.1 t.2.1 t.2.2.1 t.2.2.2=some (r.map OCond.toS95,er)∧r.length≤t.2.2.1.size+1∧∀u:Tk,r[0]? =some u→u.2.2.1=⟨#[35]⟩∨((0:Int)≤u.2.2.2∧u.2.2.2+(u.2.2.1.size:Int)+1≤(t.2.2.1.size:Int)):=by
 unfold OCond.cond_Words.f
 rw [if_pos h7]
 have hp:=hasP_f t.2.2.1 35
 rw [hp,Option.bind_some]
 by_cases hh:hasP t.2.2.1 35=true
 · have h1:=hasP_size hh
   rw [if_pos hh,if_pos (by omega)]
   have hsz:(t.2.2.1.extract 1 t.2.2.1.size).size=t.2.2.1.size-1:=by rw [ByteArray.size_extract];omega
   obtain ⟨r,hr,hrl,hf⟩:=words_tot ((t.2.2.1.extract 1 t.2.2.1.size).size+2) (t.2.2.1.extract 1 t.2.2.1.size) 0 (by omega) (by omega)
   refine ⟨r,0,?_,by omega,fun u hu=> ?_⟩
   · unfold OCond.cond_words.f
     rw [if_pos (by omega),hr];rfl
   · rcases hf rfl u hu with h|⟨h2,h3⟩
     · exact .inl h
     · exact .inr ⟨h2,by omega⟩
 · rw [if_neg hh]
   exact ⟨[],3,rfl,by simp,fun u hu=>by simp at hu⟩
theorem other_ne:(⟨#[111,116,104,101,114]⟩:ByteArray).toList≠incL:=by rw [ByteArray.toList_eq];decide
theorem empty_ne:(⟨#[]⟩:ByteArray).toList≠incL:=by rw [ByteArray.toList_eq];decide
theorem Kind_tot (t:Tk)(hs:t.2.2.1.size≤190000):∃kd,OCond.cond_Kind.f 20 t.1 t.2.1 t.2.2.1 t.2.2.2=some kd∧(kd.toList=incL→∃(ws:List OCond.S95) (er a:Int),OCond.cond_Words.f t.1 t.2.1 t.2.2.1 t.2.2.2=some (ws,er)∧1≤ws.length∧(OCond.rd_T95 ws 0).f3=a∧0≤a∧a+8≤t.2.2.1.size):=by
 by_cases h7:t.1=7
 · obtain ⟨r,er,hW,hrl,hf⟩:=Words_tot t h7 hs
   unfold OCond.cond_Kind.f
   rw [if_pos h7,hW,Option.bind_some]
   simp only
   by_cases hl:1≤r.length
   · have hl2:((r.map OCond.toS95).length:Int)>0:=by rw [List.length_map];omega
     rw [if_pos hl2,if_pos hl2]
     obtain ⟨u,hu,hrd⟩:=toS95_rd r hl
     rw [hrd]
     obtain ⟨b,hb,hbb⟩:=contains_tot ([(⟨#[105,102]⟩:ByteArray),(⟨#[105,102,100,101,102]⟩:ByteArray),(⟨#[105,102,110,100,101,102]⟩:ByteArray),(⟨#[101,108,105,102]⟩:ByteArray),(⟨#[101,108,115,101]⟩:ByteArray),(⟨#[101,110,100,105,102]⟩:ByteArray),(⟨#[100,101,102,105,110,101]⟩:ByteArray),(⟨#[117,110,100,101,102]⟩:ByteArray),(⟨#[105,110,99,108,117,100,101]⟩:ByteArray)]:List ByteArray) (OCond.toS95 u).f2 20 (by decide) (by decide)
     rw [hb,Option.bind_some]
     by_cases hbt:b=true
     · rw [if_pos hbt]
       refine ⟨_,rfl,fun hi=>⟨_,er,(OCond.toS95 u).f3,rfl,by rw [List.length_map];exact hl,by rw [hrd],?_⟩⟩
       have hi':u.2.2.1.toList=incL:=hi
       have hsz:u.2.2.1.size=7:=by rw [←data_length,←ByteArray.toList_eq,hi'];rfl
       rcases hf u hu with h|⟨h1,h2⟩
       · rw [h] at hsz;exact absurd hsz (by decide)
       · exact ⟨h1,by show u.2.2.2+8≤_;omega⟩
     · rw [if_neg hbt]
       exact ⟨_,rfl,fun h=>absurd h other_ne⟩
   · have hl2:¬((r.map OCond.toS95).length:Int)>0:=by rw [List.length_map];omega
     rw [if_neg hl2]
     exact ⟨_,rfl,fun h=>absurd h other_ne⟩
 · unfold OCond.cond_Kind.f
   rw [if_neg h7]
   exact ⟨_,rfl,fun h=>absurd h empty_ne⟩
theorem lastIdx_l0 (s:ByteArray)(c:Int)(hs:s.size≤4611686018427387904):∀(d k:Nat) (x:Int), -1≤x→x<s.size→x+1≤d→d<k→∃t,OJoin.bytealg_LastIndexByteString.l0 k s c x=some t∧ -1≤t∧t<(s.size:Int)∨(s.size=0∧OJoin.bytealg_LastIndexByteString.l0 k s c x=some (-1))
 |d,0,x,_,_,_,hk=>by omega
 |d,k+1,x,h0,h1,hd,hk=>by
  rw [OJoin.bytealg_LastIndexByteString.l0]
  by_cases h:x≥0
  · rw [if_pos h,if_pos h,if_pos h1]
    by_cases hb:bt s x=c
    · rw [if_pos hb];exact ⟨x,.inl ⟨rfl,by omega,h1⟩⟩
    · rw [if_neg hb,wr (by omega) (by omega)]
      cases d with
      |zero=>omega
      |succ d=>exact lastIdx_l0 s c hs d k (x-1) (by omega) (by omega) (by omega) (by omega)
  · rw [if_neg h]
    exact ⟨-1,.inl ⟨rfl,by omega,by omega⟩⟩
theorem lastIdx_tot (s:ByteArray)(c:Int)(hs:s.size≤4611686018427387904)(k:Nat)(hk:s.size<k):∃t,OJoin.strings_LastIndexByte.f k s c=some t∧ -1≤t∧t<max 1 (s.size:Int)∧(s.size=0→t= -1):=by
 unfold OJoin.strings_LastIndexByte.f OJoin.bytealg_LastIndexByteString.f
 rw [wr (by omega) (by omega)]
 by_cases h0:s.size=0
 · cases k with
   |zero=>omega
   |succ k=>
    rw [OJoin.bytealg_LastIndexByteString.l0,if_neg (by omega)]
    exact ⟨-1,rfl,by omega,by omega,fun _=>rfl⟩
 · obtain ⟨t,h|h⟩:=lastIdx_l0 s c hs s.size k ((s.size:Int)-1) (by omega) (by omega) (by omega) hk
   · rw [h.1];exact ⟨t,rfl,h.2.1,by omega,fun h=>absurd h h0⟩
   · exact absurd h.1 h0
theorem cutPrefix_tot (a p:ByteArray):∃r b,OJoin.strings_CutPrefix.f a p=some (r,b)∧(b=true→r.size+p.size=a.size)∧(b=false→r=a):=by
 unfold OJoin.strings_CutPrefix.f OJoin.stringslite_CutPrefix.f OJoin.stringslite_HasPrefix.f
 by_cases h:(a.size:Int)≥(p.size:Int)
 · rw [if_pos h,if_pos (by omega),if_pos h]
   simp only [Option.bind_some]
   by_cases hb:((a.extract 0 ((p.size:Int):Int).toNat).toList==p.toList)=true
   · rw [if_pos hb,if_pos (by omega),if_pos h]
     exact ⟨_,true,rfl,fun _=>by rw [ByteArray.size_extract];omega,fun h=>absurd h (by decide)⟩
   · rw [if_neg hb]
     exact ⟨_,false,rfl,(fun h=>absurd h (by decide)),fun _=>rfl⟩
 · rw [if_neg h]
   exact ⟨_,false,rfl,(fun h=>absurd h (by decide)),fun _=>rfl⟩
theorem joined_l0:∀(e k:Nat) (d n:ByteArray),n.size≤e→n.size≤1000000→d.size≤140737488355328→e+d.size+2<k→∃r,OJoin.head_joined.l0 k d n=some r
 |e,0,d,n,_,_,_,hk=>by omega
 |e,k+1,d,n,he,hn,hd,hk=>by
  rw [OJoin.head_joined.l0]
  obtain ⟨r1,b1,h1,p1,_⟩:=cutPrefix_tot n ⟨#[46,47]⟩
  have z1:(⟨#[46,47]⟩:ByteArray).size=2:=rfl
  rw [h1,Option.bind_some]
  simp only
  by_cases hb1:b1=true
  · rw [if_pos hb1]
    have:=p1 hb1
    cases e with
    |zero=>omega
    |succ e=>exact joined_l0 e k d r1 (by omega) (by omega) hd (by omega)
  · rw [if_neg hb1]
    obtain ⟨r2,b2,h2,p2,_⟩:=cutPrefix_tot n ⟨#[46,46,47]⟩
    have z2:(⟨#[46,46,47]⟩:ByteArray).size=3:=rfl
    rw [h2,Option.bind_some]
    simp only
    by_cases hb2:b2=true
    · rw [if_pos hb2]
      have:=p2 hb2
      by_cases hx:d.toList=([]:List UInt8)
      · rw [if_pos hx];exact ⟨_,rfl⟩
      · rw [if_neg hx]
        have hds:d.size≠0:=fun h=>hx (by rw [ByteArray.toList_eq];exact List.eq_nil_of_length_eq_zero (by rw [data_length];exact h))
        obtain ⟨t,ht,t1,t2,_⟩:=lastIdx_tot d 47 (by omega) k (by omega)
        rw [ht,Option.bind_some]
        have hm0:(0:Int)≤mx 0 t:=by unfold mx;split<;>omega
        have hm1:mx 0 t≤(d.size:Int):=by unfold mx;split<;>omega
        rw [if_pos hm0,if_pos hm1]
        cases e with
        |zero=>omega
        |succ e=>exact joined_l0 e k _ r2 (by omega) (by omega) (by rw [ByteArray.size_extract];omega) (by rw [ByteArray.size_extract];omega)
    · rw [if_neg hb2]
      by_cases hx:d.toList=([]:List UInt8)
      · rw [if_pos hx];exact ⟨_,rfl⟩
      · rw [if_neg hx,if_pos (by omega),if_pos (by rw [ByteArray.size_append];have:(⟨#[47]⟩:ByteArray).size=1:=rfl;omega)]
        exact ⟨_,rfl⟩
def joinR (d n:ByteArray):ByteArray × Bool:=(OJoin.head_joined.f (d.size+n.size+5) d n).getD (⟨#[]⟩,false)
theorem joinR_of (d n:ByteArray)(hn:n.size≤1000000)(hd:d.size≤140737488355328):JoinOf d n (joinR d n):=by
 obtain ⟨r,hr⟩:=joined_l0 n.size (d.size+n.size+5) d n (Nat.le_refl _) hn hd (by omega)
 refine ⟨d.size+n.size+5,?_⟩
 unfold joinR OJoin.head_joined.f
 rw [hr];rfl
def ldR (s:ByteArray):Int:=(OJoin.strings_LastIndexByte.f (s.size+2) s 47).getD (-1)
theorem ldR_of (s:ByteArray)(hs:s.size≤1000000):OJoin.strings_LastIndexByte.f (s.size+2) s 47=some (ldR s)∧ -1≤ldR s∧ldR s<s.size:=by
 obtain ⟨t,ht,t1,t2,t3⟩:=lastIdx_tot s 47 (by omega) (s.size+2) (by omega)
 unfold ldR
 rw [ht]
 refine ⟨rfl,t1,?_⟩
 show t<s.size
 rcases Nat.eq_zero_or_pos s.size with h|h
 · have:=t3 h;omega
 · omega
def dirsR (ps:List ByteArray)(from_:ByteArray)(q:Bool):List ByteArray:=if q=true then from_.extract 0 (max 0 (ldR from_)).toNat::ps else ps
def findR (m:AL)(ps:List ByteArray)(from_ n:ByteArray)(q:Bool):ByteArray:=findGo m ((dirsR ps from_ q).map fun d=>joinR d n)
theorem findGo_in (m:AL):∀js,findGo m js=⟨#[]⟩∨(alGet m (findGo m js)).isSome=true
 |[]=> .inl rfl
 |j::js=>by
  unfold findGo
  split
  · rename_i h;exact .inr h.2
  · exact findGo_in m js
end Go.Proofs.YtolaiebjmhieiaaGreatDoor.OScan
end
section
namespace Go.Proofs.YtolaiebjmhieiaaGreatDoor.Graph
section
variable {α:Type}(er:α→Int)(us:α→List α)
inductive Reach:α→α→Prop
 |refl (a:α):Reach a a
 |step {a b c:α}:b∈us a→Reach b c→Reach a c
theorem Reach.trans {a b c:α}(h:Reach us a b)(k:Reach us b c):Reach us a c:=by
 induction h with
 |refl=>exact k
 |step hb _ ih=>exact .step hb (ih k)
theorem Reach.snoc {a b c:α}(h:Reach us a b)(k:c∈us b):Reach us a c:=h.trans us (.step k (.refl c))
mutual
inductive Walk:α→List α→List α→Int→List α→List α→Prop
 |met {n:α} {met out:List α}:n∈met→Walk n met out 0 met out
 |bad {n:α} {met out:List α}:n∉met→er n≠0→Walk n met out (er n) (n::met) out
 |go {n:α} {met out met' out':List α} {e:Int}:n∉met→er n=0→Walks (us n) (n::met) out e met' out'→Walk n met out e met' (out'++[n])
inductive Walks:List α→List α→List α→Int→List α→List α→Prop
 |nil {met out:List α}:Walks [] met out 0 met out
 |err {n:α} {ns met out met' out':List α} {e:Int}:Walk n met out e met' out'→e≠0→Walks (n::ns) met out e met' out'
 |cons {n:α} {ns met out met' out' met'' out'':List α} {e:Int}:Walk n met out 0 met' out'→Walks ns met' out' e met'' out''→Walks (n::ns) met out e met'' out''
end
def Good (out:List α):Prop:=∀a x b,out=a++x::b→∀y∈us x,y∈a∨y=x∨Reach us y x
theorem Good.snoc {out:List α}{n:α}(h:Good us out)(k:∀y∈us n,y∈out∨y=n∨Reach us y n):Good us (out++[n]):=by
 intro a x b e y hy
 rcases List.eq_nil_or_concat b with rfl|⟨b',z,rfl⟩
 · have:=List.append_inj' e (by simp)
   obtain ⟨rfl,h2⟩:=this
   obtain rfl:n=x:=by simpa using h2
   exact k y hy
 · have e':out++[n]=(a++x::b')++[z]:=by rw [e];simp
   obtain ⟨rfl,_⟩:=List.append_inj' e' (by simp)
   exact h a x b' rfl y hy
structure Kept (root:α)(met out met' out':List α):Prop where
 sub:∀x∈met,x∈met'
 grow:∀x∈out,x∈out'
 om:∀x∈out',x∈met'
 nd:out'.Nodup
 stack:∀x∈met',x∈out'∨(x∈met∧x∉out)
 good:Good us out'
 erz:∀x∈out',er x=0
 reach:∀x∈out',Reach us root x
 closed:∀x∈out',∀y∈us x,y∈met'
 fresh:∀x∈out',x∈out∨x∉met
structure Pre (root n:α)(met out:List α):Prop where
 om:∀x∈out,x∈met
 nd:out.Nodup
 anc:∀x∈met,x∉out→Reach us x n
 good:Good us out
 erz:∀x∈out,er x=0
 reach:∀x∈out,Reach us root x
 root:Reach us root n
 closed:∀x∈out,∀y∈us x,y∈met
theorem walk_kept (root:α):(∀(n:α) (met out:List α) (e:Int) (met' out':List α),Walk er us n met out e met' out'→e=0→Pre er us root n met out→Kept er us root met out met' out'∧n∈met'∧(n∉met→∃o,out'=o++[n])):=by
 intro n met out e met' out' h
 refine Walk.rec (motive_1:=fun n met out e met' out' _=>e=0→Pre er us root n met out→Kept er us root met out met' out'∧n∈met'∧(n∉met→∃o,out'=o++[n]))
  (motive_2:=fun ns met out e met' out' _=>e=0→∀p,(∀n∈ns,n∈us p)→p∈met→p∉out→Pre er us root p met out→Kept er us root met out met' out'∧∀n∈ns,n∈met') ?_ ?_ ?_ ?_ ?_ ?_ h
 · intro n met out hn _ P
   exact ⟨⟨fun _ h=>h,fun _ h=>h,P.om,P.nd,fun x hx=>by by_cases h:x∈out;exact .inl h;exact .inr ⟨hx,h⟩,P.good,P.erz,P.reach,P.closed,fun _ h=> .inl h⟩,hn,fun h=>absurd hn h⟩
 · intro n met out _ he h0
   exact absurd h0 he
 · intro n met out met' out' e hn he hw ih h0 P
   have hno:n∉out:=fun h=>hn (P.om n h)
   have P':Pre er us root n (n::met) out:=⟨fun x hx=>List.mem_cons_of_mem _ (P.om x hx),P.nd,fun x hx hxo=>by
    rcases List.mem_cons.1 hx with rfl|hx
    · exact .refl _
    · exact P.anc x hx hxo,P.good,P.erz,P.reach,P.root,fun x hx y hy=>List.mem_cons_of_mem _ (P.closed x hx y hy)⟩
   obtain ⟨K,hall⟩:=ih h0 n (fun _ h=>h) (List.mem_cons_self ..) hno P'
   have hnm:n∈met':=K.sub n (List.mem_cons_self ..)
   have hno':n∉out':=by
    intro hc
    rcases K.fresh n hc with h|h
    · exact hno h
    · exact h (List.mem_cons_self ..)
   refine ⟨⟨fun x hx=>K.sub x (List.mem_cons_of_mem _ hx),fun x hx=>List.mem_append_left _ (K.grow x hx),?_,?_,?_,?_,?_,?_,?_,?_⟩,hnm,fun _=>⟨_,rfl⟩⟩
   · intro x hx
     rcases List.mem_append.1 hx with hx|hx
     · exact K.om x hx
     · obtain rfl:x=n:=by simpa using hx
       exact hnm
   · rw [List.nodup_append]
     exact ⟨K.nd,by simp,fun a ha b hb=>by
      obtain rfl:b=n:=by simpa using hb
      exact fun h=>hno' (h▸ha)⟩
   · intro x hx
     rcases K.stack x hx with h|⟨h1,h2⟩
     · exact .inl (List.mem_append_left _ h)
     · rcases List.mem_cons.1 h1 with rfl|h1
       · exact .inl (by simp)
       · exact .inr ⟨h1,h2⟩
   · refine Good.snoc us K.good fun y hy=> ?_
     rcases K.stack y (hall y hy) with h|⟨h1,h2⟩
     · exact .inl h
     · rcases List.mem_cons.1 h1 with rfl|h1
       · exact .inr (.inl rfl)
       · exact .inr (.inr (P.anc y h1 h2))
   · intro x hx
     rcases List.mem_append.1 hx with hx|hx
     · exact K.erz x hx
     · obtain rfl:x=n:=by simpa using hx
       exact he
   · intro x hx
     rcases List.mem_append.1 hx with hx|hx
     · exact K.reach x hx
     · obtain rfl:x=n:=by simpa using hx
       exact P.root
   · intro x hx y hy
     rcases List.mem_append.1 hx with hx|hx
     · exact K.closed x hx y hy
     · obtain rfl:x=n:=by simpa using hx
       exact hall y hy
   · intro x hx
     rcases List.mem_append.1 hx with hx|hx
     · rcases K.fresh x hx with h|h
       · exact .inl h
       · exact .inr fun hm=>h (List.mem_cons_of_mem _ hm)
     · obtain rfl:x=n:=by simpa using hx
       exact .inr hn
 · intro met out _ p _ _ _ P
   exact ⟨⟨fun _ h=>h,fun _ h=>h,P.om,P.nd,fun x hx=>by by_cases h:x∈out;exact .inl h;exact .inr ⟨hx,h⟩,P.good,P.erz,P.reach,P.closed,fun _ h=> .inl h⟩,fun n hn=>absurd hn (by simp)⟩
 · intro n ns met out met' out' e hw he _ h0
   exact absurd h0 he
 · intro n ns met out met' out' met'' out'' e hw hws ih1 ih2 h0 p hp hpm hpo P
   have hnp:n∈us p:=hp n (List.mem_cons_self ..)
   obtain ⟨K1,hn1,_⟩:=ih1 rfl ⟨P.om,P.nd,fun x h1 h2=>(P.anc x h1 h2).snoc us hnp,P.good,P.erz,P.reach,P.root.snoc us hnp,P.closed⟩
   have hpo':p∉out':=fun hc=>by
    rcases K1.fresh p hc with h|h
    · exact hpo h
    · exact h hpm
   obtain ⟨K2,hall⟩:=ih2 h0 p (fun x hx=>hp x (List.mem_cons_of_mem _ hx)) (K1.sub p hpm) hpo' ⟨K1.om,K1.nd,fun x h1 h2=>by
    rcases K1.stack x h1 with h|⟨h3,h4⟩
    · exact absurd h h2
    · exact P.anc x h3 h4,K1.good,K1.erz,K1.reach,P.root,K1.closed⟩
   refine ⟨⟨fun x hx=>K2.sub x (K1.sub x hx),fun x hx=>K2.grow x (K1.grow x hx),K2.om,K2.nd,fun x hx=> ?_,K2.good,K2.erz,K2.reach,K2.closed,fun x hx=> ?_⟩,fun x hx=> ?_⟩
   · rcases K2.stack x hx with h|⟨h1,h2⟩
     · exact .inl h
     · rcases K1.stack x h1 with h|h
       · exact absurd h h2
       · exact .inr h
   · rcases K2.fresh x hx with h|h
     · exact K1.fresh x h
     · exact .inr fun hm=>h (K1.sub x hm)
   · rcases List.mem_cons.1 hx with rfl|hx
     · exact K2.sub _ hn1
     · exact hall x hx
structure Found (root:α)(out:List α):Prop where
 nd:out.Nodup
 last:∃o,out=o++[root]
 good:Good us out
 erz:∀x∈out,er x=0
 mem:∀x,x∈out↔Reach us root x
theorem found_of_walk {root:α}{met out:List α}(h:Walk er us root [] [] 0 met out):Found er us root out:=by
 obtain ⟨K,h1,h2⟩:=walk_kept er us root root [] [] 0 met out h rfl ⟨by simp,by simp,by simp,by
  intro a x b e
  simp at e,by simp,by simp,.refl _,by simp⟩
 have hc:∀x∈out,∀y∈us x,y∈out:=fun x hx y hy=>by
  rcases K.stack y (K.closed x hx y hy) with h|h
  · exact h
  · simp at h
 have hl:=h2 (by simp)
 refine ⟨K.nd,hl,K.good,K.erz,fun x=>⟨K.reach x,fun hr=> ?_⟩⟩
 have:∀a b,Reach us a b→a∈out→b∈out:=fun a b hr=>by
  induction hr with
  |refl=>exact id
  |step hb _ ih=>exact fun ha=>ih (hc _ ha _ hb)
 obtain ⟨o,ho⟩:=hl
 exact this root x hr (by rw [ho];simp)
theorem walk_ok {names:List α}(hall:∀x∈names,er x=0)(hus:∀x,∀y∈us x,y∈names):∀(n:α) (met out:List α) (e:Int) (met' out':List α),Walk er us n met out e met' out'→n∈names→e=0:=by
 intro n met out e met' out' h
 refine Walk.rec (motive_1:=fun n met out e met' out' _=>n∈names→e=0) (motive_2:=fun ns met out e met' out' _=>(∀n∈ns,n∈names)→e=0) ?_ ?_ ?_ ?_ ?_ ?_ h
 · intros;rfl
 · intro n met out _ he hm;exact absurd (hall n hm) he
 · intro n met out met' out' e _ _ _ ih _;exact ih fun y hy=>hus _ y hy
 · intros;rfl
 · intro n ns met out met' out' e _ he ih hm;exact absurd (ih (hm n (List.mem_cons_self ..))) he
 · intro n ns met out met' out' met'' out'' e _ _ _ ih hm;exact ih fun y hy=>hm y (List.mem_cons_of_mem _ hy)
open Classical in
noncomputable def left (names met:List α):Nat:=(names.filter fun n=>decide (n∉met)).length
open Classical in
theorem left_mono {names met met':List α}(h:∀x∈met,x∈met'):left names met'≤left names met:=by
 unfold left
 induction names with
 |nil=>simp
 |cons a l ih=>
  by_cases h1:a∈met'
  · by_cases h2:a∈met
    · simp [h1,h2];simpa using ih
    · simp [h1,h2];have:=ih;simp at this;omega
  · have h2:a∉met:=fun hm=>h1 (h a hm)
    simp [h1,h2];simpa using ih
open Classical in
theorem left_cons {names met:List α}{n:α}(hn:n∈names)(hm:n∉met):left names (n::met)+1≤left names met:=by
 unfold left
 induction names with
 |nil=>simp at hn
 |cons a l ih=>
  rcases List.mem_cons.1 hn with rfl|hn
  · have:=left_mono (names:=l) (met:=met) (met':=n::met) (fun x hx=>List.mem_cons_of_mem _ hx)
    unfold left at this
    rw [List.filter_cons_of_neg (by simp),List.filter_cons_of_pos (by simpa using hm)]
    simp only [List.length_cons];omega
  · have:=ih hn
    by_cases h1:a∈met
    · rw [List.filter_cons_of_neg (by simp [h1]),List.filter_cons_of_neg (by simp [h1])];exact this
    · rw [List.filter_cons_of_pos (l:=l) (p:=fun n=>decide (n∉met)) (by simpa using h1)]
      by_cases h2:a=n
      · rw [List.filter_cons_of_neg (by simp [h2])];simp only [List.length_cons];omega
      · rw [List.filter_cons_of_pos (by simp [h1,h2])];simp only [List.length_cons];omega
theorem walk_len {names:List α}(hus:∀x,∀y∈us x,y∈names):∀(n:α) (met out:List α) (e:Int) (met' out':List α),Walk er us n met out e met' out'→n∈names→(∀x∈met,x∈met')∧out'.length+left names met'≤out.length+left names met:=by
 intro n met out e met' out' h
 refine Walk.rec (motive_1:=fun n met out e met' out' _=>n∈names→(∀x∈met,x∈met')∧out'.length+left names met'≤out.length+left names met)
  (motive_2:=fun ns met out e met' out' _=>(∀n∈ns,n∈names)→(∀x∈met,x∈met')∧out'.length+left names met'≤out.length+left names met) ?_ ?_ ?_ ?_ ?_ ?_ h
 · intro n met out _ _;exact ⟨fun _ h=>h,Nat.le_refl _⟩
 · intro n met out hn _ hm
   have:=left_cons hm hn
   exact ⟨fun _ h=>List.mem_cons_of_mem _ h,by omega⟩
 · intro n met out met' out' e hn _ _ ih hm
   obtain ⟨h1,h2⟩:=ih (fun y hy=>hus _ y hy)
   have:=left_cons hm hn
   exact ⟨fun x hx=>h1 x (List.mem_cons_of_mem _ hx),by rw [List.length_append,List.length_singleton];omega⟩
 · intro met out _;exact ⟨fun _ h=>h,Nat.le_refl _⟩
 · intro n ns met out met' out' e _ _ ih hm
   exact ih (hm n (List.mem_cons_self ..))
 · intro n ns met out met' out' met'' out'' e _ _ ih1 ih2 hm
   obtain ⟨h1,h2⟩:=ih1 (hm n (List.mem_cons_self ..))
   obtain ⟨h3,h4⟩:=ih2 fun y hy=>hm y (List.mem_cons_of_mem _ hy)
   exact ⟨fun x hx=>h3 x (h1 x hx),by omega⟩
theorem walks_len {names:List α}(hus:∀x,∀y∈us x,y∈names):∀(ns met out:List α) (e:Int) (met' out':List α),Walks er us ns met out e met' out'→(∀n∈ns,n∈names)→(∀x∈met,x∈met')∧out'.length+left names met'≤out.length+left names met
 |_,_,_,_,_,_,.nil,_=>⟨fun _ h=>h,Nat.le_refl _⟩
 |_,_,_,_,_,_,.err h _,hm=>walk_len er us hus _ _ _ _ _ _ h (hm _ (List.mem_cons_self ..))
 |_,_,_,_,_,_,.cons h k,hm=>by
  obtain ⟨h1,h2⟩:=walk_len er us hus _ _ _ _ _ _ h (hm _ (List.mem_cons_self ..))
  obtain ⟨h3,h4⟩:=walks_len hus _ _ _ _ _ _ k fun y hy=>hm y (List.mem_cons_of_mem _ hy)
  exact ⟨fun x hx=>h3 x (h1 x hx),by omega⟩
end
end Go.Proofs.YtolaiebjmhieiaaGreatDoor.Graph
end
section
namespace Go.Proofs.YtolaiebjmhieiaaGreatDoor.OScan
open Go.RowKit YtolaiebjmhieiaaGreatDoorW.PrintWords YtolaiebjmhieiaaGreatDoorW.PrintLast YtolaiebjmhieiaaGreatDoorW.PrintMore
theorem RdIs.kept {base:Nat}{w w':World}{rb:Nat}{us:List Us}{er:Int}(h:RdIs base w rb us er)(hk:∀(k:Nat) (cs:Array Value),(w.heap[k]? =some (Obj.cells cs 54 (0,0))∨w.heap[k]? =some (Obj.cells cs 34 (0,0)))→w'.heap[k]? =w.heap[k]?):RdIs base w' rb us er:=by
 obtain ⟨h0,vl,vu,h1,h2⟩:=h
 refine ⟨h0,vl,vu,(hk _ _ (.inl h1)).trans h1,Kd.R_mono (Kd.R_step (Kd.R_bound h2) (fun k ho _=> ?_)) (fun _ _=>trivial)⟩
 obtain ⟨_,_,_,q,hq,cs,hc⟩:=ho
 obtain rfl:q=34:=by
  rcases List.mem_cons.1 hq with h|h
  · exact h
  · exact absurd (show q∈([]:List Nat) from h) (by simp)
 exact hk _ _ (.inr hc)
structure PS (us:ByteArray→List Us)(er:ByteArray→Int)(w0:World)(m:AL)(pv:Value)(PB fm cm:Nat)(w:World):Prop where
 below:Below w0.heap.size w0 w
 prj:∃c,PrjIs w0.heap.size w PB fm cm pv m c∧∀n u,alGet c n=some u→∃rb,u= .pointer (some ⟨rb,0,none⟩)∧RdIs w0.heap.size w rb (us n) (er n)
section
variable {us:ByteArray→List Us}{er:ByteArray→Int}{w0:World}{m:AL}{pv:Value}{PB fm cm:Nat}
theorem PS.kept {w w':World}(P:PS us er w0 m pv PB fm cm w)(hb:Below w0.heap.size w0 w')(hk:∀k,(k=PB∨k=fm∨k=cm∨∃cs:Array Value,w.heap[k]? =some (Obj.cells cs 54 (0,0))∨w.heap[k]? =some (Obj.cells cs 34 (0,0)))→w'.heap[k]? =w.heap[k]?):PS us er w0 m pv PB fm cm w':=by
 obtain ⟨c,hP,hc⟩:=P.prj
 refine ⟨hb,c,⟨(hk _ (.inl rfl)).trans hP.hP,hP.hm.same (hk _ (.inr (.inl rfl))),hP.hc.same (hk _ (.inr (.inr (.inl rfl)))),hP.bP,hP.bm,hP.bc,hP.ne⟩,fun n u hu=> ?_⟩
 obtain ⟨rb,e,hr⟩:=hc n u hu
 exact ⟨rb,e,hr.kept fun k cs hc=>hk k (.inr (.inr (.inr ⟨cs,hc⟩)))⟩
theorem PS.step {w w':World}(P:PS us er w0 m pv PB fm cm w)(hb:Below w.heap.size w w'):PS us er w0 m pv PB fm cm w':=by
 obtain ⟨c,hP,hc⟩:=P.prj
 refine P.kept (below_step P.below hb) (fun k hk=>hb.block k ?_)
 rcases hk with rfl|rfl|rfl|⟨cs,h|h⟩
 · exact blk_lt hP.hP
 · exact hP.hm.lt
 · exact hP.hc.lt
 · exact blk_lt h
 · exact blk_lt h
theorem PS.cell_ne {w:World}(P:PS us er w0 m pv PB fm cm w){k t:Nat}{cs:Array Value}(h:w.heap[k]? =some (.cells cs t (0,0)))(ht:t≠87):k≠PB∧k≠fm∧k≠cm:=by
 obtain ⟨c,hP,hc⟩:=P.prj
 refine ⟨?_,?_,?_⟩
 · rintro rfl
   have:=hP.hP
   rw [h] at this
   injection this with this
   injection this with _ h2
   exact ht h2
 · rintro rfl
   obtain ⟨es,cl,h1,_⟩:=hP.hm
   rw [h] at h1
   cases h1
 · rintro rfl
   obtain ⟨es,cl,h1,_⟩:=hP.hc
   rw [h] at h1
   cases h1
end
structure Ids where
 MC:Nat
 PC:Nat
 OC:Nat
 WC:Nat
 mm:Nat
 bA:Nat
def walkV (I:Ids):Value:= .func (.func 52) #[] #[.pointer (some ⟨I.MC,0,none⟩),.pointer (some ⟨I.PC,0,none⟩),.pointer (some ⟨I.OC,0,none⟩),.pointer (some ⟨I.WC,0,none⟩)]
structure WS (us:ByteArray→List Us)(er:ByteArray→Int)(w0:World)(m:AL)(pv:Value)(PB fm cm:Nat)(I:Ids)(w:World)(v:Value)(met out:List ByteArray):Prop where
 ps:PS us er w0 m pv PB fm cm w
 mc:w.heap[I.MC]? =some (.cells #[.map (some I.mm)] 112 (0,0))
 pc:w.heap[I.PC]? =some (.cells #[.pointer (some ⟨PB,0,none⟩)] 47 (0,0))
 oc:w.heap[I.OC]? =some (.cells #[v] 23 (0,0))
 wc:w.heap[I.WC]? =some (.cells #[walkV I] 113 (0,0))
 mm:∃al,MapIs w I.mm al∧∀n,(n∈met→alGet al n=some (.bool true))∧(n∉met→alGet al n=none)
 out:Kd.R Kd.string 9 w I.bA (fun _=>True) v out
 b0:w0.heap.size≤I.bA
 bo:I.bA≤I.OC
 bm:I.bA≤I.mm
 nf:I.mm≠fm
 nc:I.mm≠cm
structure WF (cm:Nat)(I:Ids)(w:World)(v:Value)(w':World)(v':Value):Prop where
 size:w.heap.size≤w'.heap.size
 keep:∀k,k<w.heap.size→k≠cm→k≠I.mm→k≠I.OC→some k≠v.ownBlock→w'.heap[k]? =w.heap[k]?
 at_:v'.ownBlock=v.ownBlock∨∃b,v'.ownBlock=some b∧w.heap.size≤b
theorem WF.of_below {cm:Nat}{I:Ids}{w w':World}{v:Value}(h:Below w.heap.size w w'):WF cm I w v w' v:=⟨h.size,fun k hk _ _ _ _=>h.block k hk,.inl rfl⟩
theorem WF.trans {cm:Nat}{I:Ids}{w w1 w2:World}{v v1 v2:Value}(h:WF cm I w v w1 v1)(k:WF cm I w1 v1 w2 v2):WF cm I w v w2 v2:=by
 refine ⟨Nat.le_trans h.size k.size,fun j hj h1 h2 h3 h4=> ?_,?_⟩
 · have hs:=h.size
   refine (k.keep j (by omega) h1 h2 h3 ?_).trans (h.keep j hj h1 h2 h3 h4)
   rcases h.at_ with e|⟨b,e,hb⟩
   · rw [e];exact h4
   · rw [e];intro e2;injection e2 with e2;omega
 · have hs:=h.size
   rcases k.at_ with e|⟨b,e,hb⟩
   · rw [e];exact h.at_
   · exact .inr ⟨b,e,by omega⟩
section
variable {us:ByteArray→List Us}{er:ByteArray→Int}{w0:World}{m:AL}{pv:Value}{PB fm cm:Nat}{I:Ids}
theorem WS.far {w w':World}{v v':Value}{met out:List ByteArray}(S:WS us er w0 m pv PB fm cm I w v met out)(F:WF cm I w v w' v'){k t:Nat}{cs:Array Value}(h:w.heap[k]? =some (.cells cs t (0,0)))(h1:t≠87)(h2:t≠23)(h3:t≠9):w'.heap[k]? =w.heap[k]? :=by
 have hc:=S.ps.cell_ne h h1
 refine F.keep k (blk_lt h) hc.2.2 ?_ ?_ (Kd.R_ne S.out h (by omega))
 · rintro rfl
   obtain ⟨al,⟨es,cl,h4,_⟩,_⟩:=S.mm
   rw [h] at h4
   cases h4
 · rintro rfl
   have h4:=S.oc
   rw [h] at h4
   injection h4 with h4
   injection h4 with _ h5
   exact h2 h5
theorem WS.step {w w':World}{v:Value}{met out:List ByteArray}(S:WS us er w0 m pv PB fm cm I w v met out)(hb:Below w.heap.size w w'):WS us er w0 m pv PB fm cm I w' v met out:=by
 obtain ⟨al,hM,hal⟩:=S.mm
 exact ⟨S.ps.step hb,(hb.block _ (blk_lt S.mc)).trans S.mc,(hb.block _ (blk_lt S.pc)).trans S.pc,(hb.block _ (blk_lt S.oc)).trans S.oc,(hb.block _ (blk_lt S.wc)).trans S.wc,⟨al,hM.same (hb.block _ hM.lt),hal⟩,Kd.R_below S.out hb,S.b0,S.bo,S.bm,S.nf,S.nc⟩
theorem alGet_put:∀(l:AL) (t:ByteArray) (v:Value) (n:ByteArray),alGet (alPut l t v) n=if n==t then some v else alGet l n
 |[],t,v,n=>rfl
 |p::l,t,v,n=>by
  have ih:=alGet_put l t v n
  simp only [alPut]
  by_cases h:(t==p.1)=true
  · have e:t=p.1:=(MapKept.bytes_beq _ _).1 h
    rw [if_pos h]
    simp only [alGet]
    rw [←e]
    by_cases h2:(n==t)=true
    · simp [h2]
    · simp [h2]
  · rw [if_neg h]
    simp only [alGet,ih]
    by_cases h2:(n==p.1)=true
    · have e:n=p.1:=(MapKept.bytes_beq _ _).1 h2
      have h3:¬(n==t)=true:=fun h4=>h (by rw [←(MapKept.bytes_beq _ _).1 h4];exact h2)
      simp [h2,h3]
    · simp [h2]
theorem WS.put {w w':World}{v:Value}{met out:List ByteArray}(S:WS us er w0 m pv PB fm cm I w v met out)(name:ByteArray)(al:AL)(hal:∀n,(n∈met→alGet al n=some (.bool true))∧(n∉met→alGet al n=none))(hM:MapIs w' I.mm (alPut al name (.bool true)))(hO:OnlyAt w w' I.mm):WS us er w0 m pv PB fm cm I w' v (name::met) out:=by
 obtain ⟨al0,⟨es,cl,hm0,_⟩,_⟩:=S.mm
 have hne:∀{k t:Nat} {cs:Array Value},w.heap[k]? =some (.cells cs t (0,0))→k≠I.mm:=by
  rintro k t cs h rfl
  rw [hm0] at h
  cases h
 obtain ⟨c,hP,_⟩:=S.ps.prj
 refine ⟨S.ps.kept ?_ (fun k hk=>hO.block k ?_),(hO.block _ (hne S.mc)).trans S.mc,(hO.block _ (hne S.pc)).trans S.pc,(hO.block _ (hne S.oc)).trans S.oc,(hO.block _ (hne S.wc)).trans S.wc,⟨_,hM,fun n=> ?_⟩,?_,S.b0,S.bo,S.bm,S.nf,S.nc⟩
 · have h1:=S.b0
   have h2:=S.bm
   exact hO.below S.ps.below (by omega)
 · rcases hk with rfl|rfl|rfl|⟨cs,h|h⟩
   · exact hne hP.hP
   · exact Ne.symm S.nf
   · exact Ne.symm S.nc
   · exact hne h
   · exact hne h
 · rw [alGet_put]
   by_cases hn:(n==name)=true
   · have e:=(MapKept.bytes_beq _ _).1 hn
     subst e
     exact ⟨fun _=>by rw [if_pos hn],fun h=>absurd (List.mem_cons_self ..) h⟩
   · have e:n≠name:=fun e=>hn ((MapKept.bytes_beq _ _).2 e)
     rw [if_neg hn]
     exact ⟨fun h=>(hal n).1 (by
      rcases List.mem_cons.1 h with h|h
      · exact absurd h e
      · exact h),fun h=>(hal n).2 fun h2=>h (List.mem_cons_of_mem _ h2)⟩
 · exact Kd.R_step (Kd.R_bound S.out) (fun k ho _=>by
    obtain ⟨_,_,_,q,_,cs,hc⟩:=ho
    exact hO.block k (hne hc)) |> fun h=>Kd.R_mono h (fun _ _=>trivial)
theorem WF.put {w w':World}{v:Value}(hO:OnlyAt w w' I.mm):WF cm I w v w' v:=⟨by rw [hO.size];exact Nat.le_refl _,fun k _ _ h _ _=>hO.block k h,.inl rfl⟩
theorem WS.read {w w':World}{v:Value}{met out:List ByteArray}(S:WS us er w0 m pv PB fm cm I w v met out)(hP:PS us er w0 m pv PB fm cm w')(hs:w.heap.size≤w'.heap.size)(hk:∀k,k<w.heap.size→k≠cm→w'.heap[k]? =w.heap[k]?):WS us er w0 m pv PB fm cm I w' v met out:=by
 obtain ⟨al,hM,hal⟩:=S.mm
 have far:∀{k t:Nat} {cs:Array Value},w.heap[k]? =some (.cells cs t (0,0))→t≠87→w'.heap[k]? =w.heap[k]? :=fun h ht=>hk _ (blk_lt h) (S.ps.cell_ne h ht).2.2
 refine ⟨hP,(far S.mc (by decide)).trans S.mc,(far S.pc (by decide)).trans S.pc,(far S.oc (by decide)).trans S.oc,(far S.wc (by decide)).trans S.wc,⟨al,hM.same (hk _ hM.lt S.nc),hal⟩,?_,S.b0,S.bo,S.bm,S.nf,S.nc⟩
 exact Kd.R_step (Kd.R_bound S.out) (fun k ho _=>by
  obtain ⟨_,_,_,q,hq,cs,hc⟩:=ho
  obtain rfl:q=9:=by
   rcases List.mem_cons.1 hq with h|h
   · exact h
   · exact absurd (show q∈([]:List Nat) from h) (by simp)
  exact far hc (by decide)) |> fun h=>Kd.R_mono h (fun _ _=>trivial)
theorem WF.read {w w':World}{v:Value}(hs:w.heap.size≤w'.heap.size)(hk:∀k,k<w.heap.size→k≠cm→w'.heap[k]? =w.heap[k]?):WF cm I w v w' v:=⟨hs,fun k h1 h2 _ _ _=>hk k h1 h2,.inl rfl⟩
end
def kindR (t:Tk):ByteArray:=(OCond.cond_Kind.f 20 t.1 t.2.1 t.2.2.1 t.2.2.2).getD ⟨#[]⟩
def incR (t:Tk):Option (ByteArray × Bool):=
 if (kindR t).toList=incL then
  match OCond.cond_Words.f t.1 t.2.1 t.2.2.1 t.2.2.2 with
  |some (ws,_)=>incP (trimB (t.2.2.1.extract ((OCond.rd_T95 ws 0).f3+8).toNat t.2.2.1.size))
  |none=>none
 else none
def ksR (s:ByteArray):List ByteArray:=(scanR s).1.map kindR
def grR (s:ByteArray):List Gr:=(groupsR (ksR s)).1
def erR (s:ByteArray):Int:=if (scanR s).2≠0 then (scanR s).2 else (groupsR (ksR s)).2.1
def incsR (s:ByteArray)(i:Nat):Option (ByteArray × Bool):=((scanR s).1[i]?).bind incR
def filesR (m:AL)(ps:List ByteArray)(name s:ByteArray)(i:Nat):ByteArray:=match incsR s i with
 |some (n,q)=>findR m ps name n q
 |none=>⟨#[]⟩
def usT (m:AL)(ps:List ByteArray)(name s:ByteArray):List Us:=if erR s≠0 then [] else usF (incsR s) (filesR m ps name s) (grR s) (scanR s).1.length
def txtOf (m:AL)(n:ByteArray):ByteArray:=match alGet m n with
 |some (.string s)=>s
 |_=>⟨#[]⟩
def usR (m:AL)(ps:List ByteArray)(n:ByteArray):List Us:=usT m ps n (txtOf m n)
def erN (m:AL)(n:ByteArray):Int:=erR (txtOf m n)
theorem kindR_of (t:Tk)(hs:t.2.2.1.size≤190000):KindOf t (kindR t):=by
 obtain ⟨kd,hk,_⟩:=Kind_tot t hs
 refine ⟨20,?_⟩
 unfold kindR
 rw [hk];rfl
theorem inc_any (t:Tk)(w:World)(hG:Glob2 w)(hs:t.2.2.1.size≤190000):
 Calls Tryz.prog 42 #[.agg #[.int .i64 t.1,.string t.2.1,.string t.2.2.1,.int .i64 t.2.2.2]] w fun e w'=>e= .returned (.tuple #[useV (incR t),.bool (incR t).isSome])∧Below w.heap.size w w':=by
 obtain ⟨kd,hk,hi⟩:=Kind_tot t hs
 have hkd:kindR t=kd:=by unfold kindR;rw [hk];rfl
 by_cases he:kd.toList=incL
 · obtain ⟨ws,er,a,hW,hl,ha,h0,h1⟩:=hi he
   have hr:incR t=incP (trimB (t.2.2.1.extract (a+8).toNat t.2.2.1.size)):=by
    unfold incR
    rw [hkd,if_pos he,hW]
    simp only [ha]
   rw [hr]
   exact inc_yes t kd ws er a w hG ⟨20,hk⟩ he hW hl ha h0 h1 (by omega) _ rfl
 · have hr:incR t=none:=by unfold incR;rw [hkd,if_neg he]
   rw [hr]
   exact inc_not t kd w hG ⟨20,hk⟩ he
theorem extract_le (s:ByteArray)(a b:Nat):(s.extract a b).size≤s.size:=by rw [ByteArray.size_extract];omega
theorem incP_size {rest n:ByteArray}{q:Bool}(h:incP rest=some (n,q)):n.size≤rest.size:=by
 unfold incP at h
 split at h
 · unfold between at h
   simp only at h
   split at h
   · cases h
   · injection h with h
     injection h with h1 h2
     rw [←h1];exact extract_le _ _ _
 · split at h
   · unfold between at h
     simp only at h
     split at h
     · cases h
     · injection h with h
       injection h with h1 h2
       rw [←h1];exact extract_le _ _ _
   · cases h
theorem incR_size {t:Tk}{n:ByteArray}{q:Bool}(h:incR t=some (n,q)):n.size≤t.2.2.1.size:=by
 unfold incR at h
 split at h
 · split at h
   · have:=incP_size h
     exact Nat.le_trans this (Nat.le_trans (trimB_le _) (extract_le _ _ _))
   · cases h
 · cases h
structure EnvOK (w0:World)(m:AL)(ps:List ByteArray)(Ap:Option Addr):Prop where
 glob:Glob2 w0
 places:Kd.C Kd.string w0 Ap ps.length ps
 hA:Ap=none∨∃b o,Ap=some ⟨b,o,none⟩
 npl:ps.length≤5
 files:∀n u,alGet m n=some u→∃s,u= .string s∧s.size≤4000∧n.size≤4000
 psz:∀p∈ps,p.size≤140737488355328
theorem scan_toks (s:ByteArray)(hs:s.size≤4000):(scanR s).1.length≤40000∧∀(i:Nat) (t:Tk),(scanR s).1[i]? =some t→t.2.2.1.size≤4000:=by
 unfold scanR
 rw [if_neg (by omega)]
 split
 · exact ⟨by simp,fun i t h=>by simp at h⟩
 · refine ⟨by simp only;omega,fun i t h=> ?_⟩
   obtain ⟨q1,q2,_⟩:=toksD_at s (by omega) (s.size+1) 0 true (by omega) (by omega) i t h
   omega
theorem read_any (m:AL)(ps:List ByteArray)(Ap:Option Addr)(cp PB fm cm:Nat)(w0 w:World)(name:ByteArray)(E:EnvOK w0 m ps Ap)(hn:(alGet m name).isSome=true)
 (P:PS (usR m ps) (erN m) w0 m (.slice Ap ps.length cp) PB fm cm w):
 Calls Tryz.prog 21 #[.pointer (some ⟨PB,0,none⟩),.string name] w fun e w'=>∃rb,e= .returned (.pointer (some ⟨rb,0,none⟩))∧RdIs w0.heap.size w' rb (usR m ps name) (erN m name)∧PS (usR m ps) (erN m) w0 m (.slice Ap ps.length cp) PB fm cm w'∧w.heap.size≤w'.heap.size∧∀k,k<w.heap.size→k≠cm→w'.heap[k]? =w.heap[k]? :=by
 obtain ⟨c,HP,hC⟩:=P.prj
 obtain ⟨u0,hu0⟩:=Option.isSome_iff_exists.1 hn
 obtain ⟨text,rfl,hsz,hnsz⟩:=E.files name u0 hu0
 have htx:txtOf m name=text:=by unfold txtOf;rw [hu0]
 have ht:(alGet m name).getD (.string ⟨#[]⟩)= .string text:=by rw [hu0];rfl
 have hmap0:∃es cl,w.heap[cm]? =some (.map es cl):=by obtain ⟨es,cl,h,_⟩:=HP.hc;exact ⟨es,cl,h⟩
 have hmapf:∃es cl,w.heap[fm]? =some (.map es cl):=by obtain ⟨es,cl,h,_⟩:=HP.hm;exact ⟨es,cl,h⟩
 cases hc:alGet c name with
 |some u=>
  obtain ⟨rb,rfl,hR⟩:=hC name u hc
  refine (read_old m c name _ _ w0.heap.size PB fm cm w HP hc).mono fun e w' ⟨he,hb,ho⟩=>⟨rb,he,?_,?_,by rw [ho.size];exact Nat.le_refl _,fun k _ _=> ?_⟩
  · exact hR.kept fun k cs hk=>by
     by_cases hkp:k=PB
     · rw [hkp];exact hb
     · exact ho.block k hkp
  · refine P.kept ?_ (fun k _=> ?_)
    · have hbs:=HP.bP
      exact ho.below P.below hbs
    · by_cases hkp:k=PB
      · rw [hkp];exact hb
      · exact ho.block k hkp
  · by_cases hkp:k=PB
    · rw [hkp];exact hb
    · exact ho.block k hkp
 |none=>
  have fin:∀(rb:Nat) (w':World),ReadQ w0 w w' PB cm c name rb (usR m ps name) (erN m name)→RdIs w0.heap.size w' rb (usR m ps name) (erN m name)∧PS (usR m ps) (erN m) w0 m (.slice Ap ps.length cp) PB fm cm w'∧w.heap.size≤w'.heap.size∧∀k,k<w.heap.size→k≠cm→w'.heap[k]? =w.heap[k]? :=fun rb w' Q=>by
   have hk:∀k,k<w.heap.size→k≠cm→w'.heap[k]? =w.heap[k]? :=fun k h1 h2=>by
    by_cases hkp:k=PB
    · rw [hkp];exact Q.pb
    · exact Q.keep k h1 hkp h2
   have hcell:∀k (cs:Array Value) (t:Nat),w.heap[k]? =some (Obj.cells cs t (0,0))→w'.heap[k]? =w.heap[k]? :=fun k cs t h=>hk k (blk_lt h) (by
    rintro rfl
    obtain ⟨es,cl,h2⟩:=hmap0
    rw [h] at h2
    cases h2)
   have hrs:rb<w'.heap.size:=by obtain ⟨_,vl,vu,h,_⟩:=Q.rd;exact blk_lt h
   refine ⟨Q.rd,⟨Q.below,_,⟨(hcell PB _ _ HP.hP).trans HP.hP,HP.hm.same (hk fm HP.hm.lt HP.ne),Q.map,HP.bP,HP.bm,HP.bc,HP.ne⟩,fun n u hu=> ?_⟩,by have:=Q.new;omega,hk⟩
   rw [alGet_put] at hu
   split at hu
   · rename_i hnn
     have e:=(MapKept.bytes_beq _ _).1 hnn
     obtain rfl:=Option.some.inj hu
     rw [e]
     exact ⟨rb,rfl,Q.rd⟩
   · obtain ⟨rb',e,hR⟩:=hC n u hu
     exact ⟨rb',e,hR.kept fun k cs h=>by
      rcases h with h|h
      · exact hcell k cs _ h
      · exact hcell k cs _ h⟩
  obtain ⟨hyl,htk⟩:=scan_toks text hsz
  by_cases he1:(scanR text).2=0
  · have hkl:(ksR text).length=(scanR text).1.length:=by unfold ksR;rw [List.length_map]
    have hK:∀(i:Nat) (t:Tk),(scanR text).1[i]? =some t→∃r,(ksR text)[i]? =some r∧KindOf t r:=fun i t h=>⟨kindR t,by unfold ksR;rw [List.getElem?_map,h];rfl,kindR_of t (by have:=htk i t h;omega)⟩
    by_cases he2:(groupsR (ksR text)).2.1=0
    · have hgi:=groups_inv (ksR text)
      have her:erR text=0:=by unfold erR;rw [if_neg (by simpa using he1)];exact he2
      have hus:usR m ps name=usF (incsR text) (filesR m ps name text) (groupsR (ksR text)).1 (scanR text).1.length:=by
       unfold usR usT
       rw [htx,if_neg (by simpa using her)];rfl
      have hern:erN m name=0:=by unfold erN;rw [htx];exact her
      rw [hus,hern] at fin
      rw [hus,hern]
      refine (read_ok m c name text Ap ps.length cp PB fm cm w0 w HP P.below E.glob hc ht (by omega) he1 (ksR text) (by omega) hkl hK he2 (fun g hg=>⟨groups_two _ he2 g hg,by have:=hgi.2 g hg;omega⟩) (by omega) (incsR text) (filesR m ps name text) (fun i t h W hW=> ?_) (fun i n q hi _ W hb hF=> ?_)).mono fun e w' ⟨rb,he,Q⟩=>⟨rb,he,fin rb w' Q⟩
      · have:incsR text i=incR t:=by unfold incsR;rw [h];rfl
        rw [this]
        exact inc_any t W hW (by have:=htk i t h;omega)
      · have hfi:filesR m ps name text i=findR m ps name n q:=by unfold filesR;rw [hi]
        rw [hfi]
        have hns:n.size≤4000:=by
         unfold incsR at hi
         obtain ⟨t,h1,h2⟩:=Option.bind_eq_some_iff.1 hi
         have:=incR_size h2
         have:=htk i t h1
         omega
        obtain ⟨l1,l2,l3⟩:=ldR_of name (by omega)
        exact find_any m 1 ps name n ⟨#[]⟩ q (ldR name) (name.size+2) ((dirsR ps name q).map fun d=>joinR d n) PB fm cm Ap cp W hF (Kd.C_below E.places (by exact hb)) E.hA (by have:=E.npl;omega) l1 l2 l3 (by omega) (dirsR ps name q) rfl (by rw [List.length_map]) (fun j d hd=>⟨joinR d n,by rw [List.getElem?_map,hd];rfl,joinR_of d n (by omega) (by
         have hm:=List.mem_of_getElem? hd
         unfold dirsR at hm
         split at hm
         · rcases List.mem_cons.1 hm with h|h
           · rw [h];have:=extract_le name 0 (max 0 (ldR name)).toNat;omega
           · exact E.psz d h
         · exact E.psz d hm)⟩)
    · have her:erR text=(groupsR (ksR text)).2.1:=by unfold erR;rw [if_neg (by simpa using he1)]
      have hus:usR m ps name=[]:=by unfold usR usT;rw [htx,if_pos (by rw [her];exact he2)]
      have hern:erN m name=(groupsR (ksR text)).2.1:=by unfold erN;rw [htx];exact her
      rw [hus,hern] at fin
      rw [hus,hern]
      exact (read_e2 m c name text _ PB fm cm w0 w HP P.below E.glob hc ht (by omega) he1 (ksR text) (by omega) hkl hK he2).mono fun e w' ⟨rb,he,Q⟩=>⟨rb,he,fin rb w' Q⟩
  · have her:erR text=(scanR text).2:=by unfold erR;rw [if_pos he1]
    have hus:usR m ps name=[]:=by unfold usR usT;rw [htx,if_pos (by rw [her];exact he1)]
    have hern:erN m name=(scanR text).2:=by unfold erN;rw [htx];exact her
    rw [hus,hern] at fin
    rw [hus,hern]
    exact (read_e1 m c name text _ PB fm cm w0 w HP P.below E.glob hc ht (by omega) he1).mono fun e w' ⟨rb,he,Q⟩=>⟨rb,he,fin rb w' Q⟩
theorem r_hasK_l0 (xs:List ByteArray)(a:ByteArray)(hl:xs.length≤1000000):∀(d k i:Nat),i≤xs.length→xs.length-i≤d→d<k→a∉xs.take i→
 ∃r,OKin.smockingref00_Has.l0 k xs a (i:Int)=some r∧(r≥0↔a∈xs)
 |d,0,i,_,_,hk,_=>by omega
 |d,k+1,i,h1,hd,hk,hn=>by
  rw [OKin.smockingref00_Has.l0]
  by_cases h:i<xs.length
  · rw [if_pos (by omega),if_pos (by omega)]
    have hrd:rdOf ByteArray.empty xs (i:Int)=xs[i]:=by
     show xs.getD (i:Int).toNat ByteArray.empty=_
     rw [List.getD_eq_getElem?_getD,show (i:Int).toNat=i from rfl,List.getElem?_eq_getElem h];rfl
    rw [hrd]
    by_cases he:xs[i].toList=a.toList
    · rw [if_pos he]
      have:xs[i]=a:=by
       rw [ByteArray.toList_eq,ByteArray.toList_eq] at he
       exact Go.WideShapes.bytes_inj he
      exact ⟨i,rfl,⟨fun _=>by rw [←this];exact List.getElem_mem h,fun _=>by omega⟩⟩
    · rw [if_neg he,show wrap64 ((i:Int)+1)=((i+1:Nat):Int) from (OScan.wr (by omega) (by omega)).trans (by omega)]
      refine r_hasK_l0 xs a hl (d-1) k (i+1) (by omega) (by omega) (by omega) ?_
      rw [List.take_succ_eq_append_getElem h,List.mem_append,List.mem_singleton]
      rintro (h2|h2)
      · exact hn h2
      · exact he (by rw [h2])
  · rw [if_neg (by omega)]
    have ht:xs.take i=xs:=List.take_of_length_le (by omega)
    rw [ht] at hn
    exact ⟨-1,rfl,⟨fun h=>absurd h (by decide),fun h=>absurd h hn⟩⟩
theorem r_hasK (xs:List ByteArray)(a:ByteArray)(k:Nat)(hl:xs.length≤1000000)(hk:xs.length<k):∃r,OKin.smockingref00_Has.f k xs a=some r∧(r≥0↔a∈xs):=
 r_hasK_l0 xs a hl xs.length k 0 (by omega) (by omega) hk (by simp)
theorem hasP_bt (s:ByteArray)(c:UInt8):hasP s c=true↔0<s.size∧bt s 0=(c.toNat:Int):=by
 have h1:(⟨#[c]⟩:ByteArray).size=1:=rfl
 rcases Nat.eq_zero_or_pos s.size with h0|h0
 · constructor
   · intro h;have:=hasP_size h;omega
   · intro h;omega
 · have hv:hasP s c=((s.extract 0 1).data.toList==[c]):=by
    unfold hasP OCond.strings_HasPrefix.f OCond.stringslite_HasPrefix.f
    rw [h1,if_pos (by omega),if_pos (by omega),if_pos (by omega)]
    simp only [Option.bind_some,Option.getD_some]
    rw [ByteArray.toList_eq,ByteArray.toList_eq]
    rfl
   have hb:bt s 0=((s[0]'h0).toNat:Int):=(bt_at s 0 h0).symm
   have hl:s.data.toList[0]? =some (s[0]'h0):=by
    rw [List.getElem?_eq_getElem (by rw [data_length];exact h0)]
    rfl
   rw [hv,hb,Lib.extract_data,List.drop_zero,beq_iff_eq]
   cases hd:s.data.toList with
   |nil=>rw [hd] at hl;cases hl
   |cons x r=>
    rw [hd] at hl
    simp only [List.getElem?_cons_zero,Option.some.injEq] at hl
    rw [←hl]
    simp only [Nat.sub_zero,List.take_succ_cons,List.take_zero,List.cons.injEq,and_true]
    exact ⟨fun h=>⟨h0,by rw [h]⟩,fun h=>UInt8.toNat_inj.1 (by omega)⟩
def kindsL:List ByteArray:=[(⟨#[105,102]⟩:ByteArray),(⟨#[105,102,100,101,102]⟩:ByteArray),(⟨#[105,102,110,100,101,102]⟩:ByteArray),(⟨#[101,108,105,102]⟩:ByteArray),(⟨#[101,108,115,101]⟩:ByteArray),(⟨#[101,110,100,105,102]⟩:ByteArray),(⟨#[100,101,102,105,110,101]⟩:ByteArray),(⟨#[117,110,100,101,102]⟩:ByteArray),(⟨#[105,110,99,108,117,100,101]⟩:ByteArray)]
def kindOfW (r:List Tk):ByteArray:=match r with
 |[]=>⟨#[111,116,104,101,114]⟩
 |u::_=>if u.2.2.1.toList∈kindsL.map ByteArray.toList then u.2.2.1 else ⟨#[111,116,104,101,114]⟩
theorem kinds_mem (a:ByteArray):a.toList∈kindsL.map ByteArray.toList↔a∈kindsL:=by
 rw [List.mem_map]
 constructor
 · rintro ⟨x,hx,he⟩
   rw [ByteArray.toList_eq,ByteArray.toList_eq] at he
   rw [←Go.WideShapes.bytes_inj he];exact hx
 · exact fun h=>⟨a,h,rfl⟩
def wordsR (t:Tk):List Tk:=if t.2.2.1.size=0∨bt t.2.2.1 0≠35 then [] else (wordsF (t.2.2.1.size+1) (t.2.2.1.extract 1 t.2.2.1.size) 0).getD []
theorem wordsR_F (t:Tk)(hs:t.2.2.1.size≤4001)(h:¬(t.2.2.1.size=0∨bt t.2.2.1 0≠35)):wordsF (t.2.2.1.size+1) (t.2.2.1.extract 1 t.2.2.1.size) 0=some (wordsR t):=by
 obtain ⟨r,hr,_⟩:=words_tot (t.2.2.1.size+1) (t.2.2.1.extract 1 t.2.2.1.size) 0 (by rw [ByteArray.size_extract];omega) (by rw [ByteArray.size_extract];omega)
 unfold wordsR
 rw [if_neg h,hr];rfl
theorem cond_Words_eq (t:Tk)(h7:t.1=7)(hs:t.2.2.1.size≤4001):∃er,OCond.cond_Words.f t.1 t.2.1 t.2.2.1 t.2.2.2=some ((wordsR t).map OCond.toS95,er):=by
 unfold OCond.cond_Words.f
 rw [if_pos h7,hasP_f,Option.bind_some]
 by_cases h:t.2.2.1.size=0∨bt t.2.2.1 0≠35
 · have hp:¬hasP t.2.2.1 35=true:=fun hp=>by
    have:=(hasP_bt t.2.2.1 35).1 hp
    rcases h with h|h
    · omega
    · exact h this.2
   rw [if_neg hp]
   exact ⟨3,by unfold wordsR;rw [if_pos h];rfl⟩
 · have hp:hasP t.2.2.1 35=true:=(hasP_bt t.2.2.1 35).2 ⟨by omega,by
    have:¬bt t.2.2.1 0≠35:=fun e=>h (.inr e)
    rw [Decidable.not_not] at this;rw [this];rfl⟩
   have hsz:(t.2.2.1.extract 1 t.2.2.1.size).size=t.2.2.1.size-1:=by rw [ByteArray.size_extract];omega
   rw [if_pos hp,if_pos (by omega)]
   unfold OCond.cond_words.f
   rw [if_pos (by omega),show (t.2.2.1.extract 1 t.2.2.1.size).size+2=t.2.2.1.size+1 by omega,wordsR_F t hs h]
   exact ⟨0,rfl⟩
theorem kindR_words (t:Tk)(hs:t.2.2.1.size≤4001):kindR t=if t.1=7 then kindOfW (wordsR t) else ⟨#[]⟩:=by
 unfold kindR OCond.cond_Kind.f
 by_cases h7:t.1=7
 · obtain ⟨er,hW⟩:=cond_Words_eq t h7 hs
   rw [if_pos h7,if_pos h7,hW,Option.bind_some]
   cases hr:wordsR t with
   |nil=>rfl
   |cons u r=>
    have hl:((List.map OCond.toS95 (u::r)).length:Int)>0:=by rw [List.length_map,List.length_cons];omega
    obtain ⟨b,hb,hbb⟩:=contains_tot kindsL (OCond.toS95 u).f2 20 (by decide) (by decide)
    have hrd:OCond.rd_T95 (List.map OCond.toS95 (u::r)) 0=OCond.toS95 u:=rfl
    simp only
    rw [if_pos hl,if_pos hl,hrd]
    unfold kindsL at hb
    rw [hb,Option.bind_some]
    have hu:(OCond.toS95 u).f2=u.2.2.1:=rfl
    rw [hu] at hbb ⊢
    unfold kindOfW
    simp only
    by_cases hm:u.2.2.1.toList∈kindsL.map ByteArray.toList
    · rw [if_pos (hbb.2 ((kinds_mem _).1 hm)),if_pos hm];rfl
    · rw [if_neg (fun e=>hm ((kinds_mem _).2 (hbb.1 e))),if_neg hm];rfl
 · rw [if_neg h7,if_neg h7];rfl
theorem r_Kind (t:Tk)(hs:t.2.2.1.size≤4001):OKin.smockingref03_Kind.f 20 t.1 t.2.1 t.2.2.1 t.2.2.2=some (kindR t):=by
 rw [kindR_words t hs]
 unfold OKin.smockingref03_Kind.f
 by_cases h7:t.1=7
 · rw [if_pos h7,if_pos h7]
   have hW:∃er,OKin.smockingref03_Words.f t.1 t.2.1 t.2.2.1 t.2.2.2=some ((wordsR t).map OKin.toS95,er)∧(er≠0→wordsR t=[]):=by
    unfold OKin.smockingref03_Words.f
    rw [if_pos ⟨h7,hs⟩]
    by_cases h:t.2.2.1.size=0∨bt t.2.2.1 0≠35
    · rw [if_pos h]
      have:wordsR t=[]:=by unfold wordsR;rw [if_pos h]
      exact ⟨3,by rw [this];rfl,fun _=>this⟩
    · rw [if_neg h,wordsR_F t hs h]
      exact ⟨0,rfl,fun e=>absurd rfl e⟩
   obtain ⟨er,hW,hne⟩:=hW
   rw [hW,Option.bind_some]
   simp only
   cases hr:wordsR t with
   |nil=>
    have h0:(((List.map OKin.toS95 ([]:List Tk)).length:Int)==0)=true:=rfl
    rw [h0]
    split
    · rfl
    · rfl
   |cons u r=>
    have he:er=0:=Decidable.byContradiction fun e=>by have:=hne e;rw [hr] at this;cases this
    have hl:(((List.map OKin.toS95 (u::r)).length:Int)==0)=false:=by rw [List.length_map,List.length_cons,beq_eq_false_iff_ne];omega
    have hl2:0<((List.map OKin.toS95 (u::r)).length:Int):=by rw [List.length_map,List.length_cons];omega
    rw [if_pos he,hl]
    obtain ⟨b,hb,hbb⟩:=r_hasK kindsL (OKin.toS95 u).f2 19 (by decide) (by decide)
    have hrd:OKin.rd_T95 (List.map OKin.toS95 (u::r)) 0=OKin.toS95 u:=rfl
    rw [OKin.smockingref03_Kind.j0,if_neg (by decide),if_pos hl2,hrd]
    unfold kindsL at hb
    rw [hb,Option.bind_some]
    have hu:(OKin.toS95 u).f2=u.2.2.1:=rfl
    rw [hu] at hbb ⊢
    unfold kindOfW
    simp only
    by_cases hm:u.2.2.1.toList∈kindsL.map ByteArray.toList
    · rw [if_pos (hbb.2 ((kinds_mem _).1 hm)),if_pos hm]
    · rw [if_neg (fun e=>hm ((kinds_mem _).2 (hbb.1 e))),if_neg hm]
 · rw [if_neg h7,if_neg h7]
theorem inc_line (t:Tk)(hs:t.2.2.1.size≤4001)(hk:(kindR t).toList=incL):t.1=7∧¬(t.2.2.1.size=0∨bt t.2.2.1 0≠35)∧∃u r,wordsR t=u::r∧u.2.2.1.size=7∧0≤u.2.2.2∧u.2.2.2+8≤t.2.2.1.size∧incR t=incP (trimB (t.2.2.1.extract (u.2.2.2+8).toNat t.2.2.1.size)):=by
 have hkw:=kindR_words t hs
 have h7:t.1=7:=Decidable.byContradiction fun h=>by
  rw [if_neg h] at hkw;rw [hkw] at hk;exact empty_ne hk
 rw [if_pos h7] at hkw
 have hw:¬(t.2.2.1.size=0∨bt t.2.2.1 0≠35):=fun h=>by
  have:wordsR t=[]:=by unfold wordsR;rw [if_pos h]
  rw [this] at hkw;rw [hkw] at hk;exact other_ne hk
 refine ⟨h7,hw,?_⟩
 cases hr:wordsR t with
 |nil=>rw [hr] at hkw;rw [hkw] at hk;exact absurd hk other_ne
 |cons u r=>
  rw [hr] at hkw
  unfold kindOfW at hkw
  simp only at hkw
  have hm:u.2.2.1.toList∈kindsL.map ByteArray.toList:=Decidable.byContradiction fun h=>by
   rw [if_neg h] at hkw;rw [hkw] at hk;exact other_ne hk
  rw [if_pos hm] at hkw
  have hsz:u.2.2.1.size=7:=by rw [←data_length,←ByteArray.toList_eq,←hkw,hk];rfl
  obtain ⟨kd,hK,hi⟩:=Kind_tot t (by omega)
  have hkd:kindR t=kd:=by unfold kindR;rw [hK];rfl
  obtain ⟨ws,er,a,hW,hl,ha,h0,h1⟩:=hi (by rw [←hkd];exact hk)
  obtain ⟨er2,hW2⟩:=cond_Words_eq t h7 hs
  have hWW:ws=(wordsR t).map OCond.toS95:=by
   rw [hW] at hW2
   injection hW2 with hW2
   injection hW2
  have hau:a=u.2.2.2:=by rw [←ha,hWW,hr];rfl
  refine ⟨u,r,rfl,hsz,by omega,by omega,?_⟩
  unfold incR
  rw [if_pos hk,hW]
  simp only
  rw [ha,hau]
def wrR (t:Tk):ByteArray × Bool × Bool:=match incR t with|some (n,q)=>(n,q,true)|none=>(⟨#[]⟩,false,false)
theorem bt_cell (S:ByteArray)(i:Nat)(h:i<S.size)(c:UInt8):bt S (i:Int)=(c.toNat:Int)↔S.data.toList[i]? =some c:=by
 have h1:bt S (i:Int)=((S[i]'h).toNat:Int):=(bt_at S (i:Int) h).symm
 have h2:S.data.toList[i]? =some (S[i]'h):=by rw [List.getElem?_eq_getElem (by rw [data_length];exact h)];rfl
 rw [h1,h2,Option.some.injEq]
 exact ⟨fun e=>UInt8.toNat_inj.1 (by omega),fun e=>by rw [e]⟩
theorem trim_step (S:ByteArray)(i:Nat)(h:i<S.size):trimB (S.extract i S.size)=if blankB (S[i]'h)=true then trimB (S.extract (i+1) S.size) else S.extract i S.size:=by
 have hz:(S.extract i S.size).size=S.size-i:=by rw [ByteArray.size_extract];omega
 obtain ⟨m,hm⟩:∃m,S.size-i=m+1:=⟨S.size-i-1,by omega⟩
 have hx:(S.extract i S.size).extract 1 (S.extract i S.size).size=S.extract (i+1) S.size:=by
  apply Go.WideShapes.bytes_inj
  rw [Lib.extract_to_end,Lib.extract_to_end,Lib.extract_to_end,List.drop_drop]
 have h0:(S.extract i S.size).data.getD 0 0=S[i]'h:=by
  have hs:0<(S.extract i S.size).size:=by omega
  rw [at0 _ hs,ByteArray.getElem_extract]
  simp
 unfold trimB
 rw [hz,hm,trimF,if_neg (by omega),h0,hx]
 have hz2:(S.extract (i+1) S.size).size=m:=by rw [ByteArray.size_extract];omega
 rw [hz2]
theorem trim_end (S:ByteArray):trimB (S.extract S.size S.size)=S.extract S.size S.size:=by
 have hz:(S.extract S.size S.size).size=0:=by rw [ByteArray.size_extract];omega
 unfold trimB
 rw [hz];rfl
theorem index_hit {l:List UInt8}{c:UInt8}{m:Nat}(h:∀j,j<m→l[j]?≠some c)(hm:l[m]? =some c):Lib.indexByte l c=m:=by
 have h1:=Lib.indexByte_ge l c
 by_cases h2:Lib.indexByte l c= -1
 · exact absurd hm (Lib.indexByte_none h2 m)
 · obtain ⟨o,ho⟩:=Int.eq_ofNat_of_zero_le (show 0≤Lib.indexByte l c by omega)
   obtain ⟨h3,h4⟩:=Lib.indexByte_some ho
   rcases Nat.lt_trichotomy o m with h5|h5|h5
   · exact absurd h3 (h o h5)
   · omega
   · exact absurd hm (h4 m h5)
theorem index_miss {l:List UInt8}{c:UInt8}(h:∀j,j<l.length→l[j]?≠some c):Lib.indexByte l c= -1:=by
 have h1:=Lib.indexByte_ge l c
 by_cases h2:Lib.indexByte l c= -1
 · exact h2
 · obtain ⟨o,ho⟩:=Int.eq_ofNat_of_zero_le (show 0≤Lib.indexByte l c by omega)
   obtain ⟨h3,h4⟩:=Lib.indexByte_some ho
   exact absurd h3 (h o (List.getElem?_eq_some_iff.1 h3).1)
theorem rest_drop (S:ByteArray)(i:Nat):((S.extract i S.size).extract 1 (S.extract i S.size).size).data.toList=S.data.toList.drop (i+1):=by
 rw [Lib.extract_to_end,Lib.extract_to_end,List.drop_drop]
theorem between_hit (S:ByteArray)(i k:Nat)(c:UInt8)(q:Bool)(h1:i+1≤k)(h2:k<S.size)(hn:∀j,i+1≤j→j<k→S.data.toList[j]?≠some c)(hk:S.data.toList[k]? =some c):between (S.extract i S.size) c q=some (S.extract (i+1) k,q):=by
 unfold between
 simp only
 rw [rest_drop,index_hit (m:=k-(i+1)) (fun j hj=>by rw [List.getElem?_drop];exact hn _ (by omega) (by omega)) (by rw [List.getElem?_drop,show i+1+(k-(i+1))=k by omega];exact hk),if_neg (by omega)]
 congr 2
 apply Go.WideShapes.bytes_inj
 rw [Lib.extract_data,Lib.extract_data,Lib.extract_data,List.take_of_length_le (l:=S.data.toList.drop i) (by rw [List.length_drop,data_length];exact Nat.le_refl _),List.drop_drop,show (1+((k-(i+1):Nat):Int)).toNat-1=k-(i+1) by omega]
theorem between_miss (S:ByteArray)(i:Nat)(c:UInt8)(q:Bool)(hn:∀j,i+1≤j→j<S.size→S.data.toList[j]?≠some c):between (S.extract i S.size) c q=none:=by
 unfold between
 simp only
 rw [rest_drop,index_miss (fun j hj=>by rw [List.getElem?_drop];rw [List.length_drop,data_length] at hj;exact hn _ (by omega) (by omega)),if_pos (by decide)]
theorem hasP_rest (S:ByteArray)(i:Nat)(h:i<S.size)(c:UInt8):hasP (S.extract i S.size) c=true↔bt S (i:Int)=(c.toNat:Int):=by
 have hz:(S.extract i S.size).size=S.size-i:=by rw [ByteArray.size_extract];omega
 have h0:=bt_cell (S.extract i S.size) 0 (by omega) c
 rw [Lib.extract_to_end,List.getElem?_drop,Nat.add_zero,←bt_cell S i h] at h0
 rw [hasP_bt,hz]
 exact ⟨fun e=>h0.1 e.2,fun e=>⟨by omega,h0.2 e⟩⟩
theorem rWritten_any (t:Tk)(w:World)(hs:t.2.2.1.size≤4001):
 Calls Tryz.prog 49 #[.agg #[.int .i64 t.1,.string t.2.1,.string t.2.2.1,.int .i64 t.2.2.2]] w fun e w'=>e= .returned (.tuple #[.string (wrR t).1,.bool (wrR t).2.1,.bool (wrR t).2.2])∧Below w.heap.size w w':=by
 have hrk:=r_Kind t hs
 by_cases hk:(kindR t).toList=incL
 · obtain ⟨h7,hw,u,r,hr,hu7,ha0,ha1,hinc⟩:=inc_line t hs hk
   have hwl:=wordsR_F t hs hw
   obtain ⟨rr,hrr,hrl,_⟩:=words_tot (t.2.2.1.size+1) (t.2.2.1.extract 1 t.2.2.1.size) 0 (by rw [ByteArray.size_extract];omega) (by rw [ByteArray.size_extract];omega)
   have hrl':(wordsR t).length≤5000:=by
    rw [hwl] at hrr
    rw [Option.some.inj hrr]
    rw [ByteArray.size_extract] at hrl;omega
   have H83:=fun W=>OKin.smockingref03_Kind.calls 20 t.1 t.2.1 t.2.2.1 t.2.2.2 _ W hrk
   have H84:=fun W=>rWords_any t.2.2.2 t.2.1 t.2.2.1 (wordsR t) W (by omega) (by omega) (Decidable.byContradiction fun h=>hw (.inr h)) hwl hrl'
   have hwr:wrR t=match incP (trimB (t.2.2.1.extract (u.2.2.2+8).toNat t.2.2.1.size)) with|some (n,q)=>(n,q,true)|none=>(⟨#[]⟩,false,false):=by unfold wrR;rw [hinc]
   obtain ⟨t1,t2,t3,t4⟩:=t
   simp only at h7 H83 H84 hwr ha1 hs ⊢
   subst h7
   generalize hkd:kindR (7,t2,t3,t4)=kd at *
   have c1:(kd.toList !=incL)=false:=bne_eq_false_iff_eq.mpr hk
   have c1':(kd.toList==incL)=true:=beq_iff_eq.mpr hk
   obtain ⟨u1,u2,u3,u4⟩:=u
   simp only at hu7 ha0 ha1 hwr
   obtain ⟨p,hp⟩:∃p,p=u4+8:=⟨_,rfl⟩
   rw [←hp] at hwr
   have w1:IntKind.i64.wrap (1+u4)=1+u4:=IntWalk.i64_in _ (by omega)
   have w2:IntKind.i64.wrap (1+u4+(u3.size:Int))=p:=by rw [hu7,IntWalk.i64_in _ (by omega)];omega
   have w3:(0:Int)≤p:=by omega
   have w4:p≤(t3.size:Int):=by omega
   obtain ⟨m,hm⟩:∃m,m=(wordsR (7,t2,t3,t4)).length:=⟨_,rfl⟩
   have hm1:1≤m:=by rw [hm,hr];simp
   have hlz:(0:Int)<(m:Int):=by omega
   have hlm:0<m:=by omega
   have hex:(t3.extract p.toNat t3.size).size≤4001:=by rw [ByteArray.size_extract];omega
   obtain ⟨S,hS⟩:∃S,S=t3.extract p.toNat t3.size:=⟨_,rfl⟩
   rw [←hS] at hwr hex
   have HM:=z0 (And.intro hm hr)
   have HWR:=z0 hwr
   have HS:=z0 hS
   have HB0:Aside0 (Below w.heap.size w (w.alloc (Obj.cells #[Value.int .i64 7,Value.string t2,Value.string t3,Value.int .i64 t4] 95))):=⟨below_alloc (Below.refl _ _) _⟩
   clear hm hr hwr hinc hrk hkd hwl hrr hrl hrl' hw hk hp ha0 ha1 hu7 hs hS
   go_enter Tryz.func49,Tryz.ntmps49
   go_wp2_with (first|(go_at_call 83;go_loud (refine (H83 _).mono ?_;rintro e w9 ⟨rfl,hb9⟩;have h3:=(hb9.block w.heap.size (by simp)).trans (blk_new _ _);have b0:w9.cell? ⟨w.heap.size,0,none⟩=some (.int .i64 7):=(by have:=cell_of_row w9 _ 0 _ _ _ h3;simpa using this);have b1:w9.cell? ⟨w.heap.size,1,none⟩=some (.string t2):=(by have:=cell_of_row w9 _ 1 _ _ _ h3;simpa using this);have b2:w9.cell? ⟨w.heap.size,2,none⟩=some (.string t3):=(by have:=cell_of_row w9 _ 2 _ _ _ h3;simpa using this);have b3:w9.cell? ⟨w.heap.size,3,none⟩=some (.int .i64 t4):=(by have:=cell_of_row w9 _ 3 _ _ _ h3;simpa using this);have HB9:=z0 (below_step HB0.out hb9);have H3:=z0 h3;clear hb9 h3))|(go_at_call 84;go_loud (refine (H84 _).mono ?_;rintro e w7 ⟨v7,rfl,hR7,hb7⟩;obtain ⟨g7,c7,rfl,_,_,_⟩:=Kd.R_form hR7 (by rw [←HM.out.1];omega);rw [←HM.out.1] at hR7 ⊢;obtain ⟨ad,hAd,q0,q1,q2,q3⟩:=tk_at (Kd.R_reads' hR7).2.2 0 (by rw [←HM.out.1];omega) (u1,u2,u3,u4) (by rw [HM.out.2];rfl);injection hAd with hAd;subst hAd;have h3:=(hb7.block w.heap.size (blk_lt H3.out)).trans H3.out;have b4:w7.cell? ⟨w.heap.size,2,none⟩=some (.string t3):=(by have:=cell_of_row w7 _ 2 _ _ _ h3;simpa using this);have q2':w7.cell? ⟨g7,2,none⟩=some (.string u3):=q2;have q3':w7.cell? ⟨g7,3,none⟩=some (.int .i64 u4):=q3;have HB7:=z0 (below_step HB9.out hb7);clear hb7 h3 hR7 q0 q1 b0 b1 b2 b3)))
   go_quiet (fail)
   rw [←HS.out]
   have HB4:Aside0 (Below w.heap.size w (w7.drewN nq)):=⟨pw_below_drewN HB7.out nq⟩
   clear b4 q2 q3 q2' q3' w1 w2 w3 w4 hlz hlm H83 H84 HB9 H3 HB7 HB0
   obtain ⟨n,hn⟩:∃n,n=S.size:=⟨_,rfl⟩
   have HN:=z0 hn
   have hn4:n≤4001:=by omega
   clear hn hex
   go_wp2_with (fail)
   go_loopg [8] n (fun kq v8 w'=>∃(i:Nat),v8= .int .i64 i∧Aside0 (kq+i=n)∧Aside0 (trimB (S.extract i S.size)=trimB S)∧Aside0 (Below w.heap.size w w'))
   case atStart=>exact ⟨0,rfl,⟨rfl⟩,⟨by rw [show S.extract 0 S.size=S from by simp]⟩,HB4⟩
   case round=>
    obtain ⟨i,rfl,hki,hT,hB⟩:=hrel
    have hki':=hki.out
    have i0:(0:Int)≤(i:Int):=by omega
    cases gk with
    |zero=>
     obtain rfl:i=n:=by omega
     have hlt:decide ((i:Int)<(i:Int))=false:=decide_eq_false (by omega)
     have e1:(S.size:Int)=(i:Int):=by rw [HN.out]
     have hres:Aside0 (wrR (7,t2,t3,t4)=(⟨#[]⟩,false,false)):=⟨by
      have h:=hT.out
      rw [HN.out,trim_end] at h
      have hz:(S.extract S.size S.size).size=0:=by rw [ByteArray.size_extract];omega
      have hno:∀c,hasP (S.extract S.size S.size) c=false:=fun c=>by
       rw [Bool.eq_false_iff];intro hp;have:=hasP_size hp;omega
      rw [HWR.out,←h]
      unfold incP
      rw [hno,hno];rfl⟩
     go_wp2_with (fail)
     go_ret3
     rw [hres.out]
     exact ⟨rfl,hB.out⟩
    |succ g3=>
     have hin:i<S.size:=by have:=HN.out;omega
     have i1:(i:Int)<(S.size:Int):=by omega
     have hlt:decide ((i:Int)<(S.size:Int))=true:=decide_eq_true i1
     have hxi:((S[i]'hin).toNat:Int)=bt S (i:Int):=bt_at S (i:Int) hin
     have hst:=trim_step S i hin
     have hbi:bt S (i:Int)=((S[i]'hin).toNat:Int):=(bt_at S (i:Int) hin).symm
     have hb32:bt S (i:Int)=32↔(S[i]'hin)=32:=by rw [hbi];exact u8_eq _ 32 (by decide)
     have hb9:bt S (i:Int)=9↔(S[i]'hin)=9:=by rw [hbi];exact u8_eq _ 9 (by decide)
     have hbl:blankB (S[i]'hin)=true↔(bt S (i:Int)=32∨bt S (i:Int)=9):=by
      rw [hb32,hb9];simp [blankB]
     have HST:=z0 hst
     have HBL:=z0 hbl
     clear hst hbi hb32 hb9 hbl
     by_cases q32:bt S (i:Int)=32
     · have b0:(bt S (i:Int)==32)=true:=beq_iff_eq.mpr q32
       have hT':Aside0 (trimB (S.extract (i+1) S.size)=trimB S):=⟨by rw [←hT.out,HST.out,if_pos (HBL.out.2 (.inl q32))]⟩
       replace i0:=eq_true i0
       replace i1:=eq_true i1
       clear q32
       go_wp2_with (fail)
       go_roundg g3
       case measure=>omega
       case rel=>exact ⟨i+1,(by first|rfl|simp),⟨by omega⟩,hT',hB⟩
     · have b0:(bt S (i:Int)==32)=false:=beq_eq_false_iff_ne.mpr q32
       by_cases q9:bt S (i:Int)=9
       · have b1:(bt S (i:Int)==9)=true:=beq_iff_eq.mpr q9
         have hT':Aside0 (trimB (S.extract (i+1) S.size)=trimB S):=⟨by rw [←hT.out,HST.out,if_pos (HBL.out.2 (.inr q9))]⟩
         replace i0:=eq_true i0
         replace i1:=eq_true i1
         clear q32 q9
         go_wp2_with (fail)
         go_roundg g3
         case measure=>omega
         case rel=>exact ⟨i+1,(by first|rfl|simp),⟨by omega⟩,hT',hB⟩
       · have b1:(bt S (i:Int)==9)=false:=beq_eq_false_iff_ne.mpr q9
         have hrest:trimB S=S.extract i S.size:=by rw [←hT.out,HST.out,if_neg (fun h=>by rcases HBL.out.1 h with h|h;exact q32 h;exact q9 h)]
         have hneq:((i:Int)==(S.size:Int))=false:=beq_eq_false_iff_ne.mpr (by omega)
         have h34:=hasP_rest S i hin 34
         have h60:=hasP_rest S i hin 60
         have HW2:=HWR.out
         rw [hrest] at HW2
         clear q32 q9 HWR hrest HST HBL hT
         by_cases q34:bt S (i:Int)=34
         · have b2:(bt S (i:Int)==34)=true:=beq_iff_eq.mpr q34
           have b2':(bt S (i:Int) !=34)=false:=bne_eq_false_iff_eq.mpr q34
           have b3:(bt S (i:Int)==60)=false:=beq_eq_false_iff_ne.mpr (by rw [q34];decide)
           have HP:Aside0 (wrR (7,t2,t3,t4)=match between (S.extract i S.size) 34 true with|some (n,q)=>(n,q,true)|none=>(⟨#[]⟩,false,false)):=⟨by
            rw [HW2];unfold incP;rw [if_pos (h34.2 q34)]⟩
           replace i0:=eq_true i0
           replace i1:=eq_true i1
           clear q34 h34 h60 HW2
           go_wp2_with (fail)
           go_loopg [10] (n-(i+1)) (fun kq v10 w'=>∃(k:Nat),v10= .int .i64 k∧Aside0 (kq+k=n)∧Aside0 (i+1≤k)∧Aside0 (∀j,i+1≤j→j<k→S.data.toList[j]?≠some 34)∧Aside0 (Below w.heap.size w w'))
           case atStart=>exact ⟨i+1,(by first|rfl|simp),⟨by omega⟩,⟨Nat.le_refl _⟩,⟨fun j h1 h2=>by omega⟩,hB⟩
           case round=>
            obtain ⟨k,rfl,hkk,hik,hno,hB2⟩:=hrel
            have hkk':=hkk.out
            have hik':=hik.out
            have kk0:(0:Int)≤(k:Int):=by omega
            cases gk with
            |zero=>
             have hlt:decide (k<S.size)=false:=decide_eq_false (by have:=HN.out;omega)
             have hres:Aside0 (wrR (7,t2,t3,t4)=(⟨#[]⟩,false,false)):=⟨by
              have:=between_miss S i 34 true (fun j h1 h2=>hno.out j h1 (by have:=HN.out;omega))
              rw [HP.out,this]⟩
             go_wp2_with (fail)
             go_ret3
             rw [hres.out]
             exact ⟨rfl,hB2.out⟩
            |succ g4=>
             have hkn:k<S.size:=by have:=HN.out;omega
             have kk1:(k:Int)<(S.size:Int):=by omega
             have hlt:decide (k<S.size)=true:=decide_eq_true hkn
             have hkb:((S[k]'hkn).toNat:Int)=bt S (k:Int):=bt_at S (k:Int) hkn
             by_cases hh:bt S (k:Int)=34
             · have b0:(bt S (k:Int)==34)=true:=beq_iff_eq.mpr hh
               have hres:Aside0 (wrR (7,t2,t3,t4)=(S.extract (i+1) k,true,true)):=⟨by
                have:=between_hit S i k 34 true hik' hkn hno.out ((bt_cell S k hkn 34).1 hh)
                rw [HP.out,this]⟩
               have z0:((0:Int)≤(i:Int)+1)=True:=eq_true (by omega)
               have z1:((i:Int)+1≤(k:Int))=True:=eq_true (by omega)
               have z2:(k≤S.size)=True:=eq_true (by omega)
               have z3:(i<k)=True:=eq_true (by omega)
               have z4:((k:Int)≤(S.size:Int))=True:=eq_true (by omega)
               replace kk0:=eq_true kk0
               replace kk1:=eq_true kk1
               clear hh
               go_wp2_with (fail)
               go_ret3
               rw [hres.out]
               exact ⟨rfl,hB2.out⟩
             · have b0:(bt S (k:Int)==34)=false:=beq_eq_false_iff_ne.mpr hh
               have hno':Aside0 (∀j,i+1≤j→j<k+1→S.data.toList[j]?≠some 34):=⟨fun j h1 h2 e=>by
                rcases Nat.lt_or_ge j k with h3|h3
                · exact hno.out j h1 h3 e
                · obtain rfl:j=k:=by omega
                  exact hh ((bt_cell S j hkn 34).2 e)⟩
               replace kk0:=eq_true kk0
               replace kk1:=eq_true kk1
               clear hh
               go_wp2_with (fail)
               go_roundg g4
               case measure=>omega
               case rel=>exact ⟨k+1,(by first|rfl|simp),⟨by omega⟩,⟨by omega⟩,hno',hB2⟩
         · have b2:(bt S (i:Int)==34)=false:=beq_eq_false_iff_ne.mpr q34
           have b2':(bt S (i:Int) !=34)=true:=bne_iff_ne.mpr q34
           by_cases q60:bt S (i:Int)=60
           · have b3:(bt S (i:Int)==60)=true:=beq_iff_eq.mpr q60
             have b3':(bt S (i:Int) !=60)=false:=bne_eq_false_iff_eq.mpr q60
             have HP:Aside0 (wrR (7,t2,t3,t4)=match between (S.extract i S.size) 62 false with|some (n,q)=>(n,q,true)|none=>(⟨#[]⟩,false,false)):=⟨by
              rw [HW2];unfold incP;rw [if_neg (fun h=>q34 (h34.1 h)),if_pos (h60.2 q60)]⟩
             replace i0:=eq_true i0
             replace i1:=eq_true i1
             clear q34 q60 h34 h60 HW2
             go_wp2_with (fail)
             go_loopg [10] (n-(i+1)) (fun kq v10 w'=>∃(k:Nat),v10= .int .i64 k∧Aside0 (kq+k=n)∧Aside0 (i+1≤k)∧Aside0 (∀j,i+1≤j→j<k→S.data.toList[j]?≠some 62)∧Aside0 (Below w.heap.size w w'))
             case atStart=>exact ⟨i+1,(by first|rfl|simp),⟨by omega⟩,⟨Nat.le_refl _⟩,⟨fun j h1 h2=>by omega⟩,hB⟩
             case round=>
              obtain ⟨k,rfl,hkk,hik,hno,hB2⟩:=hrel
              have hkk':=hkk.out
              have hik':=hik.out
              have kk0:(0:Int)≤(k:Int):=by omega
              cases gk with
              |zero=>
               have hlt:decide (k<S.size)=false:=decide_eq_false (by have:=HN.out;omega)
               have hres:Aside0 (wrR (7,t2,t3,t4)=(⟨#[]⟩,false,false)):=⟨by
                have:=between_miss S i 62 false (fun j h1 h2=>hno.out j h1 (by have:=HN.out;omega))
                rw [HP.out,this]⟩
               go_wp2_with (fail)
               go_ret3
               rw [hres.out]
               exact ⟨rfl,hB2.out⟩
              |succ g4=>
               have hkn:k<S.size:=by have:=HN.out;omega
               have kk1:(k:Int)<(S.size:Int):=by omega
               have hlt:decide (k<S.size)=true:=decide_eq_true hkn
               have hkb:((S[k]'hkn).toNat:Int)=bt S (k:Int):=bt_at S (k:Int) hkn
               by_cases hh:bt S (k:Int)=62
               · have b0:(bt S (k:Int)==62)=true:=beq_iff_eq.mpr hh
                 have hres:Aside0 (wrR (7,t2,t3,t4)=(S.extract (i+1) k,false,true)):=⟨by
                  have:=between_hit S i k 62 false hik' hkn hno.out ((bt_cell S k hkn 62).1 hh)
                  rw [HP.out,this]⟩
                 have z0:((0:Int)≤(i:Int)+1)=True:=eq_true (by omega)
                 have z1:((i:Int)+1≤(k:Int))=True:=eq_true (by omega)
                 have z2:(k≤S.size)=True:=eq_true (by omega)
                 have z3:(i<k)=True:=eq_true (by omega)
                 have z4:((k:Int)≤(S.size:Int))=True:=eq_true (by omega)
                 replace kk0:=eq_true kk0
                 replace kk1:=eq_true kk1
                 clear hh
                 go_wp2_with (fail)
                 go_ret3
                 rw [hres.out]
                 exact ⟨rfl,hB2.out⟩
               · have b0:(bt S (k:Int)==62)=false:=beq_eq_false_iff_ne.mpr hh
                 have hno':Aside0 (∀j,i+1≤j→j<k+1→S.data.toList[j]?≠some 62):=⟨fun j h1 h2 e=>by
                  rcases Nat.lt_or_ge j k with h3|h3
                  · exact hno.out j h1 h3 e
                  · obtain rfl:j=k:=by omega
                    exact hh ((bt_cell S j hkn 62).2 e)⟩
                 replace kk0:=eq_true kk0
                 replace kk1:=eq_true kk1
                 clear hh
                 go_wp2_with (fail)
                 go_roundg g4
                 case measure=>omega
                 case rel=>exact ⟨k+1,(by first|rfl|simp),⟨by omega⟩,⟨by omega⟩,hno',hB2⟩
           · have b3:(bt S (i:Int)==60)=false:=beq_eq_false_iff_ne.mpr q60
             have b3':(bt S (i:Int) !=60)=true:=bne_iff_ne.mpr q60
             have hres:Aside0 (wrR (7,t2,t3,t4)=(⟨#[]⟩,false,false)):=⟨by
              rw [HW2];unfold incP;rw [if_neg (fun h=>q34 (h34.1 h)),if_neg (fun h=>q60 (h60.1 h))]⟩
             replace i0:=eq_true i0
             replace i1:=eq_true i1
             clear q34 q60 h34 h60 HW2
             go_wp2_with (fail)
             go_ret3
             rw [hres.out]
             exact ⟨rfl,hB.out⟩
 · have H83:=fun W=>OKin.smockingref03_Kind.calls 20 t.1 t.2.1 t.2.2.1 t.2.2.2 _ W hrk
   have hwr:wrR t=(⟨#[]⟩,false,false):=by unfold wrR incR;rw [if_neg hk]
   rw [hwr]
   obtain ⟨t1,t2,t3,t4⟩:=t
   simp only at H83 ⊢
   generalize hkd:kindR (t1,t2,t3,t4)=kd at *
   have c1:(kd.toList !=incL)=true:=bne_iff_ne.mpr hk
   have c1':(kd.toList==incL)=false:=beq_eq_false_iff_ne.mpr hk
   have HB0:Aside0 (Below w.heap.size w (w.alloc (Obj.cells #[Value.int .i64 t1,Value.string t2,Value.string t3,Value.int .i64 t4] 95))):=⟨below_alloc (Below.refl _ _) _⟩
   clear hwr hrk hkd hk hs
   go_enter Tryz.func49,Tryz.ntmps49
   go_wp2_with (go_at_call 83;go_loud (refine (H83 _).mono ?_;rintro e w9 ⟨rfl,hb9⟩;have HB9:=z0 (below_step HB0.out hb9);clear hb9))
   go_ret3
   exact ⟨rfl,HB9.out⟩
end Go.Proofs.YtolaiebjmhieiaaGreatDoor.OScan
end
section
namespace Go.Proofs.YtolaiebjmhieiaaGreatDoor.ORef
open Go.RowKit YtolaiebjmhieiaaGreatDoorW.PrintWords YtolaiebjmhieiaaGreatDoorW.PrintLast YtolaiebjmhieiaaGreatDoorW.PrintMore
attribute [local go_sem] max2_int min2_int max_two min_two max_three min_three max_four min_four
def smockingref21_up.l0:Nat→ByteArray→Int→Option (ByteArray × Bool)
 |0,_,_=>none
 |k+1,x0,x4=>if x4≥0 then (if 0≤x4 then (if x4<(x0.size:Int) then (if (bt x0 x4)=47 then (if x4≤(x0.size:Int) then (some (x0.extract 0 (x4:Int).toNat,true)) else (none)) else (smockingref21_up.l0 k x0 (wrap64 (x4-1)))) else (none)) else (none)) else (some ((⟨#[]⟩:ByteArray),true))
def smockingref21_up.f (k:Nat)(a0:ByteArray):Option (ByteArray × Bool):=if a0.toList=([]:List UInt8) then (some ((⟨#[]⟩:ByteArray),false)) else (smockingref21_up.l0 k a0 (wrap64 ((a0.size:Int)-1)))
theorem smockingref21_up.calls (k:Nat)(a0:ByteArray)(r1:ByteArray)(r2:Bool)(w:World)(h:smockingref21_up.f k a0=some (r1,r2)):
 Calls Tryz.prog 48 #[.string a0] w fun e w'=>e= .returned (.tuple #[.string r1,.bool r2])∧Drawn0 w w':=by
 have H:=h
 clear h
 unfold smockingref21_up.f at H
 replace H:=zE H
 rcases H with ⟨c2b0,c2b1,H⟩|⟨c2b0,c2b1,H⟩
 · simp only [Option.some.injEq,Prod.mk.injEq] at H
   obtain ⟨rfl,rfl⟩:=H
   go_enter Tryz.func48,Tryz.ntmps48
   go_wp2
   go_ret2
   exact ⟨zr,zq⟩
 · have H':=z0 H
   clear H
   go_enter Tryz.func48,Tryz.ntmps48
   go_wp2
   (try go_simp)
   go_loopg [4] k (fun kq v4 w'=>∃(x4_1:Int),v4= .int .i64 x4_1∧Aside0 (smockingref21_up.l0 kq a0 x4_1=some (r1,r2))∧Aside0 (kq≤k)∧Drawn0 w w')
   case atStart=>exact ⟨(wrap64 ((a0.size:Int)-1)),zr,H',⟨Nat.le_refl _⟩,zq⟩
   case round=>
    clear H'
    (try clear c2);(try clear c2b0);(try clear c2b1);(try clear p2)
    obtain ⟨x4_1,rfl,HA,HK1,⟨m1,rfl⟩⟩:=hrel
    cases gk with
    |zero=>exact absurd HA.out (by simp [smockingref21_up.l0])
    |succ k1=>
     have H:=HA.out
     clear HA
     simp only [smockingref21_up.l0] at H
     replace H:=zg H
     rcases H with ⟨c3b0,H⟩|⟨c3b0,H⟩
     · replace H:=zdn H
       obtain ⟨c4b0,H⟩:=H
       replace H:=zdn H
       obtain ⟨c5b0,H⟩:=H
       replace H:=ze H
       rcases H with ⟨c7b0,c7b1,H⟩|⟨c7b0,c7b1,H⟩
       · have c8b0:=eq_true (of_decide_eq_true (by first|(with_reducible assumption)|assumption):0≤x4_1)
         replace H:=zyn H
         obtain ⟨c9b0,c9b1,H⟩:=H
         simp only [Option.some.injEq,Prod.mk.injEq] at H
         obtain ⟨rfl,rfl⟩:=H
         obtain ⟨p6,q6,hx6⟩:=zb a0 x4_1
         go_wp2
         go_ret2
         exact ⟨zr,zq⟩
       · have H':=z0 H
         clear H
         obtain ⟨p6,q6,hx6⟩:=zb a0 x4_1
         go_wp2
         go_roundg k1
         case measure=>have:=HK1.out;omega
         case rel=>exact ⟨(wrap64 (x4_1-1)),zr,H',⟨by have:=HK1.out;omega⟩,zq⟩
     · simp only [Option.some.injEq,Prod.mk.injEq] at H
       obtain ⟨rfl,rfl⟩:=H
       go_wp2
       go_ret2
       exact ⟨zr,zq⟩
mutual
def smockingref21_join.l0:Nat→ByteArray→ByteArray→Option (ByteArray × Bool)
 |0,_,_=>none
 |k+1,x0,x1=>if (x1.size:Int)≥2 then (if 0≤2 then (if 2≤(x1.size:Int) then (smockingref21_join.j1 k x0 x1 ((x1.extract 0 2).toList==([46,47]:List UInt8))) else (none)) else (none)) else (smockingref21_join.j1 k x0 x1 false)
def smockingref21_join.j1:Nat→ByteArray→ByteArray→Bool→Option (ByteArray × Bool)
 |0,_,_,_=>none
 |k+1,x0,x1,x12=>if x12=true then (if 2≤(x1.size:Int) then (smockingref21_join.l0 k x0 (x1.extract 2 x1.size)) else (none)) else (if (x1.size:Int)≥3 then (if 0≤3 then (if 3≤(x1.size:Int) then (smockingref21_join.j2 k x0 x1 ((x1.extract 0 3).toList==([46,46,47]:List UInt8))) else (none)) else (none)) else (smockingref21_join.j2 k x0 x1 false))
def smockingref21_join.j2:Nat→ByteArray→ByteArray→Bool→Option (ByteArray × Bool)
 |0,_,_,_=>none
 |k+1,x0,x1,x23=>if x23=true then ((smockingref21_up.f k x0).bind fun bt225=>(if bt225.2=true then (if 3≤(x1.size:Int) then (smockingref21_join.l0 k bt225.1 (x1.extract 3 x1.size)) else (none)) else (some ((⟨#[]⟩:ByteArray),false)))) else (if x0.toList=([]:List UInt8) then (some (x1,true)) else (if x0.size+1≤9223372036854775807 then (if (x0++(⟨#[47]⟩:ByteArray)).size+x1.size≤9223372036854775807 then (some ((x0++(⟨#[47]⟩:ByteArray))++x1,true)) else (none)) else (none)))
end
def smockingref21_join.f (k:Nat)(a0:ByteArray)(a1:ByteArray):Option (ByteArray × Bool):=smockingref21_join.l0 k a0 a1
theorem smockingref21_join.calls (k:Nat)(a0:ByteArray)(a1:ByteArray)(r1:ByteArray)(r2:Bool)(w:World)(h:smockingref21_join.f k a0 a1=some (r1,r2)):
 Calls Tryz.prog 51 #[.string a0,.string a1] w fun e w'=>e= .returned (.tuple #[.string r1,.bool r2])∧Drawn0 w w':=by
 have H:=h
 clear h
 unfold smockingref21_join.f at H
 have H':=z0 H
 clear H
 go_enter Tryz.func51,Tryz.ntmps51
 go_wp2
 (try go_simp)
 go_loopg [0,1] k (fun kq v0 v1 w'=>∃(x0_1:ByteArray) (x1_1:ByteArray),v0= .string x0_1∧v1= .string x1_1∧Aside0 (smockingref21_join.l0 kq x0_1 x1_1=some (r1,r2))∧Aside0 (kq≤k)∧Drawn0 w w')
 case atStart=>exact ⟨(a0),(a1),zr,zr,H',⟨Nat.le_refl _⟩,zq⟩
 case round=>
  clear H'
  (try clear p2)
  obtain ⟨x0_1,x1_1,rfl,rfl,HA,HK1,⟨m1,rfl⟩⟩:=hrel
  cases gk with
  |zero=>exact absurd HA.out (by simp [smockingref21_join.l0])
  |succ k1=>
   have H:=HA.out
   clear HA
   simp only [smockingref21_join.l0] at H
   have HC3:=z0 H
   clear H
   go_upto_region 2 with (fail)
   go_cut [12] (fun v12 wc=>∃(kq:Nat) (x12_2:Bool),v12= .bool x12_2∧Aside0 (smockingref21_join.j1 kq x0_1 x1_1 x12_2=some (r1,r2))∧Aside0 (kq≤k1)∧Drawn0 w wc)
   case first=>
    have H:=HC3.out
    clear HC3
    by_cases c4:(x1_1.size:Int)≥2
    · rw [if_pos c4] at H
      have c4b0:decide (2≤(x1_1.size:Int))=true:=decide_eq_true c4
      have c4b1:decide (2≤x1_1.size)=true:=decide_eq_true (by omega)
      clear c4
      (first|rw [c4b0]|(simp only [i64_w,i32_w];rw [c4b0])|skip)
      replace H:=zyn H
      obtain ⟨c5b0,c5b1,H⟩:=H
      replace H:=zyn H
      obtain ⟨c6b0,c6b1,H⟩:=H
      have H':=z0 H
      clear H
      go_wp2
      go_meet
      case rel=>exact ⟨_,(((x1_1.extract 0 2).toList==([46,47]:List UInt8))),zr,H',⟨by have:=HK1.out;first|omega|exact Nat.le_refl _⟩,zq⟩
    · rw [if_neg c4] at H
      have c4b0:decide (2≤(x1_1.size:Int))=false:=decide_eq_false c4
      have c4b1:decide (2≤x1_1.size)=false:=decide_eq_false (by omega)
      clear c4
      (first|rw [c4b0]|(simp only [i64_w,i32_w];rw [c4b0])|skip)
      have H':=z0 H
      clear H
      go_wp2
      go_meet
      case rel=>exact ⟨_,(false),zr,H',⟨by have:=HK1.out;first|omega|exact Nat.le_refl _⟩,zq⟩
   case rest=>
    clear HC3
    (try clear p2);(try clear c4);(try clear c4b0);(try clear c4b1);(try clear c5);(try clear c5b0);(try clear c5b1);(try clear c6);(try clear c6b0);(try clear c6b1);(try clear p2)
    obtain ⟨kq,x12_2,rfl,HA,HJ2,⟨mc2,rfl⟩⟩:=hcut
    cases kq with
    |zero=>exact absurd HA.out (by simp [smockingref21_join.j1])
    |succ kj2=>
     have H:=HA.out
     clear HA
     simp only [smockingref21_join.j1] at H
     by_cases c7:x12_2=true
     · subst c7
       rw [if_pos rfl] at H
       replace H:=zyn H
       obtain ⟨c8b0,c8b1,H⟩:=H
       have H':=z0 H
       clear H
       go_wp2
       go_roundg kj2
       case measure=>have:=HK1.out;have:=HJ2.out;omega
       case rel=>exact ⟨(x0_1),(x1_1.extract 2 x1_1.size),zr,zr,H',⟨by have:=HK1.out;have:=HJ2.out;omega⟩,zq⟩
     · replace c7:=Bool.eq_false_iff.mpr c7
       subst c7
       rw [if_neg nofun] at H
       have HC9:=z0 H
       clear H
       go_upto_region 4 with (fail)
       go_cut [23] (fun v23 wc=>∃(kq:Nat) (x23_8:Bool),v23= .bool x23_8∧Aside0 (smockingref21_join.j2 kq x0_1 x1_1 x23_8=some (r1,r2))∧Aside0 (kq≤kj2)∧Drawn0 w wc)
       case first=>
        have H:=HC9.out
        clear HC9
        by_cases c10:(x1_1.size:Int)≥3
        · rw [if_pos c10] at H
          have c10b0:decide (3≤(x1_1.size:Int))=true:=decide_eq_true c10
          have c10b1:decide (3≤x1_1.size)=true:=decide_eq_true (by omega)
          clear c10
          (first|rw [c10b0]|(simp only [i64_w,i32_w];rw [c10b0])|skip)
          replace H:=zyn H
          obtain ⟨c11b0,c11b1,H⟩:=H
          replace H:=zyn H
          obtain ⟨c12b0,c12b1,H⟩:=H
          have H':=z0 H
          clear H
          go_wp2
          go_meet
          case rel=>exact ⟨_,(((x1_1.extract 0 3).toList==([46,46,47]:List UInt8))),zr,H',⟨by have:=HK1.out;have:=HJ2.out;first|omega|exact Nat.le_refl _⟩,zq⟩
        · rw [if_neg c10] at H
          have c10b0:decide (3≤(x1_1.size:Int))=false:=decide_eq_false c10
          have c10b1:decide (3≤x1_1.size)=false:=decide_eq_false (by omega)
          clear c10
          (first|rw [c10b0]|(simp only [i64_w,i32_w];rw [c10b0])|skip)
          have H':=z0 H
          clear H
          go_wp2
          go_meet
          case rel=>exact ⟨_,(false),zr,H',⟨by have:=HK1.out;have:=HJ2.out;first|omega|exact Nat.le_refl _⟩,zq⟩
       case rest=>
        clear HC9
        (try clear c1);(try clear c2);(try clear p2);(try clear c4);(try clear c4b0);(try clear c4b1);(try clear c5);(try clear c5b0);(try clear c5b1);(try clear c6);(try clear c6b0);(try clear c6b1);(try clear c7);(try clear c8);(try clear c8b0);(try clear c8b1);(try clear c10);(try clear c10b0);(try clear c10b1);(try clear c11);(try clear c11b0);(try clear c11b1);(try clear c12);(try clear c12b0);(try clear c12b1);(try clear p2)
        obtain ⟨kq,x23_8,rfl,HA,HJ8,⟨mc8,rfl⟩⟩:=hcut
        cases kq with
        |zero=>exact absurd HA.out (by simp [smockingref21_join.j2])
        |succ kj8=>
         have H:=HA.out
         clear HA
         simp only [smockingref21_join.j2] at H
         by_cases c13:x23_8=true
         · subst c13
           rw [if_pos rfl] at H
           replace H:=zo H
           obtain ⟨⟨t225,t226⟩,A14,H⟩:=H
           (try dsimp only at H)
           by_cases c15:t226=true
           · subst c15
             rw [if_pos rfl] at H
             replace H:=zyn H
             obtain ⟨c16b0,c16b1,H⟩:=H
             have H':=z0 H
             clear H
             go_wp2_with (first|(refine zc 34 rfl Tryz.func48 #[.string x0_1] ?_;refine za (smockingref21_up.calls kj8 x0_1 t225 true _ A14.out) fun nd=> ?_))
             go_roundg kj8
             case measure=>have:=HK1.out;have:=HJ2.out;have:=HJ8.out;omega
             case rel=>exact ⟨(t225),(x1_1.extract 3 x1_1.size),zr,zr,H',⟨by have:=HK1.out;have:=HJ2.out;have:=HJ8.out;omega⟩,zq⟩
           · replace c15:=Bool.eq_false_iff.mpr c15
             subst c15
             rw [if_neg nofun] at H
             simp only [Option.some.injEq,Prod.mk.injEq] at H
             obtain ⟨rfl,rfl⟩:=H
             go_wp2_with (first|(refine zc 34 rfl Tryz.func48 #[.string x0_1] ?_;refine za (smockingref21_up.calls kj8 x0_1 t225 false _ A14.out) fun nd=> ?_))
             go_ret2
             exact ⟨zr,zq⟩
         · replace c13:=Bool.eq_false_iff.mpr c13
           subst c13
           rw [if_neg nofun] at H
           replace H:=zE H
           rcases H with ⟨c17b0,c17b1,H⟩|⟨c17b0,c17b1,H⟩
           · simp only [Option.some.injEq,Prod.mk.injEq] at H
             obtain ⟨rfl,rfl⟩:=H
             go_wp2
             go_ret2
             exact ⟨zr,zq⟩
           · replace H:=zxn H
             obtain ⟨c18,c18b0,c18b1,H⟩:=H
             try have c18b2:(9223372036854775807<x0_1.size+1)=False:=eq_false (Nat.not_lt.2 c18)
             replace H:=zxn H
             obtain ⟨c19,c19b0,c19b1,H⟩:=H
             try have c19b2:(9223372036854775807<(x0_1++(⟨#[47]⟩:ByteArray)).size+x1_1.size)=False:=eq_false (Nat.not_lt.2 c19)
             simp only [Option.some.injEq,Prod.mk.injEq] at H
             obtain ⟨rfl,rfl⟩:=H
             go_wp2
             go_ret2
             exact ⟨zr,zq⟩
def smockingref21_find.l0:Nat→List (S46)→ByteArray→Int→Option (Int)
 |0,_,_,_=>none
 |k+1,x0,x1,x5=>if x5<(x0.length:Int) then (if 0≤x5 then (if ((rd_T46 x0 x5).f0).toList=x1.toList then (some x5) else (smockingref21_find.l0 k x0 x1 (wrap64 (x5+1)))) else (none)) else (some (-1))
def smockingref21_find.f (k:Nat)(l0:List (S46))(a1:ByteArray):Option (Int):=smockingref21_find.l0 k l0 a1 0
theorem smockingref21_find.mono_l:∀k,(∀y0 y1 y2,LeO (smockingref21_find.l0 k y0 y1 y2) (smockingref21_find.l0 (k+1) y0 y1 y2))
 |0=>fun _ _ _ r h=>by simp [smockingref21_find.l0] at h
 |k+1=>by
  have ih0:=smockingref21_find.mono_l k
  · intro y0 y1 y2
    unfold smockingref21_find.l0
    exact zm
theorem smockingref21_find.mono:∀a0 a1 k,LeO (smockingref21_find.f k a0 a1) (smockingref21_find.f (k+1) a0 a1):=by
 intro a0 a1 k
 have ih0:=smockingref21_find.mono_l k
 unfold smockingref21_find.f
 exact zm
theorem smockingref21_find.calls (k:Nat)(A0:Option Addr)(c0:Nat)(l0:List (S46))(a1:ByteArray)(r:Int)(w:World)(hr0:Kd.C k46 w A0 l0.length l0)(hc0:l0.length≤c0)(h:smockingref21_find.f k l0 a1=some r):
 Calls Tryz.prog 24 #[.slice A0 l0.length c0,.string a1] w fun e w'=>e= .returned (.int .i64 r)∧Drawn0 w w':=by
 have HR0:=z0 hr0
 have HC0:=z0 hc0
 clear hr0 hc0
 have H:=h
 clear h
 unfold smockingref21_find.f at H
 have H':=z0 H
 clear H
 go_enter Tryz.func24,Tryz.ntmps24
 go_wp2
 (try go_simp)
 go_loopg [5] k (fun kq v5 w'=>∃(x5_1:Int),v5= .int .i64 x5_1∧Aside0 (smockingref21_find.l0 kq l0 a1 x5_1=some r)∧Aside0 (kq≤k)∧Drawn0 w w')
 case atStart=>exact ⟨(0),zr,H',⟨Nat.le_refl _⟩,zq⟩
 case round=>
  clear H'
  (try clear c2);(try clear p2)
  obtain ⟨x5_1,rfl,HA,HK1,⟨m1,rfl⟩⟩:=hrel
  cases gk with
  |zero=>exact absurd HA.out (by simp [smockingref21_find.l0])
  |succ k1=>
   have H:=HA.out
   clear HA
   simp only [smockingref21_find.l0] at H
   replace H:=zd H
   rcases H with ⟨c3b0,H⟩|⟨c3b0,H⟩
   · replace H:=zdn H
     obtain ⟨c4b0,H⟩:=H
     replace H:=zE H
     rcases H with ⟨c5b0,c5b1,H⟩|⟨c5b0,c5b1,H⟩
     · obtain rfl:=Option.some.inj H
       have p227:0≤(x5_1:Int):=of_decide_eq_true (by first|(with_reducible assumption)|assumption)
       have q227:x5_1<(l0.length:Int):=of_decide_eq_true (by first|(with_reducible assumption)|assumption)
       obtain ⟨ad227,e227,hx227_0,hx227_1⟩:=at_T46 HR0.out x5_1 p227 q227
       cases e227
       replace p227:=eq_true p227
       replace q227:=eq_true q227
       go_wp2
       go_ret
       exact ⟨zr,zq⟩
     · have H':=z0 H
       clear H
       have p227:0≤(x5_1:Int):=of_decide_eq_true (by first|(with_reducible assumption)|assumption)
       have q227:x5_1<(l0.length:Int):=of_decide_eq_true (by first|(with_reducible assumption)|assumption)
       obtain ⟨ad227,e227,hx227_0,hx227_1⟩:=at_T46 HR0.out x5_1 p227 q227
       cases e227
       replace p227:=eq_true p227
       replace q227:=eq_true q227
       go_wp2
       go_roundg k1
       case measure=>have:=HK1.out;omega
       case rel=>exact ⟨(wrap64 (x5_1+1)),zr,H',⟨by have:=HK1.out;omega⟩,zq⟩
   · obtain rfl:=Option.some.inj H
     go_wp2
     go_ret
     exact ⟨zr,zq⟩
def smockingref21_split.l0:Nat→ByteArray→List ByteArray→Int→Int→Option (List ByteArray)
 |0,_,_,_,_=>none
 |k+1,x0,x3,x4,x5=>if x5≤(x0.size:Int) then (if x5=(x0.size:Int) then (if 0≤x4 then (if x4≤x5 then (if x3.length<8796093022208 then (smockingref21_split.l0 k x0 (x3++[x0.extract (x4:Int).toNat (x5:Int).toNat]) (wrap64 (x5+1)) (wrap64 (x5+1))) else (none)) else (none)) else (none)) else (if 0≤x5 then (if x5<(x0.size:Int) then (if (bt x0 x5)=47 then (if 0≤x4 then (if x4≤x5 then (if x3.length<8796093022208 then (smockingref21_split.l0 k x0 (x3++[x0.extract (x4:Int).toNat (x5:Int).toNat]) (wrap64 (x5+1)) (wrap64 (x5+1))) else (none)) else (none)) else (none)) else (smockingref21_split.l0 k x0 x3 x4 (wrap64 (x5+1)))) else (none)) else (none))) else (some x3)
def smockingref21_split.f (k:Nat)(a0:ByteArray):Option (List ByteArray):=smockingref21_split.l0 k a0 ([]:List ByteArray) 0 0
theorem smockingref21_split.calls (k:Nat)(a0:ByteArray)(r:List ByteArray)(w:World)(h:smockingref21_split.f k a0=some r):
 Calls Tryz.prog 80 #[.string a0] w fun e w'=>∃v0_:Value,e= .returned (v0_)∧Kd.R Kd.string 9 w' w.heap.size (fun _=>True) v0_ r∧Below w.heap.size w w':=by
 have HB:=z0 (Below.refl w.heap.size w)
 have H:=h
 clear h
 unfold smockingref21_split.f at H
 have H':=z0 H
 clear H
 go_enter Tryz.func80,Tryz.ntmps80
 go_wp2
 (try go_simp)
 go_loopg [3,4,5] k (fun kq v3 v4 v5 w'=>∃(x3_1:List ByteArray) (x4_1:Int) (x5_1:Int),v4= .int .i64 x4_1∧v5= .int .i64 x5_1∧Aside0 (smockingref21_split.l0 kq a0 x3_1 x4_1 x5_1=some r)∧Aside0 (kq≤k)∧Aside0 (Kd.R Kd.string 9 w' w.heap.size (fun _=>True) v3 x3_1)∧Aside0 (Below w.heap.size w w'))
 case atStart=>exact ⟨(([]:List ByteArray)),(0),(0),zr,zr,H',⟨Nat.le_refl _⟩,⟨by first|exact Kd.R_nil _ _ _ _ _|exact Kd.N_nil _ _ _ _ _|exact Kd.V_nil _ _ _ _ _|exact Kd.Q_nil _ _ _ _ _|exact Kd.S_nil _ _ _ _ _⟩,⟨zw⟩⟩
 case round=>
  clear H'
  obtain ⟨x3_1,x4_1,x5_1,rfl,rfl,HA,HK1,HO_3,HB⟩:=hrel
  cases gk with
  |zero=>exact absurd HA.out (by simp [smockingref21_split.l0])
  |succ k1=>
   have H:=HA.out
   clear HA
   simp only [smockingref21_split.l0] at H
   replace H:=zd H
   rcases H with ⟨c2b0,H⟩|⟨c2b0,H⟩
   · replace H:=ze H
     rcases H with ⟨c3b0,c3b1,H⟩|⟨c3b0,c3b1,H⟩
     · replace H:=zyn H
       obtain ⟨c4b0,c4b1,H⟩:=H
       replace H:=zyn H
       obtain ⟨c5b0,c5b1,H⟩:=H
       have c6b0:=eq_true (of_decide_eq_true (by first|(with_reducible assumption)|assumption):x5_1≤(a0.size:Int))
       by_cases c7:x3_1.length<8796093022208
       · rw [if_pos c7] at H
         have LMc7:=z0 c7
         clear c7
         obtain ⟨y228,hy228⟩:∃y_:List ByteArray,y_=(x3_1++[a0.extract (x4_1:Int).toNat (x5_1:Int).toNat]):=⟨_,rfl⟩
         replace H:(smockingref21_split.l0 k1 a0 y228 (wrap64 (x5_1+1)) (wrap64 (x5_1+1)))=some r:=by first|(rw [hy228];with_reducible exact H)|(have H2_:=(Option.bind_some _ _).symm.trans H;rw [hy228];with_reducible exact H2_)|(have H2_:=(Option.bind_some _ _).symm.trans H;with_reducible exact H2_)|with_reducible exact H|(rw [hy228];exact H)|exact H
         have Ny228:=z0 hy228
         clear hy228
         have H':=z0 H
         clear H
         go_wp2_with (first|((with_reducible refine gate_builtin (b:= .append) (xs:= #[.tmp 22,.tmp 27]) rfl ?_);at_builtin;refine Kd.R_append Kd.string (w0:=w) w.heap.size rfl (.tmp 22) (.tmp 27) 23 9 (.string ⟨#[]⟩) 16 rfl Tryz.underlying23 info9 rfl (by decide) (by omega) u3 x3_1 (a0.extract (x4_1:Int).toNat (x5_1:Int).toNat) [.string (a0.extract (x4_1:Int).toNat (x5_1:Int).toNat)] (fun _=>True) (fun _=>False) rfl rfl ?aP (fun _ hk=>hk.elim) ?aF ?aO ?aB ?aS ?aL ?_;(case aP=>exact rfl);(case aB=>exact zw);(case aF=>exact (fun _ _=>trivial));(case aO=>exact (by (with_reducible repeat (first|apply Kd.R_alloc|apply Kd.R_drewN|apply Kd.R_drew));exact HO_3.out));(case aS=>exact (below_size zw));(case aL=>have:=LMc7.out;omega);intro v229 w8 ho hb hg hat;rw [←Ny228.out] at ho;have n0_:=z0 (hb);have n1_:=z0 (ho);revert n0_ n1_;clear HB HO_3;intro HB HO230;clear ho hb hg hat))
         go_roundg k1
         case measure=>have:=HK1.out;omega
         case rel=>exact ⟨(y228),(wrap64 (x5_1+1)),(wrap64 (x5_1+1)),zr,zr,H',⟨by have:=HK1.out;omega⟩,⟨by (with_reducible repeat (first|apply Kd.R_alloc|apply Kd.R_drewN|apply Kd.R_drew));exact HO230.out⟩,⟨zw⟩⟩
       · rw [if_neg c7] at H
         cases H
     · replace H:=zdn H
       obtain ⟨c9b0,H⟩:=H
       replace H:=zdn H
       obtain ⟨c10b0,H⟩:=H
       replace H:=ze H
       rcases H with ⟨c12b0,c12b1,H⟩|⟨c12b0,c12b1,H⟩
       · replace H:=zyn H
         obtain ⟨c13b0,c13b1,H⟩:=H
         replace H:=zyn H
         obtain ⟨c14b0,c14b1,H⟩:=H
         have c15b0:=eq_true (of_decide_eq_true (by first|(with_reducible assumption)|assumption):x5_1≤(a0.size:Int))
         by_cases c16:x3_1.length<8796093022208
         · rw [if_pos c16] at H
           have LMc16:=z0 c16
           clear c16
           obtain ⟨y231,hy231⟩:∃y_:List ByteArray,y_=(x3_1++[a0.extract (x4_1:Int).toNat (x5_1:Int).toNat]):=⟨_,rfl⟩
           replace H:(smockingref21_split.l0 k1 a0 y231 (wrap64 (x5_1+1)) (wrap64 (x5_1+1)))=some r:=by first|(rw [hy231];with_reducible exact H)|(have H2_:=(Option.bind_some _ _).symm.trans H;rw [hy231];with_reducible exact H2_)|(have H2_:=(Option.bind_some _ _).symm.trans H;with_reducible exact H2_)|with_reducible exact H|(rw [hy231];exact H)|exact H
           have Ny231:=z0 hy231
           clear hy231
           have H':=z0 H
           clear H
           obtain ⟨p11,q11,hx11⟩:=zb a0 x5_1
           go_wp2_with (first|((with_reducible refine gate_builtin (b:= .append) (xs:= #[.tmp 22,.tmp 27]) rfl ?_);at_builtin;refine Kd.R_append Kd.string (w0:=w) w.heap.size rfl (.tmp 22) (.tmp 27) 23 9 (.string ⟨#[]⟩) 16 rfl Tryz.underlying23 info9 rfl (by decide) (by omega) u3 x3_1 (a0.extract (x4_1:Int).toNat (x5_1:Int).toNat) [.string (a0.extract (x4_1:Int).toNat (x5_1:Int).toNat)] (fun _=>True) (fun _=>False) rfl rfl ?aP (fun _ hk=>hk.elim) ?aF ?aO ?aB ?aS ?aL ?_;(case aP=>exact rfl);(case aB=>exact zw);(case aF=>exact (fun _ _=>trivial));(case aO=>exact (by (with_reducible repeat (first|apply Kd.R_alloc|apply Kd.R_drewN|apply Kd.R_drew));exact HO_3.out));(case aS=>exact (below_size zw));(case aL=>have:=LMc16.out;omega);intro v232 w17 ho hb hg hat;rw [←Ny231.out] at ho;have n0_:=z0 (hb);have n1_:=z0 (ho);revert n0_ n1_;clear HB HO_3;intro HB HO233;clear ho hb hg hat))
           go_roundg k1
           case measure=>have:=HK1.out;omega
           case rel=>exact ⟨(y231),(wrap64 (x5_1+1)),(wrap64 (x5_1+1)),zr,zr,H',⟨by have:=HK1.out;omega⟩,⟨by (with_reducible repeat (first|apply Kd.R_alloc|apply Kd.R_drewN|apply Kd.R_drew));exact HO233.out⟩,⟨zw⟩⟩
         · rw [if_neg c16] at H
           cases H
       · have H':=z0 H
         clear H
         obtain ⟨p11,q11,hx11⟩:=zb a0 x5_1
         go_wp2
         go_roundg k1
         case measure=>have:=HK1.out;omega
         case rel=>exact ⟨(x3_1),(x4_1),(wrap64 (x5_1+1)),zr,zr,H',⟨by have:=HK1.out;omega⟩,⟨by (with_reducible repeat (first|apply Kd.R_alloc|apply Kd.R_drewN|apply Kd.R_drew));exact HO_3.out⟩,⟨zw⟩⟩
   · obtain rfl:=Option.some.inj H
     go_wp2
     go_ret
     exact ⟨_,zv,by (with_reducible repeat (first|apply Kd.R_alloc|apply Kd.R_drewN|apply Kd.R_drew));exact HO_3.out,zw⟩
end Go.Proofs.YtolaiebjmhieiaaGreatDoor.ORef
end
section
namespace Go.Proofs.YtolaiebjmhieiaaGreatDoor.OScan
open Go.RowKit YtolaiebjmhieiaaGreatDoorW.PrintWords YtolaiebjmhieiaaGreatDoorW.PrintLast YtolaiebjmhieiaaGreatDoorW.PrintMore
theorem ext00 (s:ByteArray):s.extract 0 0=⟨#[]⟩:=by
 apply Go.WideShapes.bytes_inj
 rw [Lib.extract_data];simp
theorem toList_nil (s:ByteArray):s.toList=([]:List UInt8)↔s.size=0:=by
 rw [ByteArray.toList_eq,←data_length]
 exact List.length_eq_zero_iff.symm
theorem r_up_l0 (s:ByteArray)(hs:s.size≤4611686018427387904):∀(k:Nat) (x t:Int), -1≤x→x<s.size→OJoin.bytealg_LastIndexByteString.l0 k s 47 x=some t→ORef.smockingref21_up.l0 k s x=some (s.extract 0 (max 0 t).toNat,true)
 |0,x,t,_,_,h=>by cases h
 |k+1,x,t,h0,h1,h=>by
  rw [OJoin.bytealg_LastIndexByteString.l0] at h
  rw [ORef.smockingref21_up.l0]
  by_cases hx:x≥0
  · rw [if_pos hx,if_pos hx,if_pos h1] at h
    rw [if_pos hx,if_pos hx,if_pos h1]
    by_cases hb:bt s x=47
    · rw [if_pos hb] at h
      obtain rfl:=Option.some.inj h
      rw [if_pos hb,if_pos (by omega),show max 0 x=x by omega]
    · rw [if_neg hb,wr (by omega) (by omega)] at h
      rw [if_neg hb,wr (by omega) (by omega)]
      exact r_up_l0 s hs k (x-1) t (by omega) (by omega) h
  · rw [if_neg hx] at h
    obtain rfl:=Option.some.inj h
    rw [if_neg hx,show (max 0 (-1:Int)).toNat=0 from rfl,ext00]
theorem r_up_any (s:ByteArray)(h0:s.size≠0)(hs:s.size≤4611686018427387904)(k:Nat)(t:Int)(ht:OJoin.strings_LastIndexByte.f k s 47=some t):ORef.smockingref21_up.f k s=some (s.extract 0 (max 0 t).toNat,true):=by
 unfold OJoin.strings_LastIndexByte.f OJoin.bytealg_LastIndexByteString.f at ht
 obtain ⟨t',ht',he⟩:=Option.bind_eq_some_iff.1 ht
 obtain rfl:=Option.some.inj he
 rw [wr (by omega) (by omega)] at ht'
 unfold ORef.smockingref21_up.f
 rw [if_neg (fun h=>h0 ((toList_nil s).1 h)),wr (by omega) (by omega)]
 exact r_up_l0 s hs k _ _ (by omega) (by omega) ht'
theorem r_up (s:ByteArray)(h0:s.size≠0)(hs:s.size≤1000000):ORef.smockingref21_up.f (s.size+2) s=some (s.extract 0 (max 0 (ldR s)).toNat,true):=
 r_up_any s h0 (by omega) _ _ (ldR_of s hs).1
theorem cut_eq (a p:ByteArray):OJoin.strings_CutPrefix.f a p=some (if p.size≤a.size∧(a.extract 0 p.size).toList=p.toList then (a.extract p.size a.size,true) else (a,false)):=by
 unfold OJoin.strings_CutPrefix.f OJoin.stringslite_CutPrefix.f OJoin.stringslite_HasPrefix.f
 by_cases h:p.size≤a.size
 · rw [if_pos (by omega),if_pos (by omega),if_pos (by omega),Option.bind_some,Int.toNat_natCast]
   by_cases he:(a.extract 0 p.size).toList=p.toList
   · rw [if_pos (show p.size≤a.size∧(a.extract 0 p.size).toList=p.toList from ⟨h,he⟩),beq_iff_eq.2 he,if_pos rfl,if_pos (by omega),if_pos (by omega)];rfl
   · rw [if_neg (show ¬(p.size≤a.size∧(a.extract 0 p.size).toList=p.toList) from fun h=>he h.2),beq_eq_false_iff_ne.2 he];rfl
 · rw [if_neg (by omega),if_neg (show ¬(p.size≤a.size∧(a.extract 0 p.size).toList=p.toList) from fun h'=>h h'.1)];rfl
theorem lastIdx_more (s:ByteArray)(c t:Int)(k:Nat)(h:OJoin.strings_LastIndexByte.f k s c=some t):∀m,OJoin.strings_LastIndexByte.f (k+m) s c=some t
 |0=>h
 |m+1=>OJoin.strings_LastIndexByte.mono s c (k+m) t (lastIdx_more s c t k h m)
theorem r_join_l0:∀(k:Nat) (d n:ByteArray) (r:ByteArray × Bool) (K:Nat),OJoin.head_joined.l0 k d n=some r→n.size≤1000000→d.size≤140737488355328→3*k+d.size+6≤K→ORef.smockingref21_join.l0 K d n=some r
 |0,d,n,r,K,h,_,_,_=>by cases h
 |k+1,d,n,r,K,h,hn,hd,hK=>by
  obtain ⟨K,rfl⟩:∃K',K=K'+3:=⟨K-3,by omega⟩
  rw [OJoin.head_joined.l0,cut_eq,Option.bind_some] at h
  have z1:(⟨#[46,47]⟩:ByteArray).size=2:=rfl
  have z2:(⟨#[46,46,47]⟩:ByteArray).size=3:=rfl
  have l1:(⟨#[46,47]⟩:ByteArray).toList=([46,47]:List UInt8):=by rw [ByteArray.toList_eq]
  have l2:(⟨#[46,46,47]⟩:ByteArray).toList=([46,46,47]:List UInt8):=by rw [ByteArray.toList_eq]
  rw [z1,l1] at h
  rw [ORef.smockingref21_join.l0]
  have hj1:∀b:Bool,(b=true↔(2≤n.size∧(n.extract 0 2).toList=[46,47]))→ORef.smockingref21_join.j1 (K+2) d n b=some r:=fun b hb=>by
   rw [ORef.smockingref21_join.j1]
   by_cases c1:2≤n.size∧(n.extract 0 2).toList=[46,47]
   · rw [if_pos c1] at h
     rw [if_pos (hb.2 c1),if_pos (by omega)]
     exact r_join_l0 k d _ r (K+1) h (by rw [ByteArray.size_extract];omega) hd (by omega)
   · rw [if_neg c1] at h
     simp only at h
     rw [if_neg (by decide),cut_eq,Option.bind_some,z2,l2] at h
     rw [if_neg (fun e=>c1 (hb.1 e))]
     have hj2:∀b:Bool,(b=true↔(3≤n.size∧(n.extract 0 3).toList=[46,46,47]))→ORef.smockingref21_join.j2 (K+1) d n b=some r:=fun b hb2=>by
      rw [ORef.smockingref21_join.j2]
      by_cases c2:3≤n.size∧(n.extract 0 3).toList=[46,46,47]
      · rw [if_pos c2] at h
        simp only at h
        rw [if_pos (by decide)] at h
        rw [if_pos (hb2.2 c2)]
        by_cases hx:d.toList=([]:List UInt8)
        · rw [if_pos hx] at h
          unfold ORef.smockingref21_up.f
          rw [if_pos hx,Option.bind_some]
          simp only
          rw [if_neg (by decide)]
          exact h
        · rw [if_neg hx] at h
          have hds:d.size≠0:=fun e=>hx ((toList_nil d).2 e)
          obtain ⟨t,ht,h⟩:=Option.bind_eq_some_iff.1 h
          obtain ⟨t',ht',t1,t2,_⟩:=lastIdx_tot d 47 (by omega) K (by omega)
          have htt:t'=t:=by
           have h2:=lastIdx_more d 47 t k ht (K-k)
           rw [show k+(K-k)=K by omega,ht'] at h2
           exact Option.some.inj h2
          subst htt
          have hm:mx 0 t'=max 0 t':=by unfold mx;split<;>omega
          rw [if_pos (by omega),if_pos (by omega),hm] at h
          rw [r_up_any d hds (by omega) K t' ht',Option.bind_some]
          simp only
          rw [if_pos trivial,if_pos (by omega)]
          exact r_join_l0 k _ _ r K h (by rw [ByteArray.size_extract];omega) (by rw [ByteArray.size_extract];omega) (by rw [ByteArray.size_extract];omega)
      · rw [if_neg c2] at h
        simp only at h
        rw [if_neg (by decide)] at h
        rw [if_neg (fun e=>c2 (hb2.1 e))]
        exact h
     by_cases c3:3≤n.size
     · rw [if_pos (by omega),if_pos (by omega),if_pos (by omega)]
       exact hj2 _ ⟨fun e=>⟨c3,beq_iff_eq.1 e⟩,fun e=>beq_iff_eq.2 e.2⟩
     · rw [if_neg (by omega)]
       exact hj2 _ ⟨fun e=>absurd e (by decide),fun e=>absurd e.1 c3⟩
  by_cases c4:2≤n.size
  · rw [if_pos (by omega),if_pos (by omega),if_pos (by omega)]
    exact hj1 _ ⟨fun e=>⟨c4,beq_iff_eq.1 e⟩,fun e=>beq_iff_eq.2 e.2⟩
  · rw [if_neg (by omega)]
    exact hj1 _ ⟨fun e=>absurd e (by decide),fun e=>absurd e.1 c4⟩
theorem r_join (d n:ByteArray)(hn:n.size≤1000000)(hd:d.size≤140737488355328):ORef.smockingref21_join.f (4*d.size+3*n.size+30) d n=some (joinR d n):=by
 obtain ⟨r,hr⟩:=joined_l0 n.size (d.size+n.size+5) d n (Nat.le_refl _) (by omega) (by omega) (by omega)
 have hj:joinR d n=r:=by unfold joinR OJoin.head_joined.f;rw [hr];rfl
 rw [hj]
 exact r_join_l0 _ d n r _ hr (by omega) (by omega) (by omega)
def toS46r (x:Fl):ORef.S46:=⟨x.1,x.2⟩
theorem bytes_eq {a b:ByteArray}(h:a.toList=b.toList):a=b:=by
 rw [ByteArray.toList_eq,ByteArray.toList_eq] at h
 exact Go.WideShapes.bytes_inj h
theorem r_find_l0 (files:List Fl)(name:ByteArray)(hl:files.length≤1000000):∀(d k i:Nat),i≤files.length→files.length-i≤d→d<k→(∀j,j<i→∀f,files[j]? =some f→f.1≠name)→
 ∃r,ORef.smockingref21_find.l0 k (files.map toS46r) name (i:Int)=some r∧((r= -1∧∀f∈files,f.1≠name)∨∃(j:Nat) (f:Fl),r=j∧files[j]? =some f∧f.1=name∧∀i,i<j→∀g,files[i]? =some g→g.1≠name)
 |d,0,i,_,_,hk,_=>by omega
 |d,k+1,i,h1,hd,hk,hn=>by
  rw [ORef.smockingref21_find.l0]
  by_cases h:i<files.length
  · rw [if_pos (by rw [List.length_map];omega),if_pos (by omega)]
    have hrd:ORef.rd_T46 (files.map toS46r) (i:Int)=toS46r files[i]:=by
     show (files.map toS46r).getD (i:Int).toNat _=_
     rw [Int.toNat_natCast,List.getD_eq_getElem?_getD,List.getElem?_map,List.getElem?_eq_getElem h];rfl
    rw [hrd]
    have hf0:(toS46r files[i]).f0=files[i].1:=rfl
    rw [hf0]
    by_cases he:files[i].1.toList=name.toList
    · rw [if_pos he]
      exact ⟨i,rfl,.inr ⟨i,files[i],rfl,List.getElem?_eq_getElem h,bytes_eq he,hn⟩⟩
    · rw [if_neg he,show wrap64 ((i:Int)+1)=((i+1:Nat):Int) from (OScan.wr (by omega) (by omega)).trans (by omega)]
      refine r_find_l0 files name hl (d-1) k (i+1) (by omega) (by omega) (by omega) (fun j hj f hf=> ?_)
      rcases Nat.lt_or_ge j i with h2|h2
      · exact hn j h2 f hf
      · obtain rfl:j=i:=by omega
        rw [List.getElem?_eq_getElem h] at hf
        obtain rfl:=Option.some.inj hf
        exact fun e=>he (by rw [e])
  · rw [if_neg (by rw [List.length_map];omega)]
    refine ⟨-1,rfl,.inl ⟨rfl,fun f hf=> ?_⟩⟩
    obtain ⟨j,hj⟩:=List.getElem?_of_mem hf
    exact hn j (by have:=(List.getElem?_eq_some_iff.1 hj).1;omega) f hj
def findN (files:List Fl)(name:ByteArray):Int:=(ORef.smockingref21_find.f (files.length+1) (files.map toS46r) name).getD (-1)
theorem r_find (files:List Fl)(name:ByteArray)(hl:files.length≤1000000):ORef.smockingref21_find.f (files.length+1) (files.map toS46r) name=some (findN files name)∧
 ((findN files name= -1∧∀f∈files,f.1≠name)∨∃(j:Nat) (f:Fl),findN files name=j∧files[j]? =some f∧f.1=name∧∀i,i<j→∀g,files[i]? =some g→g.1≠name):=by
 obtain ⟨r,hr,h⟩:=r_find_l0 files name hl files.length (files.length+1) 0 (by omega) (by omega) (by omega) (fun j hj=>by omega)
 have hf:ORef.smockingref21_find.f (files.length+1) (files.map toS46r) name=some r:=hr
 have hn:findN files name=r:=by unfold findN;rw [hf];rfl
 rw [hn]
 exact ⟨hf,h⟩
theorem C_46r {w:World}{A:Option Addr}{n:Nat}{xs:List Fl}(h:Kd.C kFl w A n xs):Kd.C ORef.k46 w A n (xs.map toS46r):=by
 refine ⟨by rw [List.length_map];exact h.1,h.2.1,fun hn=> ?_⟩
 obtain ⟨ad,e,hc⟩:=h.2.2 hn
 refine ⟨ad,e,fun j p hj=> ?_⟩
 rw [List.getElem?_map] at hj
 obtain ⟨q,hq,rfl⟩:=Option.map_eq_some_iff.1 hj
 exact hc j q hq
theorem rFind_any (files:List Fl)(name:ByteArray)(w:World)(A:Option Addr)(c:Nat)(hC:Kd.C kFl w A files.length files)(hc:files.length≤c)(hl:files.length≤1000000):
 Calls Tryz.prog 24 #[.slice A files.length c,.string name] w fun e w'=>e= .returned (.int .i64 (findN files name))∧Below w.heap.size w w':=by
 have h:=ORef.smockingref21_find.calls (files.length+1) A c (files.map toS46r) name _ w (by rw [List.length_map];exact C_46r hC) (by rw [List.length_map];exact hc) (r_find files name hl).1
 rw [List.length_map] at h
 exact h.mono fun e w' h=>⟨h.1,by first|exact h.2|exact h.2.below⟩
theorem info9:(Tryz.prog.info? 9).map (fun i=>(i.zero,i.size,i.bytes))=some (some (.string ⟨#[]⟩),1,16):=by kernel_rfl
theorem app_deferred (OC NB bA:Nat)(u:FrameMode)(w:World)(v:Value)(out:List ByteArray)(name:ByteArray)(hO:w.heap[OC]? =some (.cells #[v] 23 (0,0)))(hN:w.heap[NB]? =some (.cells #[.string name] 9 (0,0)))(hR:Kd.R Kd.string 9 w bA (fun _=>True) v out)(hb:bA≤w.heap.size)(hl:out.length≤1000):
 CallsD Tryz.prog 53 #[.pointer (some ⟨OC,0,none⟩),.pointer (some ⟨NB,0,none⟩)] u w fun e u' w'=>u'=u∧(e= .returned (.tuple #[])∧∃v',w'.heap[OC]? =some (.cells #[v'] 23 (0,0))∧Kd.R Kd.string 9 w' bA (fun _=>True) v' (out++[name])∧w.heap.size≤w'.heap.size∧(∀k,k<w.heap.size→k≠OC→some k≠v.ownBlock→w'.heap[k]? =w.heap[k]?)∧(v'.ownBlock=v.ownBlock∨∃b,v'.ownBlock=some b∧w.heap.size≤b)∧w'.os=w.os∧w'.tape=w.tape∧w'.output=w.output):=by
 obtain ⟨A,c,rfl⟩:=Kd.R_slice hR
 have o1:w.cell? ⟨OC,0,none⟩=some (.slice A out.length c):=by have:=cell_of_row w OC 0 _ _ _ hO;simpa using this
 have n1:w.cell? ⟨NB,0,none⟩=some (.string name):=by have:=cell_of_row w NB 0 _ _ _ hN;simpa using this
 have HO:=z0 hO
 have HR:=z0 hR
 have HB:=z0 hb
 have HL:=z0 hl
 have HOW:Aside0 (some OC≠(Value.slice A out.length c).ownBlock):=⟨Kd.R_ne hR hO (by decide)⟩
 clear hO hN hR hb hl
 obtain ⟨n,hn⟩:∃n,n=out.length:=⟨_,rfl⟩
 rw [←hn] at o1 HO HR HOW ⊢
 have HN:=z0 hn
 clear hn
 go_enter_d Tryz.func53,Tryz.ntmps53
 go_wp2_with (at_builtin;go_loud (refine Kd.R_append Kd.string (w0:=w) (W:=w) bA rfl (.tmp 2) (.tmp 4) 23 9 (.string ⟨#[]⟩) 16 rfl Tryz.underlying23 info9 rfl (by decide) (by omega) (.slice A n c) out name [.string name] (fun _=>True) (fun _=>False) rfl rfl rfl (fun _ hk=>hk.elim) (fun _ _=>trivial) ?aO ?aB ?aS ?aL ?_;(case aO=>exact HR.out);(case aB=>exact Below.refl _ _);(case aS=>exact HB.out);(case aL=>have:=HL.out;omega);intro v1 w6 ho hb6 hg6 hat6;obtain ⟨A1,c1,rfl⟩:=Kd.R_slice ho;rw [List.length_append,List.length_singleton] at ho hat6;have hc6:=(hg6.block OC (blk_lt HO.out) HOW.out).trans HO.out;have r0:w6.cell? ⟨OC,0,none⟩=some (.slice A n c):=(by have:=cell_of_row _ OC 0 _ _ _ hc6;simpa using this);have r1:=blk_frozen hc6 0;have HC6:=z0 hc6;have HO6:=z0 ho;have HG6:=z0 hg6;have HA6:=z0 hat6;clear ho hb6 hg6 hat6 hc6))
 go_end0
 refine ⟨rfl,_,blk_put HC6.out 0 _ rfl,Kd.R_set HO6.out HC6.out (by decide) 0 _,?_,fun k h1 h2 h3=> ?_,HA6.out,?_,?_,?_⟩
 · have:=HG6.out.size;simp;exact this
 · exact (Below.heap_setCell _ ⟨OC,0,none⟩ _ k h2).trans (HG6.out.block k h1 h3)
 · exact HG6.out.os
 · exact HG6.out.tape
 · exact HG6.out.output
end Go.Proofs.YtolaiebjmhieiaaGreatDoor.OScan
end
