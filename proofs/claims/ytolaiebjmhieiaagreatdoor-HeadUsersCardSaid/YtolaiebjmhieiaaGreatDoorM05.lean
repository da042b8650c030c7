/- Parts of the proof of HeadUsers; no condition. -/
import Derived.Test.YtolaiebjmhieiaaGreatDoorM04
import Derived.Test.YtolaiebjmhieiaaGreatDoorM03
import Derived.Test.YtolaiebjmhieiaaGreatDoorM02
import Derived.Test.YtolaiebjmhieiaaGreatDoorM01
import Derived.StillTailTactics
import Derived.Test.YtolaiebjmhieiaaGreatDoorProg
import Derived.Below
import Derived.Deep.Draws
import Derived.Deep.AppendLies
import Derived.Maps.AppendAt
import Derived.OwnWalk
import Derived.Laws.BytesArg
import Derived.Laws.MakeOwn
import Derived.Laws.OwnMore
import Derived.Deep.OwnRows
import Derived.Tactics
import Derived.Lib.ConvBytes
import Derived.Laws.Slices
import Derived.WalkKit
import Derived.KernelRfl
import Derived.RowKit3
import Derived.Deep.LoopGhost
import Derived.Deep.QuietTactic
import Derived.BigQuiet
import Derived.WideLaws
import Derived.Deep.DeepCutAuto
import Derived.Deep.CutBlock
import Derived.Deep.RegionHeld3
import Derived.Laws.Rows
import Derived.Lib.AppendStr
import Derived.ArgAppend
import Derived.Laws.IdiomCopy
import Derived.OrdersHeld
import Derived.Laws.BitsLemmas
import Derived.RowKit
import Derived.Conc.MuLib
import Derived.Conc.MuLone
import Derived.Defers
set_option maxHeartbeats 8000000
set_option maxRecDepth 100000
set_option linter.unusedVariables false
set_option linter.unusedSimpArgs false
section
namespace Go.Proofs.YtolaiebjmhieiaaGreatDoor.OScan
open Go.RowKit YtolaiebjmhieiaaGreatDoorW.PrintWords YtolaiebjmhieiaaGreatDoorW.PrintLast YtolaiebjmhieiaaGreatDoorW.PrintMore
theorem F8 (x:Fl)(w:World)(hG:jg w)(hs:x.1.size≤900000):
 Calls Tryz.prog 58 #[.agg #[.string x.1,.string x.2]] w fun e w'=>e= .returned (.bool (!kC x.1))∧Below w.heap.size w w':=by
 obtain ⟨x1,x2⟩:=x
 simp only at hs ⊢
 have HB:=aA (Below.refl w.heap.size w) (Obj.cells #[Value.string x1,Value.string x2] 46)
 have H59:=DZ x1 (w.alloc (Obj.cells #[Value.string x1,Value.string x2] 46)) (hG.below HB) hs
 have HBB:=z0 HB
 clear HB hG
 go_enter Tryz.func58,Tryz.ntmps58
 go_wp2_with (go_at_call 59;go_loud (refine H59.mono ?_;rintro e w9 ⟨rfl,hb9⟩;have HB9:=z0 (ak HBB.out hb9);clear hb9))
 go_ret
 exact ⟨rfl,HB9.out⟩
def jS:AL→List Fl→Option AL
 |m,[]=>some m
 |m,f::l=>if (eF m f.1).isSome=true then none else jS (lD m f.1 (.string f.2)) l
def eY (files:List Fl):Int × Option AL:=
 if 60<files.length then (2,none)
 else if files.any (fun f=> !kC f.1)=true then (3,none)
 else match jS [] files with|none=>(5,none)|some m=>(0,some m)
structure uU (base:Nat)(w:World)(PB fm cm:Nat)(pv:Value)(m c:AL):Prop where
 hP:w.heap[PB]? =some (.cells #[.map (some fm),pv,.int .i32 0,.int .u32 0,.map (some cm)] 87 (0,0))
 hm:gB w fm m
 hc:gB w cm c
 bP:base≤PB
 bm:base≤fm
 bc:base≤cm
 ne:fm≠cm
def KX (base:Nat)(w0:World)(pv:Value)(r:Int × Option AL)(e:Ending)(w':World):Prop:=
 match r with
 |(er,none)=>e= .returned (.tuple #[.pointer none,.int .i64 er])∧Below base w0 w'
 |(er,some m)=>(∃PB fm cm,e= .returned (.tuple #[.pointer (some ⟨PB,0,none⟩),.int .i64 er])∧uU base w' PB fm cm pv m [])∧Below base w0 w'
theorem open_any (files:List Fl)(A:Option Addr)(c:Nat)(Ap:Option Addr)(np cp:Nat)(w:World)(hG:jg w)(HC:Kd.C kFl w A files.length files)(hc:files.length≤c)(hl:files.length≤1000000)(hsz:∀f∈files,f.1.size≤900000):
 Calls Tryz.prog 31 #[.slice A files.length c,.slice Ap np cp] w (KX w.heap.size w (.slice Ap np cp) (eY files)):=by
 have hmm:∀w,(Instr.makeMap 75 none).run Tryz.prog w= .ok (.map (some w.heap.size)) (w.alloc (.map #[] 0)):=fun _=>rfl
 have hmm2:∀w,(Instr.makeMap 83 none).run Tryz.prog w= .ok (.map (some w.heap.size)) (w.alloc (.map #[] 0)):=fun _=>rfl
 obtain ⟨n,hn⟩:∃n,n=files.length:=⟨_,rfl⟩
 by_cases hbig:60<files.length
 · have hr:eY files=(2,none):=by unfold eY;rw [if_pos hbig]
   rw [hr,←hn]
   have hb1:decide ((60:Int)<(n:Int))=true:=decide_eq_true (by omega)
   clear hr HC hG
   go_enter Tryz.func31,Tryz.ntmps31
   go_wp2
   go_ret2
   exact ⟨rfl,Below.refl _ _⟩
 · have hb1:decide ((60:Int)<(n:Int))=false:=decide_eq_false (by omega)
   have HGG:=z0 hG
   have HCC:=z0 HC
   have HN:=z0 hn
   have HSZ:=z0 hsz
   have HBIG:=z0 hbig
   have H57:ah (∀W,Below w.heap.size w W→Calls Tryz.prog 57 #[.slice A n c,.func (.func 58) #[] #[]] W fun e w'=>e= .returned (.bool (files.any fun f=> !kC f.1))∧Below W.heap.size W w'):=⟨fun W hb=>by
    rw [hn]
    exact LZ files (fun f=> !kC f.1) W A c (Kd.fC HC hb) hl (fun i x w' hx hb'=>F8 x w' ((hG.below hb).below hb') (hsz x (List.mem_of_getElem? hx)))⟩
   have hB3:=aA (aA (aA (Below.refl w.heap.size w) (Obj.map #[] 0)) (Obj.map #[] 0)) (Obj.cells #[Value.map (some w.heap.size),Value.slice Ap np cp,Value.int IntKind.i32 0,Value.int IntKind.u32 0,Value.map (some (w.heap.size+1))] 87)
   have H57':=(H57.out _ hB3).mono (R':=fun e w'=>e= .returned (.bool (files.any fun f=> !kC f.1))∧ah (Below w.heap.size w w')∧ah (w'.heap[w.heap.size]? =some (.map #[] 0))∧ah (w'.heap[w.heap.size+1]? =some (.map #[] 0))∧ah (w'.heap[w.heap.size+1+1]? =some (.cells #[Value.map (some w.heap.size),Value.slice Ap np cp,Value.int IntKind.i32 0,Value.int IntKind.u32 0,Value.map (some (w.heap.size+1))] 87 (0,0)))) (fun e w' ⟨he,hb⟩=>⟨he,⟨ak hB3 hb⟩,⟨by
    rw [hb.block _ (by simp;omega),Below.heap_alloc _ _ _ (by simp only [bT];omega),Below.heap_alloc _ _ _ (by simp)]
    exact dh _ _⟩,⟨by
    rw [hb.block _ (by simp;try omega),Below.heap_alloc _ _ _ (by simp)]
    exact alloc_at (by simp)⟩,⟨by
    rw [hb.block _ (by simp)]
    exact alloc_at (by simp)⟩⟩)
   have hn6:n≤1000000:=by omega
   rw [←hn]
   clear hG HC hsz hbig hn hB3
   obtain ⟨bad,hbad⟩:∃bad,bad=files.any fun f=> !kC f.1:=⟨_,rfl⟩
   rw [←hbad] at H57'
   have HBAD:=z0 hbad
   clear hbad
   cases bad with
   |true=>
    have hr:eY files=(3,none):=by unfold eY;rw [if_neg HBIG.out,if_pos HBAD.out.symm]
    rw [hr]
    clear hr
    go_enter Tryz.func31,Tryz.ntmps31
    go_wp2_with (go_at_call 57;go_loud (refine H57'.mono ?_;rintro e w5 ⟨rfl,hb5,_⟩))
    go_ret2
    exact ⟨rfl,hb5.out⟩
   |false=>
    have hr:eY files=(match jS [] files with|none=>(5,none)|some m=>(0,some m)):=by unfold eY;rw [if_neg HBIG.out,if_neg (by rw [←HBAD.out];decide)]
    rw [hr]
    clear hr
    generalize hfr:jS [] files=fr
    have HFR:=z0 hfr
    clear hfr
    go_enter Tryz.func31,Tryz.ntmps31
    go_wp2_with (go_at_call 57;go_loud (refine H57'.mono ?_;rintro e w5 ⟨rfl,hb5,h51,h52,h53⟩))
    obtain ⟨fm,hfm⟩:∃fm,fm=w.heap.size:=⟨_,rfl⟩
    obtain ⟨cm,hcm⟩:∃cm,cm=w.heap.size+1:=⟨_,rfl⟩
    obtain ⟨PB,hPB⟩:∃PB,PB=w.heap.size+1+1:=⟨_,rfl⟩
    rw [←hPB,←hcm] at h53
    rw [←hcm] at h52
    rw [←hPB,←hcm,←hfm]
    have h51':=h51.out
    have h53':=h53.out
    rw [←hfm] at h51' h53'
    have HFM:=z0 hfm
    have HCM:=z0 hcm
    have HPB:=z0 hPB
    have HM0:ah (gB w5 fm []):=⟨⟨_,_,h51',rfl⟩⟩
    have HP0:=z0 h53'
    have hne:¬PB=fm:=by omega
    have hne2:¬fm=PB:=by omega
    have hne3:fm≠cm:=by omega
    clear hfm hcm hPB h51 h53 h51' h53'
    go_loopg [24] n (fun kq v24 w'=>∃(i:Nat) (m:AL),v24= .int .i64 i∧ah (kq+i=n)∧ah (jS m (files.drop i)=fr)∧ah (gB w' fm m)∧ah (w'.heap[cm]? =some (.map #[] 0))∧ah (w'.heap[PB]? =some (.cells #[Value.map (some fm),Value.slice Ap np cp,Value.int IntKind.i32 0,Value.int IntKind.u32 0,Value.map (some cm)] 87 (0,0)))∧ah (Below w.heap.size w w'))
    case atStart=>exact ⟨0,[],rfl,⟨rfl⟩,HFR,HM0,h52,HP0,hb5⟩
    case round=>
     obtain ⟨i,m,rfl,hki,hgo,hM,hc5,hP5,hB⟩:=hrel
     have hki':=hki.out
     cases gk with
     |zero=>
      have hlt:decide ((i:Int)<(n:Int))=false:=decide_eq_false (by omega)
      have hg:=hgo.out
      rw [List.drop_eq_nil_of_le (by rw [←HN.out];omega)] at hg
      obtain rfl:fr=some m:=hg.symm
      go_wp2
      go_ret2
      exact ⟨⟨PB,fm,cm,rfl,hP5.out,hM.out,⟨_,_,hc5.out,rfl⟩,by have:=HPB.out;omega,by have:=HFM.out;omega,by have:=HCM.out;omega,hne3⟩,hB.out⟩
     |succ g1=>
      have hlt:decide ((i:Int)<(n:Int))=true:=decide_eq_true (by omega)
      have hii:(0:Int)≤(i:Int):=by omega
      obtain ⟨x,hx⟩:∃x,files[i]? =some x:=⟨_,List.getElem?_eq_getElem (by rw [←HN.out];omega)⟩
      have hdr:files.drop i=x::files.drop (i+1):=by
       obtain ⟨hl',he'⟩:=List.getElem?_eq_some_iff.1 hx
       rw [List.drop_eq_getElem_cons hl',he']
      have hg:=hgo.out
      rw [hdr,jS] at hg
      obtain ⟨ad,hA,hx0,hx1⟩:=oP HCC.out i (by rw [←HN.out];omega) x hx
      obtain rfl:=hA
      replace hx0:=(hB.out.cell (World.block_lt_of_cell? w _ hx0)).trans hx0
      replace hx1:=(hB.out.cell (World.block_lt_of_cell? w _ hx1)).trans hx1
      clear hx hdr
      obtain ⟨nm,tx⟩:=x
      simp only at hx0 hx1 hg
      go_wp2
      obtain ⟨W1,hW1⟩:∃W1,W1=wr.alloc (Obj.cells #[Value.string nm,Value.string tx] 46):=⟨_,rfl⟩
      obtain ⟨T,hT⟩:∃T,T=wr.heap.size:=⟨_,rfl⟩
      rw [←hW1,←hT]
      have HBW:ah (Below wr.heap.size wr W1):=⟨by rw [hW1];exact aA (Below.refl _ _) _⟩
      have hTc:W1.heap[T]? =some (.cells #[Value.string nm,Value.string tx] 46 (0,0)):=by rw [hW1,hT];exact dh _ _
      have HTE:=z0 hT
      clear hW1 hT
      have hP1:=(HBW.out.block _ (aT hP5.out)).trans hP5.out
      have HM1:ah (gB W1 fm m):=⟨hM.out.same (HBW.out.block _ hM.out.lt)⟩
      have HC1:ah (W1.heap[cm]? =some (.map #[] 0)):=⟨(HBW.out.block _ (kD hc5.out)).trans hc5.out⟩
      have HB1:ah (Below w.heap.size w W1):=⟨ak hB.out HBW.out⟩
      have hTP:¬T=PB:=by have:=HTE.out;have:=aT hP5.out;omega
      have t0:W1.cell? ⟨T,0,none⟩=some (.string nm):=by have:=cell_of_row W1 T 0 _ _ _ hTc;simpa using this
      have t1:W1.cell? ⟨T,1,none⟩=some (.string tx):=by have:=cell_of_row W1 T 1 _ _ _ hTc;simpa using this
      have p0:W1.cell? ⟨PB,0,none⟩=some (.map (some fm)):=by have:=cell_of_row W1 PB 0 _ _ _ hP1;simpa using this
      have hlk:∀k:Nat,(Instr.lookup 75 (.map (some fm)) (.string nm) true).run Tryz.prog (W1.drewN k)= .ok (.tuple #[(eF m nm).getD (.string ⟨#[]⟩),.bool (eF m nm).isSome]) (W1.drewN k):=fun k=>
       (show gB (W1.drewN k) fm m from HM1.out).qB Tryz.underlying75 nm (.string ⟨#[]⟩) (fun _=>rfl)
      have HP1:=z0 hP1
      clear hM hc5 hP5 hB hTc hP1
      generalize hog:eF m nm=og at *
      have HOG:=z0 hog
      clear hog
      cases og with
      |some u=>
       rw [if_pos (show (some u).isSome=true from rfl)] at hg
       obtain rfl:fr=none:=hg.symm
       simp only [Option.getD_some,Option.isSome_some] at hlk
       go_quiet (fail)
       go_wp2
       go_ret2
       exact ⟨rfl,aY HB1.out _⟩
      |none=>
       rw [if_neg (show ¬(none:Option Value).isSome=true from by decide)] at hg
       have HGO:=z0 hg
       clear hg
       simp only [Option.getD_none,Option.isSome_none] at hlk
       go_quiet (fail)
       obtain ⟨W2,hW2⟩:∃W2,W2=W1.drewN nq:=⟨_,rfl⟩
       rw [←hW2]
       have HM2:ah (gB W2 fm m):=⟨by rw [hW2];exact HM1.out⟩
       have HC2:ah (W2.heap[cm]? =some (.map #[] 0)):=⟨by rw [hW2];exact HC1.out⟩
       have HP2:ah (W2.heap[PB]? =some (.cells #[Value.map (some fm),Value.slice Ap np cp,Value.int IntKind.i32 0,Value.int IntKind.u32 0,Value.map (some cm)] 87 (0,0))):=⟨by rw [hW2];exact HP1.out⟩
       have HB2:ah (Below w.heap.size w W2):=⟨by rw [hW2];exact aY HB1.out _⟩
       replace t0:W2.cell? ⟨T,0,none⟩=some (.string nm):=by rw [hW2];exact t0
       replace t1:W2.cell? ⟨T,1,none⟩=some (.string tx):=by rw [hW2];exact t1
       replace p0:W2.cell? ⟨PB,0,none⟩=some (.map (some fm)):=by rw [hW2];exact p0
       clear hW2 hlk HM1 HC1 HP1 HB1
       obtain ⟨W3,hrun,hM3,hO3⟩:=gB.put (W:=W2.drew) (mt:=75) (e:=9) (show gB W2.drew fm m from HM2.out) Tryz.underlying75 nm (.string tx)
       have HM3:=z0 hM3
       have HO3:=z0 hO3
       clear hM3 hO3
       go_wp2
       go_region
       have HC3:ah (W3.heap[cm]? =some (.map #[] 0)):=⟨(HO3.out.block _ (Ne.symm hne3)).trans HC2.out⟩
       have HP3:ah (W3.heap[PB]? =some (.cells #[Value.map (some fm),Value.slice Ap np cp,Value.int IntKind.i32 0,Value.int IntKind.u32 0,Value.map (some cm)] 87 (0,0))):=⟨(HO3.out.block _ hne).trans HP2.out⟩
       have HB3:ah (Below w.heap.size w W3):=⟨gI.below (fE HB2.out) HO3.out (by have:=HFM.out;omega)⟩
       clear hrun
       go_wp2
       go_roundg g1
       case measure=>omega
       case rel=>exact ⟨i+1,_,by (try simp),⟨by omega⟩,HGO,HM3,HC3,HP3,HB3⟩
def jB (files:List Fl)(name:ByteArray):Int × Option AL:=
 match eY files with
 |(er,none)=>(er,none)
 |(er,some m)=>if (eF m name).isSome=true then (er,some m) else (4,none)
theorem nR (files:List Fl):((eY files).2=none∧((eY files).1=2∨(eY files).1=3∨(eY files).1=5))∨∃m,eY files=(0,some m):=by
 unfold eY
 split
 · exact .inl ⟨rfl,.inl rfl⟩
 · split
   · exact .inl ⟨rfl,.inr (.inl rfl)⟩
   · split
     · exact .inl ⟨rfl,.inr (.inr rfl)⟩
     · exact .inr ⟨_,rfl⟩
theorem Bj (files:List Fl)(name:ByteArray)(A:Option Addr)(c:Nat)(Ap:Option Addr)(np cp:Nat)(w:World)(hG:jg w)(HC:Kd.C kFl w A files.length files)(hc:files.length≤c)(hl:files.length≤1000000)(hsz:∀f∈files,f.1.size≤900000):
 Calls Tryz.prog 20 #[.slice A files.length c,.string name,.slice Ap np cp] w (KX w.heap.size w (.slice Ap np cp) (jB files name)):=by
 have H31:=open_any files A c Ap np cp w hG HC hc hl hsz
 obtain ⟨n,hn⟩:∃n,n=files.length:=⟨_,rfl⟩
 rw [←hn] at H31 ⊢
 clear hn HC hG hc hl hsz
 rcases nR files with ⟨h1,h2⟩|⟨m,hm⟩
 · obtain ⟨er,om⟩:∃er,eY files=(er,none):=⟨(eY files).1,by rw [←h1]⟩
   have hw:jB files name=(er,none):=by unfold jB;rw [om]
   rw [om] at H31 h2
   rw [hw]
   simp only at h2
   have hne:¬er=0:=by omega
   have hne':(er !=0)=true:=by simp [hne]
   clear hw om h1 h2
   go_enter Tryz.func20,Tryz.ntmps20
   go_wp2_with (go_at_call 31;go_loud (refine H31.mono ?_;rintro e w5 ⟨rfl,hb5⟩;have HB5:=z0 hb5;clear hb5))
   go_ret2
   exact ⟨rfl,HB5.out⟩
 · rw [hm] at H31
   cases hg:eF m name with
   |none=>
    have hw:jB files name=(4,none):=by unfold jB;rw [hm];simp [hg]
    rw [hw]
    clear hw hm
    go_enter Tryz.func20,Tryz.ntmps20
    go_wp2_with (go_at_call 31;go_loud (refine H31.mono ?_;rintro e w5 ⟨⟨PB,fm,cm,rfl,hp⟩,hb5⟩;have HB5:=z0 hb5;have HP:=z0 hp;have p0:w5.cell? ⟨PB,0,none⟩=some (.map (some fm)):=(by have:=cell_of_row w5 PB 0 _ _ _ hp.hP;simpa using this);have hlk:∀k:Nat,(Instr.lookup 75 (.map (some fm)) (.string name) true).run Tryz.prog (w5.drewN k)= .ok (.tuple #[.string ⟨#[]⟩,.bool false]) (w5.drewN k):=(fun k=>by have:=(show gB (w5.drewN k) fm m from hp.hm).qB Tryz.underlying75 name (.string ⟨#[]⟩) (fun _=>rfl);rw [hg] at this;exact this);have hlk0:(Instr.lookup 75 (.map (some fm)) (.string name) true).run Tryz.prog w5= .ok (.tuple #[.string ⟨#[]⟩,.bool false]) w5:=(by have:=hp.hm.qB Tryz.underlying75 name (.string ⟨#[]⟩) (fun _=>rfl);rw [hg] at this;exact this);clear hb5 hp))
    go_ret2
    exact ⟨rfl,HB5.out⟩
   |some u=>
    have hw:jB files name=(0,some m):=by unfold jB;rw [hm];simp [hg]
    rw [hw]
    clear hw hm
    go_enter Tryz.func20,Tryz.ntmps20
    go_wp2_with (go_at_call 31;go_loud (refine H31.mono ?_;rintro e w5 ⟨⟨PB,fm,cm,rfl,hp⟩,hb5⟩;have HB5:=z0 hb5;have HP:=z0 hp;have p0:w5.cell? ⟨PB,0,none⟩=some (.map (some fm)):=(by have:=cell_of_row w5 PB 0 _ _ _ hp.hP;simpa using this);have hlk0:(Instr.lookup 75 (.map (some fm)) (.string name) true).run Tryz.prog w5= .ok (.tuple #[u,.bool true]) w5:=(by have:=hp.hm.qB Tryz.underlying75 name (.string ⟨#[]⟩) (fun _=>rfl);rw [hg] at this;exact this);clear hb5 hp))
    go_ret2
    exact ⟨⟨PB,fm,cm,rfl,HP.out⟩,HB5.out⟩
def nJ (b:UInt8):Bool:=([32,9]:List UInt8).contains b
def trimF:Nat→ByteArray→ByteArray
 |0,s=>s
 |k+1,s=>if s.size=0 then s else if nJ (s.data.getD 0 0)=true then trimF k (s.extract 1 s.size) else s
theorem at0 (s:ByteArray)(h:0<s.size):s.data.getD 0 0=s[0]'h:=by
 have h':0<s.data.size:=h
 simp only [Array.getD,h',dite_true]
 rfl
def trimB (s:ByteArray):ByteArray:=trimF s.size s
theorem Fp (s:ByteArray)(b:Nat)(w:World)(hs:s.size≤1000000)(hset:∀x:UInt8,w.cell? ⟨b,x.toNat,none⟩=some (.bool (nJ x))):
 Calls Tryz.prog 129 #[.string s,.pointer (some ⟨b,0,none⟩)] w fun e w'=>e= .returned (.string (trimB s))∧w'=w:=by
 have H167:=fun x=>Tryz.asciiSet_contains b x _ w (hset x)
 go_enter Tryz.func129,Tryz.ntmps129
 go_wp2
 go_loopg [0] s.size (fun kq v0 w'=>∃(s':ByteArray),v0= .string s'∧w'=w∧ah (kq=s'.size)∧ah (trimB s'=trimB s)∧ah (s'.size≤1000000))
 case atStart=>exact ⟨s,rfl,rfl,⟨rfl⟩,⟨rfl⟩,⟨hs⟩⟩
 case round=>
  obtain ⟨s',rfl,rfl,hk,ht,hsz⟩:=hrel
  cases gk with
  |zero=>
   have h0:s'.size=0:=hk.out.symm
   go_wp2
   go_ret
   refine ⟨?_,rfl⟩
   rw [←ht.out,trimB,h0]
   rfl
  |succ g1=>
   have h0:(0:Int)<(s'.size:Int):=by have:=hk.out;omega
   have h1:0<s'.size:=by omega
   have h2:(1:Int)≤(s'.size:Int):=by omega
   have hex:(s'.extract 1 s'.size).size=g1:=by rw [ByteArray.size_extract];have:=hk.out;omega
   have hst:trimB s'=if nJ (s'[0]'h1)=true then trimB (s'.extract 1 s'.size) else s':=by
    have key:∀k,k=g1+1→trimF k s'=if nJ (s'[0]'h1)=true then trimF g1 (s'.extract 1 s'.size) else s':=by
     rintro k rfl
     rw [trimF,if_neg (by omega),at0 s' h1]
    unfold trimB
    rw [hex]
    exact key _ hk.out.symm
   have hle:ah ((s'.extract 1 s'.size).size≤1000000):=⟨by rw [hex];have:=hk.out;have:=hsz.out;omega⟩
   have HEX:=z0 hex
   have HST:=z0 hst
   clear hex hst
   by_cases hbl:nJ (s'[0]'h1)=true
   · have H:=H167 (s'[0]'h1)
     rw [hbl] at H
     go_wp2_with (go_at_call 167;go_loud (refine H.mono ?_;rintro e w9 ⟨rfl,rfl⟩))
     go_roundg g1
     case measure=>omega
     case rel=>exact ⟨_,rfl,rfl,⟨HEX.out.symm⟩,⟨by rw [←ht.out,HST.out,if_pos hbl]⟩,hle⟩
   · have hbf:nJ (s'[0]'h1)=false:=by simpa using hbl
     have H:=H167 (s'[0]'h1)
     rw [hbf] at H
     go_wp2_with (go_at_call 167;go_loud (refine H.mono ?_;rintro e w9 ⟨rfl,rfl⟩))
     go_ret
     refine ⟨?_,rfl⟩
     rw [←ht.out,HST.out,if_neg hbl]
     rfl
theorem zW (s:ByteArray)(w:World)(hs:s.size≤1000000):
 Calls Tryz.prog 71 #[.string s,.string ⟨#[32,9]⟩] w fun e w'=>e= .returned (.string (trimB s))∧Below w.heap.size w w':=by
 have H128:=Tryz.strings_makeASCIISet (fun _=>by kernel_rfl) ⟨#[32,9]⟩ w (by decide) (ascii_of (by decide))
 have hz:∀w,(zeroValue 185).run Tryz.prog w= .ok (.agg (Array.replicate 256 (.bool false))) w:=fun _=>by kernel_rfl
 have hS1:(Lib.setCells (⟨#[32,9]⟩:ByteArray).data.toList).size=256:=Lib.setCells_size _
 have hS2:∀x:UInt8,(Lib.setCells (⟨#[32,9]⟩:ByteArray).data.toList)[x.toNat]? =some (.bool (nJ x)):=fun x=>Lib.setCells_at [32,9] x
 have hS3:∀q∈(Lib.setCells (⟨#[32,9]⟩:ByteArray).data.toList).toList,q.oneCell'=true:=by
  rw [Lib.setCells_eq]
  intro q hq
  simp only [Array.toList_map,List.mem_map] at hq
  obtain ⟨_,_,rfl⟩:=hq
  rfl
 generalize Lib.setCells (⟨#[32,9]⟩:ByteArray).data.toList=S at *
 have hZ:(Array.replicate 256 (Value.bool false)).size=256:=by simp
 generalize Array.replicate 256 (Value.bool false)=Z at *
 obtain ⟨W1,hW1⟩:∃W1,W1=w.alloc (.cells S 185):=⟨_,rfl⟩
 have HB1:ah (Below w.heap.size w W1):=⟨by rw [hW1];exact aA (Below.refl _ _) _⟩
 rw [←hW1] at H128
 clear hW1
 obtain ⟨W2,hW2⟩:∃W2,W2=W1.alloc (.cells Z 185):=⟨_,rfl⟩
 have hZc:W2.heap[W1.heap.size]? =some (.cells Z 185 (0,0)):=by rw [hW2];exact dh _ _
 obtain ⟨cur,hc1,hc2,hc3⟩:=iT S.toList 0 W2 Z hZc (by simp [hS1,hZ])
 have hcur:cur=S:=by
  apply Array.ext'
  rw [hc3]
  simp [hS1,hZ]
 rw [hcur] at hc1
 have hst:(storeCells ⟨W1.heap.size,0,none⟩ S.toList).run Tryz.prog W2= .ok () (W2.setCells W1.heap.size 0 S.toList):=by
  have:=run_storeCells_cells (P:=Tryz.prog) W1.heap.size 0 S.toList 0 W2 (fun j hj=>by
   have:0+0+j<Z.size:=by rw [hZ];rw [Array.length_toList,hS1] at hj;omega
   rw [cell_of_row W2 W1.heap.size _ Z 185 (0,0) hZc]
   simp only [Array.getElem?_eq_getElem this,Option.isSome_some]) (fun j _=>aj hZc _) hS3
  simpa using this
 obtain ⟨W3,hW3⟩:∃W3,W3=W2.setCells W1.heap.size 0 S.toList:=⟨_,rfl⟩
 rw [←hW3] at hc1 hst
 have HB3:ah (Below w.heap.size w W3):=by
  obtain ⟨s1,s2,s3,s4⟩:=lM W1.heap.size S.toList 0 W2
  have hB2:Below w.heap.size w W2:=by rw [hW2];exact aA HB1.out _
  have hle:=HB1.out.size
  refine ⟨⟨?_,?_,?_,?_,fun k hk=> ?_⟩⟩
  · rw [hW3,s1];exact hB2.os
  · rw [hW3,s2];exact hB2.tape
  · rw [hW3,s3];exact hB2.output
  · rw [hW3,s4];exact hB2.size
  · rw [hW3,kU S.toList 0 k (by omega)];exact hB2.block k hk
 have HT:ah (Calls Tryz.prog 129 #[.string s,.pointer (some ⟨W1.heap.size,0,none⟩)] W3 fun e w'=>e= .returned (.string (trimB s))∧w'=W3):=⟨Fp s W1.heap.size W3 hs (fun x=>by rw [cell_of_row W3 W1.heap.size _ S 185 (0,0) hc1];exact hS2 x)⟩
 clear hW3 hc2 hc3 hcur hZc hS2 hS3 hc1
 rw [hW2] at hst
 clear hW2
 by_cases h0:s.toList=([]:List UInt8)
 · have c1:(s.toList==([]:List UInt8))=true:=beq_iff_eq.mpr h0
   have hz0:s.size=0:=by
    have:=congrArg List.length h0
    rw [ByteArray.toList_eq,iM] at this
    exact this
   have ht:trimB s=s:=by unfold trimB;rw [hz0];rfl
   rw [ht]
   clear h0
   go_enter Tryz.func71,Tryz.ntmps71
   go_wp2
   go_ret
   exact ⟨rfl,Below.refl _ _⟩
 · have c1:(s.toList==([]:List UInt8))=false:=beq_eq_false_iff_ne.mpr h0
   clear h0
   go_enter Tryz.func71,Tryz.ntmps71
   go_wp2_with (first|(go_at_call 128;go_loud (refine H128.mono ?_;rintro e w9 ⟨rfl,rfl⟩))|(go_at_call 129;go_loud (refine HT.out.mono ?_;rintro e w9 ⟨rfl,rfl⟩)))
   go_ret
   exact ⟨rfl,HB3.out⟩
abbrev oG:List UInt8:=[105,110,99,108,117,100,101]
def xU (u:Option (ByteArray × Bool)):Value:=match u with
 |none=> .agg #[.string ⟨#[]⟩,.bool false,.string ⟨#[]⟩]
 |some (n,q)=> .agg #[.string n,.bool q,.string ⟨#[]⟩]
theorem J3 (t:Tk)(kd:ByteArray)(w:World)(hG:jg w)(hk:rD t kd)(hne:kd.toList≠oG):
 Calls Tryz.prog 42 #[.agg #[.int .i64 t.1,.string t.2.1,.string t.2.2.1,.int .i64 t.2.2.2]] w fun e w'=>e= .returned (.tuple #[xU none,.bool false])∧Below w.heap.size w w':=by
 obtain ⟨k,hk⟩:=hk
 obtain ⟨t1,t2,t3,t4⟩:=t
 simp only at hk ⊢
 have hB:=aA (aA (Below.refl w.heap.size w) (Obj.cells #[Value.int .i64 t1,Value.string t2,Value.string t3,Value.int .i64 t4] 95)) (Obj.cells #[Value.string ⟨#[]⟩,Value.bool false,Value.string ⟨#[]⟩] 34)
 have H67:=OCond.jd.calls k t1 t2 t3 t4 kd _ hk (hG.below hB)
 have HB:=z0 hB
 have c1:(kd.toList !=oG)=true:=bne_iff_ne.mpr hne
 have c1':(kd.toList==oG)=false:=beq_eq_false_iff_ne.mpr hne
 clear hB hG hk hne
 go_enter Tryz.func42,Tryz.ntmps42
 go_wp2_with (go_at_call 67;go_loud (refine H67.mono ?_;rintro e w9 ⟨rfl,hb9⟩;have h2:=(hb9.block (w.heap.size+1) (by simp)).trans (alloc_at (by simp));have u0:w9.cell? ⟨w.heap.size+1,0,none⟩=some (.string ⟨#[]⟩):=(by have:=cell_of_row w9 _ 0 _ _ _ h2;simpa using this);have u1:w9.cell? ⟨w.heap.size+1,1,none⟩=some (.bool false):=(by have:=cell_of_row w9 _ 1 _ _ _ h2;simpa using this);have u2:w9.cell? ⟨w.heap.size+1,2,none⟩=some (.string ⟨#[]⟩):=(by have:=cell_of_row w9 _ 2 _ _ _ h2;simpa using this);have f0:=aj h2 0;have f1:=aj h2 1;have f2:=aj h2 2;have HB9:=z0 (ak HB.out hb9);have H2:=z0 h2;clear hb9 h2))
 obtain ⟨W3,hW3⟩:∃W3,W3=(((w9.setCell {block:=w.heap.size+1,off:=0} (Value.string {data:= #[]})).setCell {block:=w.heap.size+1,off:=1} (Value.bool false)).setCell {block:=w.heap.size+1,off:=2} (Value.string {data:= #[]})):=⟨_,rfl⟩
 rw [←hW3]
 have h3:W3.heap[w.heap.size+1]? =some (.cells #[.string ⟨#[]⟩,.bool false,.string ⟨#[]⟩] 34 (0,0)):=by
  rw [hW3];exact dR (dR (dR H2.out 0 _ rfl) 1 _ rfl) 2 _ rfl
 have HB3:ah (Below w.heap.size w W3):=⟨by rw [hW3];exact bC (bC (bC HB9.out (by omega)) (by omega)) (by omega)⟩
 clear u0 u1 u2 f0 f1 f2 hW3 H2
 have u0:W3.cell? ⟨w.heap.size+1,0,none⟩=some (.string ⟨#[]⟩):=by have:=cell_of_row W3 _ 0 _ _ _ h3;simpa using this
 have u1:W3.cell? ⟨w.heap.size+1,1,none⟩=some (.bool false):=by have:=cell_of_row W3 _ 1 _ _ _ h3;simpa using this
 have u2:W3.cell? ⟨w.heap.size+1,2,none⟩=some (.string ⟨#[]⟩):=by have:=cell_of_row W3 _ 2 _ _ _ h3;simpa using this
 refine bodyPost_ret (v:= .tuple #[xU none,.bool false]) ?res rfl ⟨rfl,HB3.out⟩
 case res=>
  unfold results
  rw [show Tryz.f42.results= #[.cell 2 34,.tmp 3] from rfl]
  go_simp
  rfl
theorem Bv:∀(k:Nat) (s:ByteArray),(trimF k s).size≤s.size
 |0,s=>Nat.le_refl _
 |k+1,s=>by
  unfold trimF
  split
  · exact Nat.le_refl _
  · split
    · exact Nat.le_trans (Bv k _) (by rw [ByteArray.size_extract];omega)
    · exact Nat.le_refl _
theorem Bz (s:ByteArray):(trimB s).size≤s.size:=Bv _ _
def nH (rest:ByteArray)(c:UInt8):Bool:=(OCond.strings_HasPrefix.f rest ⟨#[c]⟩).getD false
theorem D6 (rest:ByteArray)(c:UInt8):OCond.strings_HasPrefix.f rest ⟨#[c]⟩=some (nH rest c):=by
 have h1:(⟨#[c]⟩:ByteArray).size=1:=rfl
 unfold nH
 unfold OCond.strings_HasPrefix.f OCond.stringslite_HasPrefix.f
 rw [h1]
 by_cases h:(rest.size:Int)≥((1:Nat):Int)
 · rw [if_pos h,if_pos (by omega),if_pos h];rfl
 · rw [if_neg h];rfl
theorem nX {rest:ByteArray}{c:UInt8}(h:nH rest c=true):1≤rest.size:=by
 have h1:(⟨#[c]⟩:ByteArray).size=1:=rfl
 unfold nH at h
 unfold OCond.strings_HasPrefix.f OCond.stringslite_HasPrefix.f at h
 rw [h1] at h
 by_cases h2:(rest.size:Int)≥((1:Nat):Int)
 · omega
 · rw [if_neg h2] at h;simp at h
def between (rest:ByteArray)(c:UInt8)(q:Bool):Option (ByteArray × Bool):=
 let e:=Lib.indexByte (rest.extract 1 rest.size).data.toList c
 if e<0 then none else some (rest.extract 1 (1+e).toNat,q)
theorem nV (s:ByteArray)(c:UInt8): -1≤Lib.indexByte s.data.toList c∧Lib.indexByte s.data.toList c<(s.size:Int):=by
 have h1:=Lib.indexByte_ge s.data.toList c
 refine ⟨h1,?_⟩
 by_cases h:Lib.indexByte s.data.toList c= -1
 · rw [h];omega
 · obtain ⟨o,ho⟩:=Int.eq_ofNat_of_zero_le (show 0≤Lib.indexByte s.data.toList c by omega)
   obtain ⟨h2,_⟩:=Lib.indexByte_some ho
   have h3:=(List.getElem?_eq_some_iff.1 h2).1
   rw [iM] at h3
   omega
def uX (rest:ByteArray):Option (ByteArray × Bool):=
 if nH rest 34=true then between rest 34 true else if nH rest 60=true then between rest 62 false else none
theorem JZ (t:Tk)(kd:ByteArray)(ws:List OCond.S95)(er a:Int)(w:World)(hG:jg w)(hk:rD t kd)(hne:kd.toList=oG)(hW:OCond.iy.f t.1 t.2.1 t.2.2.1 t.2.2.2=some (ws,er))
 (hl:1≤ws.length) (ha:(OCond.iF ws 0).f3=a) (h0:0≤a) (h1:a+8≤t.2.2.1.size) (hs:t.2.2.1.size≤1000000) (r:Option (ByteArray × Bool)) (hr:r=uX (trimB (t.2.2.1.extract (a+8).toNat t.2.2.1.size))):
 Calls Tryz.prog 42 #[.agg #[.int .i64 t.1,.string t.2.1,.string t.2.2.1,.int .i64 t.2.2.2]] w fun e w'=>e= .returned (.tuple #[xU r,.bool r.isSome])∧Below w.heap.size w w':=by
 obtain ⟨k,hk⟩:=hk
 obtain ⟨t1,t2,t3,t4⟩:=t
 simp only at hk hW h1 hs hr ⊢
 have hB:=aA (aA (Below.refl w.heap.size w) (Obj.cells #[Value.int .i64 t1,Value.string t2,Value.string t3,Value.int .i64 t4] 95)) (Obj.cells #[Value.string ⟨#[]⟩,Value.bool false,Value.string ⟨#[]⟩] 34)
 have H67:=OCond.jd.calls k t1 t2 t3 t4 kd _ hk (hG.below hB)
 have H70:=fun W hG'=>OCond.iy.calls t1 t2 t3 t4 ws er W hW hG'
 have HB:=z0 hB
 have HG:=z0 hG
 have c1:(kd.toList !=oG)=false:=bne_eq_false_iff_eq.mpr hne
 have c1':(kd.toList==oG)=true:=beq_iff_eq.mpr hne
 obtain ⟨p,hp⟩:∃p,p=a+8:=⟨_,rfl⟩
 rw [←hp] at hr
 have w1:IntKind.i64.wrap (1+a)=1+a:=IntWalk.i64_in _ (by omega)
 have w2:IntKind.i64.wrap (1+a+7)=p:=by rw [IntWalk.i64_in _ (by omega)];omega
 have w3:(0:Int)≤p:=by omega
 have w4:p≤(t3.size:Int):=by omega
 have HTL:ah (∀W,Calls Tryz.prog 71 #[.string (t3.extract p.toNat t3.size),.string ⟨#[32,9]⟩] W fun e w'=>e= .returned (.string (trimB (t3.extract p.toNat t3.size)))∧Below W.heap.size W w'):=⟨fun W=>zW _ W (by rw [ByteArray.size_extract];omega)⟩
 clear hp h0 h1
 have hrl:(trimB (t3.extract p.toNat t3.size)).size≤1000000:=Nat.le_trans (Bz _) (by rw [ByteArray.size_extract];omega)
 generalize trimB (t3.extract p.toNat t3.size)=rest at *
 have H72:ah (∀(c:UInt8) (W:World),Calls Tryz.prog 72 #[.string rest,.string ⟨#[c]⟩] W fun e w'=>e= .returned (.bool (nH rest c))∧Below W.heap.size W w'):=⟨fun c W=>(OCond.strings_HasPrefix.calls rest ⟨#[c]⟩ _ W (D6 rest c)).mono fun e w' ⟨h1,h2⟩=>⟨h1,h2.below⟩⟩
 have HA:=z0 ha
 have HL:=z0 hl
 have HRR:=z0 hr
 obtain ⟨m,hm⟩:∃m,m=ws.length:=⟨_,rfl⟩
 have hlz:(0:Int)<(m:Int):=by omega
 have hlm:0<m:=by omega
 have HM:=z0 hm
 clear hm hl
 clear hB hG hk hne hW ha hr
 go_enter Tryz.func42,Tryz.ntmps42
 go_wp2_with (first|(go_at_call 67;go_loud (refine H67.mono ?_;rintro e w9 ⟨rfl,hb9⟩;have h2:=(hb9.block (w.heap.size+1) (by simp)).trans (alloc_at (by simp));have h3:=(hb9.block w.heap.size (by simp;omega)).trans ((Below.heap_alloc _ _ _ (by simp)).trans (dh _ _));have b0:w9.cell? ⟨w.heap.size,0,none⟩=some (.int .i64 t1):=(by have:=cell_of_row w9 _ 0 _ _ _ h3;simpa using this);have b1:w9.cell? ⟨w.heap.size,1,none⟩=some (.string t2):=(by have:=cell_of_row w9 _ 1 _ _ _ h3;simpa using this);have b2:w9.cell? ⟨w.heap.size,2,none⟩=some (.string t3):=(by have:=cell_of_row w9 _ 2 _ _ _ h3;simpa using this);have b3:w9.cell? ⟨w.heap.size,3,none⟩=some (.int .i64 t4):=(by have:=cell_of_row w9 _ 3 _ _ _ h3;simpa using this);have HB9:=z0 (ak HB.out hb9);have H2:=z0 h2;have H3:=z0 h3;clear hb9 h2 h3))|(go_at_call 70;go_loud (refine (H70 _ (HG.out.below HB9.out)).mono ?_;rintro e w7 ⟨v7,rfl,hr7,hb7⟩;obtain ⟨g7,c7,hv7,_⟩:=Kd.rC hr7 (by have:=HL.out;omega);rw [←HM.out] at hv7;subst hv7;obtain ⟨ad,e1,_,_,_,q3⟩:=OCond.pG (Kd.aZ hr7).2.2 0 (by omega) (by have:=HL.out;omega);obtain rfl:ad=⟨g7,0,none⟩:=(by injection e1 with e1;exact e1.symm);rw [HA.out] at q3;have q3':w7.cell? ⟨g7,3,none⟩=some (.int .i64 a):=(by simpa [Addr.add] using q3);clear q3 e1;have HR7:=z0 hr7;have HB7:=z0 (ak HB9.out hb7);have H27:=z0 ((hb7.block _ (aT H2.out)).trans H2.out);have h37:=(hb7.block _ (aT H3.out)).trans H3.out;have b2:w7.cell? ⟨w.heap.size,2,none⟩=some (.string t3):=(by have:=cell_of_row w7 _ 2 _ _ _ h37;simpa using this);clear hr7 hb7 h37)))
 go_still_tail 9,(by kernel_rfl)
 change wpList _ _ _ _ _ w7.drew
 obtain ⟨w6,hw6⟩:∃w6,w6=w7.drew:=⟨_,rfl⟩
 rw [←hw6]
 have HB6:ah (Below w.heap.size w w6):=⟨by rw [hw6];exact fE HB7.out⟩
 have H26:ah (w6.heap[w.heap.size+1]? =some (.cells #[.string ⟨#[]⟩,.bool false,.string ⟨#[]⟩] 34 (0,0))):=⟨by rw [hw6];exact H27.out⟩
 clear hw6 b0 b1 b2 b3 q3' HR7 H27 H2 H3 HB9 HB7
 go_wp2_with (go_at_call 71;go_loud (refine (HTL.out _).mono ?_;rintro e w5 ⟨rfl,hb5⟩;have HB5:=z0 (ak HB6.out hb5);have H25:=z0 ((hb5.block _ (aT H26.out)).trans H26.out);clear hb5))
 obtain ⟨B2,hB2⟩:∃B2,B2=w.heap.size+1:=⟨_,rfl⟩
 obtain ⟨MB,hMBe⟩:∃MB,MB=w5.heap.size:=⟨_,rfl⟩
 rw [←hB2] at H25
 rw [←hB2,←hMBe]
 obtain ⟨W0,hW0⟩:∃W0,W0=w5.alloc (Obj.cells #[Value.string {data:= #[34,34]},Value.string {data:= #[60,62]}] 9):=⟨_,rfl⟩
 rw [←hW0]
 have HB0:ah (Below w.heap.size w W0):=⟨by rw [hW0];exact aA HB5.out _⟩
 have H20:ah (W0.heap[B2]? =some (.cells #[.string ⟨#[]⟩,.bool false,.string ⟨#[]⟩] 34 (0,0))):=⟨by rw [hW0];exact dN H25.out _⟩
 have HM0:ah (W0.heap[MB]? =some (.cells #[Value.string {data:= #[34,34]},Value.string {data:= #[60,62]}] 9 (0,0))):=⟨by rw [hW0,hMBe];exact dh _ _⟩
 have HB2:ah (w.heap.size≤B2):=⟨by omega⟩
 clear hW0 hB2 hMBe HB5 H25 HB6 H26
 have hincP:ah (uX rest=if nH rest 34=true then between rest 34 true else if nH rest 60=true then between rest 62 false else none):=⟨rfl⟩
 go_loopg [31] 2 (fun kq v31 w'=>∃(i:Nat),v31= .int .i64 i∧ah (kq+i=2)∧ah (1≤i→nH rest 34=false)∧ah (2≤i→nH rest 60=false)∧ah (w'.heap[B2]? =some (.cells #[.string ⟨#[]⟩,.bool false,.string ⟨#[]⟩] 34 (0,0)))∧ah (w'.heap[MB]? =some (.cells #[Value.string {data:= #[34,34]},Value.string {data:= #[60,62]}] 9 (0,0)))∧ah (Below w.heap.size w w'))
 case atStart=>exact ⟨0,rfl,⟨rfl⟩,⟨fun h=>absurd h (by decide)⟩,⟨fun h=>absurd h (by decide)⟩,H20,HM0,HB0⟩
 case round=>
  obtain ⟨i,rfl,hki,h34,h60,h2r,hMB,hB⟩:=hrel
  have hki':=hki.out
  obtain rfl|rfl|rfl:i=0∨i=1∨i=2:=by omega
  · obtain rfl:gk=2:=by omega
    have hc:(wr.cell? ⟨MB,0,none⟩)=some (.string ⟨#[34,34]⟩):=by have:=cell_of_row wr _ 0 _ _ _ hMB.out;simpa using this
    cases hp:nH rest 34 with
    |false=>
     have H:=H72.out 34
     rw [hp] at H
     have HP:=z0 hp
     clear hp
     go_wp2_with (go_at_call 72;go_loud (refine (H _).mono ?_;rintro e w4 ⟨rfl,hb4⟩;have HB4:=z0 (ak hB.out hb4);have h24:=z0 ((hb4.block _ (aT h2r.out)).trans h2r.out);have hMB4:=z0 ((hb4.block _ (aT hMB.out)).trans hMB.out);clear hb4))
     go_roundg 1
     case measure=>omega
     case rel=>exact ⟨1,by (try simp),⟨rfl⟩,⟨fun _=>HP.out⟩,⟨fun h=>absurd h (by decide)⟩,h24,hMB4,HB4⟩
    |true=>
     have H:=H72.out 34
     rw [hp] at H
     have hsz:=nX hp
     have hsz':(1:Int)≤(rest.size:Int):=by omega
     have HP:=z0 hp
     clear hp
     obtain ⟨e1,e2⟩:=nV (rest.extract 1 rest.size) 34
     have H73:ah (∀W,Calls Tryz.prog 73 #[.string (rest.extract 1 rest.size),.int .u8 34] W fun e w'=>e= .returned (.int .i64 (Lib.indexByte (rest.extract 1 rest.size).data.toList 34))∧w'=W):=⟨fun W=>Tryz.strings_IndexByte _ 34 W⟩
     have hrb:r=(let e:=Lib.indexByte (rest.extract 1 rest.size).data.toList 34;if e<0 then none else some (rest.extract 1 (1+e).toNat,true)):=by rw [HRR.out,hincP.out,if_pos HP.out];rfl
     generalize Lib.indexByte (rest.extract 1 rest.size).data.toList 34=ev at *
     have hes:((rest.extract 1 rest.size).size:Int)=rest.size-1:=by rw [ByteArray.size_extract];omega
     rw [hes] at e2
     clear hes
     go_wp2_with (go_at_call 72;go_loud (refine (H _).mono ?_;rintro e w4 ⟨rfl,hb4⟩;have HB4:=z0 (ak hB.out hb4);have h24:=(hb4.block _ (aT h2r.out)).trans h2r.out;replace hc:=(hb4.cell (World.block_lt_of_cell? wr _ hc)).trans hc;clear hb4))
     go_quiet (first|(go_at_call 73;refine Calls.quiet_of_same (H73.out _)))
     obtain ⟨w2_,hw2⟩:∃w2_,w2_=w4.drewN nq:=⟨_,rfl⟩
     rw [←hw2]
     have HB2_:ah (Below w.heap.size w w2_):=⟨by rw [hw2];exact aY HB4.out _⟩
     have h22:w2_.heap[B2]? =some (.cells #[.string ⟨#[]⟩,.bool false,.string ⟨#[]⟩] 34 (0,0)):=by rw [hw2];exact h24
     replace hc:w2_.cell? ⟨MB,0,none⟩=some (.string ⟨#[34,34]⟩):=by rw [hw2];exact hc
     clear hw2 h24
     have u0:w2_.cell? ⟨B2,0,none⟩=some (.string ⟨#[]⟩):=by have:=cell_of_row w2_ _ 0 _ _ _ h22;simpa using this
     have u1:w2_.cell? ⟨B2,1,none⟩=some (.bool false):=by have:=cell_of_row w2_ _ 1 _ _ _ h22;simpa using this
     have u2:w2_.cell? ⟨B2,2,none⟩=some (.string ⟨#[]⟩):=by have:=cell_of_row w2_ _ 2 _ _ _ h22;simpa using this
     have f0:=aj h22 0
     have f1:=aj h22 1
     have f2:=aj h22 2
     have H22:=z0 h22
     clear h22
     (try dsimp only at hrb)
     by_cases hev:ev<0
     · rw [if_pos hev] at hrb
       subst hrb
       have hd:decide (ev<0)=true:=decide_eq_true hev
       go_wp2
       obtain ⟨W3,hW3⟩:∃W3,W3=((w2_.setCell ⟨B2,0,none⟩ (Value.string ⟨#[]⟩)).setCell ⟨B2,1,none⟩ (Value.bool false)).setCell ⟨B2,2,none⟩ (Value.string ⟨#[]⟩):=⟨_,rfl⟩
       rw [←hW3]
       have h3:W3.heap[B2]? =some (.cells #[.string ⟨#[]⟩,.bool false,.string ⟨#[]⟩] 34 (0,0)):=by
        rw [hW3];exact dR (dR (dR H22.out 0 _ rfl) 1 _ rfl) 2 _ rfl
       have HB3:ah (Below w.heap.size w W3):=⟨by rw [hW3];exact bC (bC (bC HB2_.out HB2.out) HB2.out) HB2.out⟩
       clear u0 u1 u2 f0 f1 f2 hW3
       have u0:W3.cell? ⟨B2,0,none⟩=some (.string ⟨#[]⟩):=by have:=cell_of_row W3 _ 0 _ _ _ h3;simpa using this
       have u1:W3.cell? ⟨B2,1,none⟩=some (.bool false):=by have:=cell_of_row W3 _ 1 _ _ _ h3;simpa using this
       have u2:W3.cell? ⟨B2,2,none⟩=some (.string ⟨#[]⟩):=by have:=cell_of_row W3 _ 2 _ _ _ h3;simpa using this
       refine bodyPost_ret (v:= .tuple #[xU none,.bool false]) ?res rfl ⟨rfl,HB3.out⟩
       case res=>
        unfold results
        rw [show Tryz.f42.results= #[.cell 2 34,.tmp 3] from rfl]
        go_simp
        first|done|rfl
     · rw [if_neg hev] at hrb
       subst hrb
       have hd:decide (ev<0)=false:=decide_eq_false hev
       have g1:IntKind.i64.wrap (1+ev)=1+ev:=IntWalk.i64_in _ (by omega)
       have g2:(1:Int)≤1+ev:=by omega
       have g3:1+ev≤(rest.size:Int):=by omega
       go_wp2
       go_region
       obtain ⟨W3,hW3⟩:∃W3,W3=(((w2_.setCell ⟨B2,0,none⟩ (Value.string (rest.extract 1 (1+ev).toNat))).setCell ⟨B2,1,none⟩ (Value.bool true)).setCell ⟨B2,2,none⟩ (Value.string ⟨#[]⟩)).drew:=⟨_,rfl⟩
       refine (show Exit.then _ _ _ _ W3→_ from fun h=>by rw [hW3] at h;exact h) ?_
       have h3:W3.heap[B2]? =some (.cells #[.string (rest.extract 1 (1+ev).toNat),.bool true,.string ⟨#[]⟩] 34 (0,0)):=by
        rw [hW3];refine dF ?_;exact dR (dR (dR H22.out 0 _ rfl) 1 _ rfl) 2 _ rfl
       have HB3:ah (Below w.heap.size w W3):=⟨by rw [hW3];refine fE ?_;exact bC (bC (bC HB2_.out HB2.out) HB2.out) HB2.out⟩
       clear u0 u1 u2 f0 f1 f2 hW3
       have u0:W3.cell? ⟨B2,0,none⟩=some (.string (rest.extract 1 (1+ev).toNat)):=by have:=cell_of_row W3 _ 0 _ _ _ h3;simpa using this
       have u1:W3.cell? ⟨B2,1,none⟩=some (.bool true):=by have:=cell_of_row W3 _ 1 _ _ _ h3;simpa using this
       have u2:W3.cell? ⟨B2,2,none⟩=some (.string ⟨#[]⟩):=by have:=cell_of_row W3 _ 2 _ _ _ h3;simpa using this
       go_wp2
       refine bodyPost_ret (v:= .tuple #[xU (some ((rest.extract 1 (1+ev).toNat),true)),.bool true]) ?res rfl ⟨rfl,HB3.out⟩
       case res=>
        unfold results
        rw [show Tryz.f42.results= #[.cell 2 34,.tmp 3] from rfl]
        go_simp
        first|done|rfl
  · obtain rfl:gk=1:=by omega
    have hc:(wr.cell? ⟨MB,1,none⟩)=some (.string ⟨#[60,62]⟩):=by have:=cell_of_row wr _ 1 _ _ _ hMB.out;simpa using this
    cases hp:nH rest 60 with
    |false=>
     have H:=H72.out 60
     rw [hp] at H
     have HP:=z0 hp
     clear hp
     go_wp2_with (go_at_call 72;go_loud (refine (H _).mono ?_;rintro e w4 ⟨rfl,hb4⟩;have HB4:=z0 (ak hB.out hb4);have h24:=z0 ((hb4.block _ (aT h2r.out)).trans h2r.out);have hMB4:=z0 ((hb4.block _ (aT hMB.out)).trans hMB.out);clear hb4))
     go_roundg 0
     case measure=>omega
     case rel=>exact ⟨2,by (try simp),⟨rfl⟩,⟨fun _=>h34.out (by omega)⟩,⟨fun h=>HP.out⟩,h24,hMB4,HB4⟩
    |true=>
     have H:=H72.out 60
     rw [hp] at H
     have hsz:=nX hp
     have hsz':(1:Int)≤(rest.size:Int):=by omega
     have HP:=z0 hp
     clear hp
     obtain ⟨e1,e2⟩:=nV (rest.extract 1 rest.size) 62
     have H73:ah (∀W,Calls Tryz.prog 73 #[.string (rest.extract 1 rest.size),.int .u8 62] W fun e w'=>e= .returned (.int .i64 (Lib.indexByte (rest.extract 1 rest.size).data.toList 62))∧w'=W):=⟨fun W=>Tryz.strings_IndexByte _ 62 W⟩
     have hrb:r=(let e:=Lib.indexByte (rest.extract 1 rest.size).data.toList 62;if e<0 then none else some (rest.extract 1 (1+e).toNat,false)):=by rw [HRR.out,hincP.out,if_neg (by rw [h34.out (by omega)];decide),if_pos HP.out];rfl
     generalize Lib.indexByte (rest.extract 1 rest.size).data.toList 62=ev at *
     have hes:((rest.extract 1 rest.size).size:Int)=rest.size-1:=by rw [ByteArray.size_extract];omega
     rw [hes] at e2
     clear hes
     go_wp2_with (go_at_call 72;go_loud (refine (H _).mono ?_;rintro e w4 ⟨rfl,hb4⟩;have HB4:=z0 (ak hB.out hb4);have h24:=(hb4.block _ (aT h2r.out)).trans h2r.out;replace hc:=(hb4.cell (World.block_lt_of_cell? wr _ hc)).trans hc;clear hb4))
     go_quiet (first|(go_at_call 73;refine Calls.quiet_of_same (H73.out _)))
     obtain ⟨w2_,hw2⟩:∃w2_,w2_=w4.drewN nq:=⟨_,rfl⟩
     rw [←hw2]
     have HB2_:ah (Below w.heap.size w w2_):=⟨by rw [hw2];exact aY HB4.out _⟩
     have h22:w2_.heap[B2]? =some (.cells #[.string ⟨#[]⟩,.bool false,.string ⟨#[]⟩] 34 (0,0)):=by rw [hw2];exact h24
     replace hc:w2_.cell? ⟨MB,1,none⟩=some (.string ⟨#[60,62]⟩):=by rw [hw2];exact hc
     clear hw2 h24
     have u0:w2_.cell? ⟨B2,0,none⟩=some (.string ⟨#[]⟩):=by have:=cell_of_row w2_ _ 0 _ _ _ h22;simpa using this
     have u1:w2_.cell? ⟨B2,1,none⟩=some (.bool false):=by have:=cell_of_row w2_ _ 1 _ _ _ h22;simpa using this
     have u2:w2_.cell? ⟨B2,2,none⟩=some (.string ⟨#[]⟩):=by have:=cell_of_row w2_ _ 2 _ _ _ h22;simpa using this
     have f0:=aj h22 0
     have f1:=aj h22 1
     have f2:=aj h22 2
     have H22:=z0 h22
     clear h22
     (try dsimp only at hrb)
     by_cases hev:ev<0
     · rw [if_pos hev] at hrb
       subst hrb
       have hd:decide (ev<0)=true:=decide_eq_true hev
       go_wp2
       obtain ⟨W3,hW3⟩:∃W3,W3=((w2_.setCell ⟨B2,0,none⟩ (Value.string ⟨#[]⟩)).setCell ⟨B2,1,none⟩ (Value.bool false)).setCell ⟨B2,2,none⟩ (Value.string ⟨#[]⟩):=⟨_,rfl⟩
       rw [←hW3]
       have h3:W3.heap[B2]? =some (.cells #[.string ⟨#[]⟩,.bool false,.string ⟨#[]⟩] 34 (0,0)):=by
        rw [hW3];exact dR (dR (dR H22.out 0 _ rfl) 1 _ rfl) 2 _ rfl
       have HB3:ah (Below w.heap.size w W3):=⟨by rw [hW3];exact bC (bC (bC HB2_.out HB2.out) HB2.out) HB2.out⟩
       clear u0 u1 u2 f0 f1 f2 hW3
       have u0:W3.cell? ⟨B2,0,none⟩=some (.string ⟨#[]⟩):=by have:=cell_of_row W3 _ 0 _ _ _ h3;simpa using this
       have u1:W3.cell? ⟨B2,1,none⟩=some (.bool false):=by have:=cell_of_row W3 _ 1 _ _ _ h3;simpa using this
       have u2:W3.cell? ⟨B2,2,none⟩=some (.string ⟨#[]⟩):=by have:=cell_of_row W3 _ 2 _ _ _ h3;simpa using this
       refine bodyPost_ret (v:= .tuple #[xU none,.bool false]) ?res rfl ⟨rfl,HB3.out⟩
       case res=>
        unfold results
        rw [show Tryz.f42.results= #[.cell 2 34,.tmp 3] from rfl]
        go_simp
        first|done|rfl
     · rw [if_neg hev] at hrb
       subst hrb
       have hd:decide (ev<0)=false:=decide_eq_false hev
       have g1:IntKind.i64.wrap (1+ev)=1+ev:=IntWalk.i64_in _ (by omega)
       have g2:(1:Int)≤1+ev:=by omega
       have g3:1+ev≤(rest.size:Int):=by omega
       go_wp2
       go_region
       obtain ⟨W3,hW3⟩:∃W3,W3=(((w2_.setCell ⟨B2,0,none⟩ (Value.string (rest.extract 1 (1+ev).toNat))).setCell ⟨B2,1,none⟩ (Value.bool false)).setCell ⟨B2,2,none⟩ (Value.string ⟨#[]⟩)).drew:=⟨_,rfl⟩
       refine (show Exit.then _ _ _ _ W3→_ from fun h=>by rw [hW3] at h;exact h) ?_
       have h3:W3.heap[B2]? =some (.cells #[.string (rest.extract 1 (1+ev).toNat),.bool false,.string ⟨#[]⟩] 34 (0,0)):=by
        rw [hW3];refine dF ?_;exact dR (dR (dR H22.out 0 _ rfl) 1 _ rfl) 2 _ rfl
       have HB3:ah (Below w.heap.size w W3):=⟨by rw [hW3];refine fE ?_;exact bC (bC (bC HB2_.out HB2.out) HB2.out) HB2.out⟩
       clear u0 u1 u2 f0 f1 f2 hW3
       have u0:W3.cell? ⟨B2,0,none⟩=some (.string (rest.extract 1 (1+ev).toNat)):=by have:=cell_of_row W3 _ 0 _ _ _ h3;simpa using this
       have u1:W3.cell? ⟨B2,1,none⟩=some (.bool false):=by have:=cell_of_row W3 _ 1 _ _ _ h3;simpa using this
       have u2:W3.cell? ⟨B2,2,none⟩=some (.string ⟨#[]⟩):=by have:=cell_of_row W3 _ 2 _ _ _ h3;simpa using this
       go_wp2
       refine bodyPost_ret (v:= .tuple #[xU (some ((rest.extract 1 (1+ev).toNat),false)),.bool true]) ?res rfl ⟨rfl,HB3.out⟩
       case res=>
        unfold results
        rw [show Tryz.f42.results= #[.cell 2 34,.tmp 3] from rfl]
        go_simp
        first|done|rfl
  · obtain rfl:gk=0:=by omega
    have hrn:r=none:=by rw [HRR.out,hincP.out,if_neg (by rw [h34.out (by omega)];decide),if_neg (by rw [h60.out (by omega)];decide)]
    subst hrn
    have u0:wr.cell? ⟨B2,0,none⟩=some (.string ⟨#[]⟩):=by have:=cell_of_row wr _ 0 _ _ _ h2r.out;simpa using this
    have u1:wr.cell? ⟨B2,1,none⟩=some (.bool false):=by have:=cell_of_row wr _ 1 _ _ _ h2r.out;simpa using this
    have u2:wr.cell? ⟨B2,2,none⟩=some (.string ⟨#[]⟩):=by have:=cell_of_row wr _ 2 _ _ _ h2r.out;simpa using this
    have f0:=aj h2r.out 0
    have f1:=aj h2r.out 1
    have f2:=aj h2r.out 2
    go_wp2
    obtain ⟨W3,hW3⟩:∃W3,W3=((wr.setCell ⟨B2,0,none⟩ (Value.string ⟨#[]⟩)).setCell ⟨B2,1,none⟩ (Value.bool false)).setCell ⟨B2,2,none⟩ (Value.string ⟨#[]⟩):=⟨_,rfl⟩
    rw [←hW3]
    have h3:W3.heap[B2]? =some (.cells #[.string ⟨#[]⟩,.bool false,.string ⟨#[]⟩] 34 (0,0)):=by
     rw [hW3];exact dR (dR (dR h2r.out 0 _ rfl) 1 _ rfl) 2 _ rfl
    have HB3:ah (Below w.heap.size w W3):=⟨by rw [hW3];exact bC (bC (bC hB.out HB2.out) HB2.out) HB2.out⟩
    clear u0 u1 u2 f0 f1 f2 hW3
    have u0:W3.cell? ⟨B2,0,none⟩=some (.string ⟨#[]⟩):=by have:=cell_of_row W3 _ 0 _ _ _ h3;simpa using this
    have u1:W3.cell? ⟨B2,1,none⟩=some (.bool false):=by have:=cell_of_row W3 _ 1 _ _ _ h3;simpa using this
    have u2:W3.cell? ⟨B2,2,none⟩=some (.string ⟨#[]⟩):=by have:=cell_of_row W3 _ 2 _ _ _ h3;simpa using this
    refine bodyPost_ret (v:= .tuple #[xU none,.bool false]) ?res rfl ⟨rfl,HB3.out⟩
    case res=>
     unfold results
     rw [show Tryz.f42.results= #[.cell 2 34,.tmp 3] from rfl]
     go_simp
     first|done|rfl
theorem BN {w:World}{g:Nat}{ys:List ByteArray}{cur:Array Value}{t:TypeId}{rest:List Value}(h:w.heap[g]? =some (.cells cur t (0,0)))(hc:cur.toList=ys.map Value.string++rest)(hl:ys.length≤9223372036854775807):Kd.C Kd.string w (some ⟨g,0,none⟩) ys.length ys:=by
 refine ⟨rfl,hl,fun hn=>⟨_,rfl,fun j p hj=>⟨[.string p],rfl,rfl,fun i u hu=> ?_⟩⟩⟩
 cases i with
 |zero=>
  obtain rfl:Value.string p=u:=by simpa using hu
  have h1:=cell_of_row w g j _ _ _ h
  have e:((⟨g,0,none⟩:Addr).add (j*Kd.string.sz+0))=⟨g,j,none⟩:=by
   show (⟨g,0,none⟩:Addr).add (j*1+0)=_
   rw [Nat.mul_one,Nat.add_zero,add_plain]
  have hjl:=(List.getElem?_eq_some_iff.1 hj).1
  rw [e,h1,←Array.getElem?_toList,hc,List.getElem?_append_left (by rw [List.length_map];exact hjl),List.getElem?_map,hj]
  rfl
 |succ i=>simp at hu
theorem lU {base:Nat}{w0 w:World}{g:Nat}(h:Below base w0 w)(hg:base≤g)(o:Nat)(vs:List Value):Below base w0 (w.setCells g o vs):=by
 obtain ⟨s1,s2,s3,s4⟩:=lM g vs o w
 exact ⟨s1.trans h.os,s2.trans h.tape,s3.trans h.output,by rw [s4];exact h.size,fun k hk=>(kU vs o k (by omega)).trans (h.block k hk)⟩
theorem ins_any (xs:List ByteArray)(x:ByteArray)(v:Value)(base vb:Nat)(w:World)(HO:w.ownsRow base 9 1 v xs.length (xs.map Value.string))(hvb:w.heap[vb]? =some (.cells #[.string x] 9 (0,0)))(hne:v.ownBlock≠some vb)(hl:xs.length≤1000)(hbase:base≤w.heap.size):
 Calls Tryz.prog 77 #[v,.int .i64 0,.slice (some ⟨vb,0,none⟩) 1 1] w fun e w'=>∃A c,e= .returned (.slice A (xs.length+1) c)∧xs.length+1≤c∧Kd.C Kd.string w' A (xs.length+1) (x::xs)∧Below base w w':=by
 have hvs:∀j v,([Value.string x]:List Value)[j]? =some v→w.cell? ⟨vb,0+j,none⟩=some v:=fun j u hj=>by
  cases j with
  |zero=>obtain rfl:Value.string x=u:=by simpa using hj
         have:=cell_of_row w vb 0 _ _ _ hvb;simpa using this
  |succ j=>simp at hj
 have h1v:∀v∈([Value.string x]:List Value),v.oneCell'=true:=fun u hu=>by rw [List.mem_singleton.1 hu];rfl
 have h1c:∀v∈xs.map Value.string,v.oneCell'=true:=fun u hu=>by obtain ⟨y,_,rfl⟩:=List.mem_map.1 hu;rfl
 rcases HO.2 with ⟨rfl,h0⟩|⟨g,cap,cur,rfl,hg,hcur,hnc,hcm,hcs,htk⟩
 · obtain rfl:xs=[]:=List.length_eq_zero_iff.1 h0
   have H:=Any2.slices_Insert_string_end_grow Tryz.rV none 0 0 vb 0 1 1 [] [Value.string x] w (by omega) (Nat.le_refl _) (by omega) (by omega) rfl rfl (fun _=>rfl) (fun a ha=>by cases ha) hvs h1v
   refine Calls.mono (show Calls Tryz.prog 77 #[.slice none 0 0,.int .i64 0,.slice (some ⟨vb,0,none⟩) 1 1] w _ from H) ?_
   rintro e w' ⟨rfl,rfl⟩
   refine ⟨_,_,rfl,grownCap_ge _ _ _ _,BN (ys:=[x]) (dh _ _) (rest:=_) (by simp;rfl) (by simp),?_⟩
   exact ⟨rfl,rfl,rfl,by simp,fun k hk=>Below.heap_alloc w.drew _ k (by show k<w.heap.size;omega)⟩
 · have hgw:=aT hcur
   have hgv:g≠vb:=fun e=>hne (by simp [Value.ownBlock,e])
   have hbr:Below base w w:=Below.refl _ _
   rw [Nat.mul_one] at hcs htk
   have hcl:(xs.map Value.string).length=xs.length:=List.length_map _
   have hcc:∀j v,(xs.map Value.string)[j]? =some v→w.cell? ⟨g,0+j,none⟩=some v:=fun j u hj=>by
    have h1:=cell_of_row w g j _ _ _ hcur
    have hjl:=(List.getElem?_eq_some_iff.1 hj).1
    rw [List.length_map] at hjl
    rw [Nat.zero_add,h1,←Array.getElem?_toList]
    rw [←htk,List.getElem?_take,if_pos hjl] at hj
    exact hj
   by_cases hn:xs.length=0
   · obtain rfl:xs=[]:=List.length_eq_zero_iff.1 hn
     by_cases hcap:1≤cap
     · have H:=Any2.slices_Insert_string_end_room Tryz.rV g 0 0 cap vb 0 1 1 [Value.string x] w (by omega) (by omega) (by simp only [maxLen] at hcm;omega) rfl
        (fun j hj=>by rw [cell_of_row w g _ _ _ _ hcur,Array.getElem?_eq_getElem (by omega)];rfl) (fun j _=>aj hcur _) hvs h1v
       refine Calls.mono (show Calls Tryz.prog 77 #[.slice (some ⟨g,0,none⟩) 0 cap,.int .i64 0,.slice (some ⟨vb,0,none⟩) 1 1] w _ from H) ?_
       rintro e w' ⟨rfl,rfl⟩
       obtain ⟨cur',h1,h2,h3⟩:=iT [Value.string x] 0 w cur hcur (by simp;omega)
       exact ⟨_,_,rfl,by omega,BN (ys:=[x]) h1 (rest:=_) (by rw [h3];simp;rfl) (by simp),lU hbr hg _ _⟩
     · have H:=Any2.slices_Insert_string_end_grow Tryz.rV (some ⟨g,0,none⟩) 0 cap vb 0 1 1 [] [Value.string x] w (by omega) (by omega) (by omega) (by omega) rfl rfl (fun h=>by cases h) (fun a ha j v hj=>by simp at hj) hvs h1v
       refine Calls.mono (show Calls Tryz.prog 77 #[.slice (some ⟨g,0,none⟩) 0 cap,.int .i64 0,.slice (some ⟨vb,0,none⟩) 1 1] w _ from H) ?_
       rintro e w' ⟨rfl,rfl⟩
       refine ⟨_,_,rfl,grownCap_ge _ _ _ _,BN (ys:=[x]) (dh _ _) (rest:=_) (by simp;rfl) (by simp),?_⟩
       exact ⟨rfl,rfl,rfl,by simp,fun k hk=>Below.heap_alloc w.drew _ k (by show k<w.heap.size;omega)⟩
   · by_cases hcap:xs.length+1≤cap
     · have H:=Any2.slices_Insert_string_shift Tryz.rV g 0 xs.length cap 0 vb 0 1 1 (xs.map Value.string) [Value.string x] w (by omega) (by omega) hcap (by simp only [maxLen] at hcm;omega) (Ne.symm hgv) hcl rfl hcc
        (fun j hj=>by rw [cell_of_row w g _ _ _ _ hcur,Array.getElem?_eq_getElem (by omega)];rfl) (fun j _=>aj hcur _) hvs h1c h1v 9 9 1 cap (by simp [World.shape?,hvb]) (by simp [World.shape?,hcur,hcs]) (by omega) (aj hvb _) (aj hvb _)
       refine Calls.mono (show Calls Tryz.prog 77 #[.slice (some ⟨g,0,none⟩) xs.length cap,.int .i64 0,.slice (some ⟨vb,0,none⟩) 1 1] w _ from H) ?_
       rintro e w' ⟨rfl,rfl⟩
       obtain ⟨c1,h1,h2,h3⟩:=iT (xs.map Value.string) 1 w.drew cur hcur (by rw [hcl];omega)
       obtain ⟨c2,h4,h5,h6⟩:=iT [Value.string x] 0 (w.drew.setCells g 1 (xs.map Value.string)) c1 h1 (by simp;omega)
       refine ⟨_,_,rfl,hcap,BN (ys:=x::xs) h4 (rest:=cur.toList.drop (1+xs.length)) ?_ (by simp;omega),lU (lU (fE hbr) hg _ _) hg _ _⟩
       · have hlen:(cur.toList.take 1).length=1:=by rw [List.length_take,Array.length_toList,hcs];omega
         rw [h6,h3,hcl]
         simp only [List.take_zero,List.nil_append,List.length_singleton,Nat.zero_add]
         rw [List.append_assoc,List.drop_append_of_le_length (by omega),List.drop_of_length_le (by omega),List.nil_append]
         simp
     · have H:=Any2.slices_Insert_string_grow Tryz.rV g 0 xs.length cap 0 vb 0 1 1 (xs.map Value.string) [Value.string x] w (by omega) (by omega) hnc (by omega) (by omega) hcl rfl hcc hvs h1c h1v
       refine Calls.mono (show Calls Tryz.prog 77 #[.slice (some ⟨g,0,none⟩) xs.length cap,.int .i64 0,.slice (some ⟨vb,0,none⟩) 1 1] w _ from H) ?_
       rintro e w' ⟨rfl,rfl⟩
       have hge:=grownCap_ge w (xs.length+1) cap (Tryz.kM.t 9)
       generalize grownCap w (xs.length+1) cap (Tryz.kM.t 9)=gc at *
       have hZ:(((xs.map Value.string).take 0).toArray++Builtin.zeroCells (Value.string ⟨#[]⟩).cells (xs.length+1-0)++Builtin.zeroCells (Value.string ⟨#[]⟩).cells (gc-(xs.length+1))).size=gc:=by
        have hz:∀k,(Builtin.zeroCells (Value.string ⟨#[]⟩).cells k).size=k:=fun k=>by
         rw [size_zeroCells];exact Nat.mul_one k
        simp only [Array.size_append,hz]
        simp;omega
       generalize (((xs.map Value.string).take 0).toArray++Builtin.zeroCells (Value.string ⟨#[]⟩).cells (xs.length+1-0)++Builtin.zeroCells (Value.string ⟨#[]⟩).cells (gc-(xs.length+1)))=Z at *
       obtain ⟨c1,h1,h2,h3⟩:=iT [Value.string x] 0 (w.alloc (.cells Z (Tryz.kM.t 9))).drew Z (dh w _) (by simp;omega)
       obtain ⟨c2,h4,h5,h6⟩:=iT (xs.map Value.string) 1 ((w.alloc (.cells Z (Tryz.kM.t 9))).drew.setCells w.heap.size 0 [Value.string x]).drew c1 h1 (by rw [hcl];omega)
       have hB0:Below base w (w.alloc (.cells Z (Tryz.kM.t 9))).drew:=⟨rfl,rfl,rfl,by simp,fun k hk=>Below.heap_alloc w _ k (by omega)⟩
       refine ⟨_,_,rfl,hge,BN (ys:=x::xs) h4 (rest:=c1.toList.drop (1+xs.length)) ?_ (by simp;omega),lU (fE (lU hB0 hbase _ _)) hbase _ _⟩
       rw [h6,h3,hcl]
       simp
end Go.Proofs.YtolaiebjmhieiaaGreatDoor.OScan
end
section
namespace Go.Proofs.YtolaiebjmhieiaaGreatDoor.OJoin
open Go.RowKit YtolaiebjmhieiaaGreatDoorW.PrintWords YtolaiebjmhieiaaGreatDoorW.PrintLast YtolaiebjmhieiaaGreatDoorW.PrintMore
attribute [local go_sem] jF jD ku jZ jc iZ jE jC
def bytealg_LastIndexByteString.l0:Nat→ByteArray→Int→Int→Option (Int)
 |0,_,_,_=>none
 |k+1,x0,x1,x5=>if x5≥0 then (if 0≤x5 then (if x5<(x0.size:Int) then (if (bt x0 x5)=x1 then (some x5) else (bytealg_LastIndexByteString.l0 k x0 x1 (wrap64 (x5-1)))) else (none)) else (none)) else (some (-1))
def bytealg_LastIndexByteString.f (k:Nat)(a0:ByteArray)(a1:Int):Option (Int):=bytealg_LastIndexByteString.l0 k a0 a1 (wrap64 ((a0.size:Int)-1))
theorem bytealg_LastIndexByteString.wP:∀k,(∀y0 y1 y2,LeO (bytealg_LastIndexByteString.l0 k y0 y1 y2) (bytealg_LastIndexByteString.l0 (k+1) y0 y1 y2))
 |0=>fun _ _ _ r h=>by simp [bytealg_LastIndexByteString.l0] at h
 |k+1=>by
  have ih0:=bytealg_LastIndexByteString.wP k
  · intro y0 y1 y2
    unfold bytealg_LastIndexByteString.l0
    exact zm
theorem bytealg_LastIndexByteString.mono:∀a0 a1 k,LeO (bytealg_LastIndexByteString.f k a0 a1) (bytealg_LastIndexByteString.f (k+1) a0 a1):=by
 intro a0 a1 k
 have ih0:=bytealg_LastIndexByteString.wP k
 unfold bytealg_LastIndexByteString.f
 exact zm
theorem bytealg_LastIndexByteString.calls (k:Nat)(a0:ByteArray)(a1:Int)(r:Int)(w:World)(h:bytealg_LastIndexByteString.f k a0 a1=some r):
 Calls Tryz.prog 136 #[.string a0,.int .u8 a1] w fun e w'=>e= .returned (.int .i64 r)∧dM w w':=by
 have H:=h
 clear h
 unfold bytealg_LastIndexByteString.f at H
 have H':=z0 H
 clear H
 go_enter Tryz.func136,Tryz.ntmps136
 go_wp2
 go_loopg [5] k (fun kq v5 w'=>∃(x5_1:Int),v5= .int .i64 x5_1∧ah (bytealg_LastIndexByteString.l0 kq a0 a1 x5_1=some r)∧ah (kq≤k)∧dM w w')
 case atStart=>exact ⟨(wrap64 ((a0.size:Int)-1)),zr,H',⟨Nat.le_refl _⟩,zq⟩
 case round=>
  clear H'
  obtain ⟨x5_1,rfl,HA,HK1,⟨m1,rfl⟩⟩:=hrel
  cases gk with
  |zero=>exact absurd HA.out (by simp [bytealg_LastIndexByteString.l0])
  |succ k1=>
   have H:=HA.out
   clear HA
   simp only [bytealg_LastIndexByteString.l0] at H
   replace H:=zg H
   rcases H with ⟨c3b0,H⟩|⟨c3b0,H⟩
   · replace H:=zdn H
     obtain ⟨c4b0,H⟩:=H
     replace H:=zdn H
     obtain ⟨c5b0,H⟩:=H
     replace H:=ze H
     rcases H with ⟨c7b0,c7b1,H⟩|⟨c7b0,c7b1,H⟩
     · obtain rfl:=Option.some.inj H
       obtain ⟨p6,q6,hx6⟩:=zb a0 x5_1
       go_wp2
       go_ret
       exact ⟨zr,zq⟩
     · have H':=z0 H
       clear H
       obtain ⟨p6,q6,hx6⟩:=zb a0 x5_1
       go_wp2
       go_roundg k1
       case measure=>have:=HK1.out;omega
       case rel=>exact ⟨(wrap64 (x5_1-1)),zr,H',⟨by have:=HK1.out;omega⟩,zq⟩
   · obtain rfl:=Option.some.inj H
     go_wp2
     go_ret
     exact ⟨zr,zq⟩
def strings_LastIndexByte.f (k:Nat)(a0:ByteArray)(a1:Int):Option (Int):=(bytealg_LastIndexByteString.f k a0 a1).bind fun t101=>(some t101)
theorem strings_LastIndexByte.mono:∀a0 a1 k,LeO (strings_LastIndexByte.f k a0 a1) (strings_LastIndexByte.f (k+1) a0 a1):=by
 intro a0 a1 k
 unfold strings_LastIndexByte.f
 have ih5:= @bytealg_LastIndexByteString.mono
 exact zm
theorem strings_LastIndexByte.calls (k:Nat)(a0:ByteArray)(a1:Int)(r:Int)(w:World)(h:strings_LastIndexByte.f k a0 a1=some r):
 Calls Tryz.prog 78 #[.string a0,.int .u8 a1] w fun e w'=>e= .returned (.int .i64 r)∧dM w w':=by
 have H:=h
 clear h
 unfold strings_LastIndexByte.f at H
 replace H:=zo H
 obtain ⟨t101,A3,H⟩:=H
 (try dsimp only at H)
 obtain rfl:=Option.some.inj H
 go_enter Tryz.func78,Tryz.ntmps78
 go_wp2_with (first|(refine zc 7 rfl Tryz.func136 #[.string a0,.int .u8 a1] ?_;refine za (bytealg_LastIndexByteString.calls k a0 a1 t101 _ A3.out) fun nd=> ?_))
 go_ret
 exact ⟨zr,zq⟩
def stringslite_HasPrefix.f (a0:ByteArray)(a1:ByteArray):Option (Bool):=if (a0.size:Int)≥(a1.size:Int) then (if 0≤(a1.size:Int) then (if (a1.size:Int)≤(a0.size:Int) then (some ((a0.extract 0 ((a1.size:Int):Int).toNat).toList==a1.toList)) else (none)) else (none)) else (some false)
theorem stringslite_HasPrefix.calls (a0:ByteArray)(a1:ByteArray)(r:Bool)(w:World)(h:stringslite_HasPrefix.f a0 a1=some r):
 Calls Tryz.prog 131 #[.string a0,.string a1] w fun e w'=>e= .returned (.bool r)∧dM w w':=by
 have H:=h
 clear h
 unfold stringslite_HasPrefix.f at H
 by_cases c3:(a0.size:Int)≥(a1.size:Int)
 · rw [if_pos c3] at H
   have c3b0:decide ((a1.size:Int)≤(a0.size:Int))=true:=decide_eq_true c3
   have c3b1:decide (a1.size≤a0.size)=true:=decide_eq_true (Int.ofNat_le.mp c3)
   clear c3
   replace H:=zyn H
   obtain ⟨c4b0,c4b1,H⟩:=H
   replace H:=zyn H
   obtain ⟨c5b0,c5b1,H⟩:=H
   obtain rfl:=Option.some.inj H
   go_enter Tryz.func131,Tryz.ntmps131
   go_wp2
   go_ret
   exact ⟨zr,zq⟩
 · rw [if_neg c3] at H
   have c3b0:decide ((a1.size:Int)≤(a0.size:Int))=false:=decide_eq_false c3
   have c3b1:decide (a1.size≤a0.size)=false:=decide_eq_false (fun h=>c3 (Int.ofNat_le.mpr h))
   clear c3
   obtain rfl:=Option.some.inj H
   go_enter Tryz.func131,Tryz.ntmps131
   go_wp2
   go_ret
   exact ⟨zr,zq⟩
def stringslite_CutPrefix.f (a0:ByteArray)(a1:ByteArray):Option (ByteArray × Bool):=(stringslite_HasPrefix.f a0 a1).bind fun t102=>(if t102=true then (if 0≤(a1.size:Int) then (if (a1.size:Int)≤(a0.size:Int) then (some (a0.extract ((a1.size:Int):Int).toNat a0.size,true)) else (none)) else (none)) else (some (a0,false)))
theorem stringslite_CutPrefix.calls (a0:ByteArray)(a1:ByteArray)(r1:ByteArray)(r2:Bool)(w:World)(h:stringslite_CutPrefix.f a0 a1=some (r1,r2)):
 Calls Tryz.prog 172 #[.string a0,.string a1] w fun e w'=>e= .returned (.tuple #[.string r1,.bool r2])∧dM w w':=by
 have H:=h
 clear h
 unfold stringslite_CutPrefix.f at H
 replace H:=zo H
 obtain ⟨t102,A3,H⟩:=H
 (try dsimp only at H)
 by_cases c4:t102=true
 · subst c4
   rw [if_pos rfl] at H
   replace H:=zyn H
   obtain ⟨c5b0,c5b1,H⟩:=H
   replace H:=zyn H
   obtain ⟨c6b0,c6b1,H⟩:=H
   simp only [Option.some.injEq,Prod.mk.injEq] at H
   obtain ⟨rfl,rfl⟩:=H
   go_enter Tryz.func172,Tryz.ntmps172
   go_wp2_with (first|(refine zc 8 rfl Tryz.func131 #[.string a0,.string a1] ?_;refine za (stringslite_HasPrefix.calls a0 a1 true _ A3.out) fun nd=> ?_))
   go_ret2
   exact ⟨zr,zq⟩
 · replace c4:=Bool.eq_false_iff.mpr c4
   subst c4
   rw [if_neg nofun] at H
   simp only [Option.some.injEq,Prod.mk.injEq] at H
   obtain ⟨rfl,rfl⟩:=H
   go_enter Tryz.func172,Tryz.ntmps172
   go_wp2_with (first|(refine zc 8 rfl Tryz.func131 #[.string a0,.string a1] ?_;refine za (stringslite_HasPrefix.calls a0 a1 false _ A3.out) fun nd=> ?_))
   go_ret2
   exact ⟨zr,zq⟩
def strings_CutPrefix.f (a0:ByteArray)(a1:ByteArray):Option (ByteArray × Bool):=(stringslite_CutPrefix.f a0 a1).bind fun bt103=>(some (bt103.1,bt103.2))
theorem strings_CutPrefix.calls (a0:ByteArray)(a1:ByteArray)(r1:ByteArray)(r2:Bool)(w:World)(h:strings_CutPrefix.f a0 a1=some (r1,r2)):
 Calls Tryz.prog 137 #[.string a0,.string a1] w fun e w'=>e= .returned (.tuple #[.string r1,.bool r2])∧dM w w':=by
 have H:=h
 clear h
 unfold strings_CutPrefix.f at H
 replace H:=zo H
 obtain ⟨⟨t103,t104⟩,A3,H⟩:=H
 (try dsimp only at H)
 simp only [Option.some.injEq,Prod.mk.injEq] at H
 obtain ⟨rfl,rfl⟩:=H
 go_enter Tryz.func137,Tryz.ntmps137
 go_wp2_with (first|(refine zc 8 rfl Tryz.func172 #[.string a0,.string a1] ?_;refine za (stringslite_CutPrefix.calls a0 a1 t103 t104 _ A3.out) fun nd=> ?_))
 go_ret2
 exact ⟨zr,zq⟩
def fD.l0:Nat→ByteArray→ByteArray→Option (ByteArray × Bool)
 |0,_,_=>none
 |k+1,x0,x1=>(strings_CutPrefix.f x1 (⟨#[46,47]⟩:ByteArray)).bind fun bt105=>(if bt105.2=true then (fD.l0 k x0 bt105.1) else ((strings_CutPrefix.f x1 (⟨#[46,46,47]⟩:ByteArray)).bind fun bt107=>(if bt107.2=true then (if x0.toList=([]:List UInt8) then (some ((⟨#[]⟩:ByteArray),false)) else ((strings_LastIndexByte.f k x0 47).bind fun t109=>(if 0≤(mx 0 t109) then (if (mx 0 t109)≤(x0.size:Int) then (fD.l0 k (x0.extract 0 ((mx 0 t109):Int).toNat) bt107.1) else (none)) else (none)))) else (if x0.toList=([]:List UInt8) then (some (x1,true)) else (if x0.size+1≤9223372036854775807 then (if (x0++(⟨#[47]⟩:ByteArray)).size+x1.size≤9223372036854775807 then (some ((x0++(⟨#[47]⟩:ByteArray))++x1,true)) else (none)) else (none))))))
def fD.f (k:Nat)(a0:ByteArray)(a1:ByteArray):Option (ByteArray × Bool):=fD.l0 k a0 a1
theorem fD.calls (k:Nat)(a0:ByteArray)(a1:ByteArray)(r1:ByteArray)(r2:Bool)(w:World)(h:fD.f k a0 a1=some (r1,r2)):
 Calls Tryz.prog 79 #[.string a0,.string a1] w fun e w'=>e= .returned (.tuple #[.string r1,.bool r2])∧Below w.heap.size w w':=by
 have HB:=z0 (Below.refl w.heap.size w)
 have H:=h
 clear h
 unfold fD.f at H
 have H':=z0 H
 clear H
 go_enter Tryz.func79,Tryz.ntmps79
 go_wp2
 go_loopg [0,1] k (fun kq v0 v1 w'=>∃(x0_1:ByteArray) (x1_1:ByteArray),v0= .string x0_1∧v1= .string x1_1∧ah (fD.l0 kq x0_1 x1_1=some (r1,r2))∧ah (kq≤k)∧ah (Below w.heap.size w w'))
 case atStart=>exact ⟨(a0),(a1),zr,zr,H',⟨Nat.le_refl _⟩,⟨zw⟩⟩
 case round=>
  clear H'
  obtain ⟨x0_1,x1_1,rfl,rfl,HA,HK1,HB⟩:=hrel
  cases gk with
  |zero=>exact absurd HA.out (by simp [fD.l0])
  |succ k1=>
   have H:=HA.out
   clear HA
   simp only [fD.l0] at H
   replace H:=zo H
   obtain ⟨⟨t105,t106⟩,A3,H⟩:=H
   (try dsimp only at H)
   by_cases c4:t106=true
   · subst c4
     rw [if_pos rfl] at H
     have H':=z0 H
     clear H
     go_wp2_with (first|(refine zc 12 rfl Tryz.func137 #[.string x1_1,.string (⟨#[46,47]⟩:ByteArray)] ?_;refine za (strings_CutPrefix.calls x1_1 (⟨#[46,47]⟩:ByteArray) t105 true _ A3.out) fun nd=> ?_))
     go_roundg k1
     case measure=>have:=HK1.out;omega
     case rel=>exact ⟨(x0_1),(t105),zr,zr,H',⟨by have:=HK1.out;omega⟩,⟨zw⟩⟩
   · replace c4:=Bool.eq_false_iff.mpr c4
     subst c4
     rw [if_neg nofun] at H
     replace H:=zo H
     obtain ⟨⟨t107,t108⟩,A5,H⟩:=H
     (try dsimp only at H)
     by_cases c6:t108=true
     · subst c6
       rw [if_pos rfl] at H
       replace H:=zE H
       rcases H with ⟨c7b0,c7b1,H⟩|⟨c7b0,c7b1,H⟩
       · simp only [Option.some.injEq,Prod.mk.injEq] at H
         obtain ⟨rfl,rfl⟩:=H
         go_wp2_with (first|(refine zc 12 rfl Tryz.func137 #[.string x1_1,.string (⟨#[46,47]⟩:ByteArray)] ?_;refine za (strings_CutPrefix.calls x1_1 (⟨#[46,47]⟩:ByteArray) t105 false _ A3.out) fun nd=> ?_)|(refine zc 19 rfl Tryz.func137 #[.string x1_1,.string (⟨#[46,46,47]⟩:ByteArray)] ?_;refine za (strings_CutPrefix.calls x1_1 (⟨#[46,46,47]⟩:ByteArray) t107 true _ A5.out) fun nd=> ?_))
         go_ret2
         exact ⟨zv,zw⟩
       · replace H:=zo H
         obtain ⟨t109,A8,H⟩:=H
         (try dsimp only at H)
         generalize hji9:(mx 0 t109)=ji9 at H
         (try rw [hji9] at A3)
         (try rw [hji9] at A5)
         (try rw [hji9] at A8)
         (try (have hji9l:0≤ji9:=by (rw [←hji9];unfold mx;(repeat' split)<;>omega)))
         (try (have hji9m:0≤ji9:=by omega))
         have hji9_:(if 0<t109 then t109 else 0)=ji9:=hji9
         replace H:=zyn H
         obtain ⟨c10b0,c10b1,H⟩:=H
         replace H:=zyn H
         obtain ⟨c11b0,c11b1,H⟩:=H
         have H':=z0 H
         clear H
         go_wp2_with (first|(refine zc 12 rfl Tryz.func137 #[.string x1_1,.string (⟨#[46,47]⟩:ByteArray)] ?_;refine za (strings_CutPrefix.calls x1_1 (⟨#[46,47]⟩:ByteArray) t105 false _ A3.out) fun nd=> ?_)|(refine zc 19 rfl Tryz.func137 #[.string x1_1,.string (⟨#[46,46,47]⟩:ByteArray)] ?_;refine za (strings_CutPrefix.calls x1_1 (⟨#[46,46,47]⟩:ByteArray) t107 true _ A5.out) fun nd=> ?_)|(refine zc 28 rfl Tryz.func78 #[.string x0_1,.int .u8 47] ?_;refine za (strings_LastIndexByte.calls k1 x0_1 47 t109 _ A8.out) fun nd=> ?_))
         go_roundg k1
         case measure=>have:=HK1.out;omega
         case rel=>exact ⟨(x0_1.extract 0 ((ji9):Int).toNat),(t107),(by first|rfl|(simp;done)|(simp only [←hji9]<;>(first|rfl|simp))|(simp [*];done)),zr,H',⟨by have:=HK1.out;omega⟩,⟨zw⟩⟩
     · replace c6:=Bool.eq_false_iff.mpr c6
       subst c6
       rw [if_neg nofun] at H
       replace H:=zE H
       rcases H with ⟨c12b0,c12b1,H⟩|⟨c12b0,c12b1,H⟩
       · simp only [Option.some.injEq,Prod.mk.injEq] at H
         obtain ⟨rfl,rfl⟩:=H
         go_wp2_with (first|(refine zc 12 rfl Tryz.func137 #[.string x1_1,.string (⟨#[46,47]⟩:ByteArray)] ?_;refine za (strings_CutPrefix.calls x1_1 (⟨#[46,47]⟩:ByteArray) t105 false _ A3.out) fun nd=> ?_)|(refine zc 19 rfl Tryz.func137 #[.string x1_1,.string (⟨#[46,46,47]⟩:ByteArray)] ?_;refine za (strings_CutPrefix.calls x1_1 (⟨#[46,46,47]⟩:ByteArray) t107 false _ A5.out) fun nd=> ?_))
         go_ret2
         exact ⟨zv,zw⟩
       · replace H:=zxn H
         obtain ⟨c13,c13b0,c13b1,H⟩:=H
         try have c13b2:(9223372036854775807<x0_1.size+1)=False:=eq_false (Nat.not_lt.2 c13)
         replace H:=zxn H
         obtain ⟨c14,c14b0,c14b1,H⟩:=H
         try have c14b2:(9223372036854775807<(x0_1++(⟨#[47]⟩:ByteArray)).size+x1_1.size)=False:=eq_false (Nat.not_lt.2 c14)
         simp only [Option.some.injEq,Prod.mk.injEq] at H
         obtain ⟨rfl,rfl⟩:=H
         go_wp2_with (first|(refine zc 12 rfl Tryz.func137 #[.string x1_1,.string (⟨#[46,47]⟩:ByteArray)] ?_;refine za (strings_CutPrefix.calls x1_1 (⟨#[46,47]⟩:ByteArray) t105 false _ A3.out) fun nd=> ?_)|(refine zc 19 rfl Tryz.func137 #[.string x1_1,.string (⟨#[46,46,47]⟩:ByteArray)] ?_;refine za (strings_CutPrefix.calls x1_1 (⟨#[46,46,47]⟩:ByteArray) t107 false _ A5.out) fun nd=> ?_))
         go_ret2
         exact ⟨zv,zw⟩
end Go.Proofs.YtolaiebjmhieiaaGreatDoor.OJoin
end
section
namespace Go.Proofs.YtolaiebjmhieiaaGreatDoor.OScan
open Go.RowKit YtolaiebjmhieiaaGreatDoorW.PrintWords YtolaiebjmhieiaaGreatDoorW.PrintLast YtolaiebjmhieiaaGreatDoorW.PrintMore
def Jh (d name:ByteArray)(r:ByteArray × Bool):Prop:=∃k,OJoin.fD.f k d name=some r
def kX:AL→List (ByteArray × Bool)→ByteArray
 |_,[]=>⟨#[]⟩
 |m,j::l=>if j.2=true∧(eF m j.1).isSome=true then j.1 else kX m l
theorem clone_any (xs:List ByteArray)(Ap:Option Addr)(c:Nat)(w:World)(HC:Kd.C Kd.string w Ap xs.length xs)(hA:Ap=none∨∃b o,Ap=some ⟨b,o,none⟩)(hl:xs.length≤1000):
 Calls Tryz.prog 76 #[.slice Ap xs.length c] w fun e w'=>∃v',e= .returned v'∧w'.ownsRow w.heap.size 9 1 v' xs.length (xs.map Value.string)∧Below w.heap.size w w':=by
 rcases hA with rfl|⟨b,o,rfl⟩
 · have h0:xs=[]:=by
    cases xs with
    |nil=>rfl
    |cons x xs=>
     obtain ⟨ad,e,_⟩:=oW HC 0 (by simp) x rfl
     cases e
   subst h0
   exact (Tryz.slices_Clone_string_nil 0 c w).mono fun e w' ⟨he,hw⟩=>⟨_,he,⟨rfl,.inl ⟨rfl,rfl⟩⟩,by rw [hw];exact Below.refl _ _⟩
 · have H:=Tryz.slices_Clone_string b o xs.length c xs w (Nat.le_refl _) (by omega) (fun j hj=>by
    obtain ⟨ad,e,hc⟩:=oW HC j hj (xs.getD j ByteArray.empty) (by simp [List.getD_eq_getElem?_getD,List.getElem?_eq_getElem hj])
    obtain rfl:(⟨b,o,none⟩:Addr)=ad:=by injection e
    rw [Nat.mul_one,Addr.add_lit] at hc
    exact hc)
   rw [List.take_length] at H
   exact H.mono fun e w' ⟨v',h1,h2,_,h4⟩=>⟨v',h1,h2,h4⟩
theorem Nh {w:World}{base n:Nat}{v:Value}{xs:List ByteArray}(hn:n=xs.length)(h:w.ownsRow base 9 1 v n (xs.map Value.string)):∃A c,v= .slice A n c∧n≤c∧Kd.C Kd.string w A n xs:=by
 subst hn
 have hR:=Kd.mY (enc:=Value.string) (h1:=fun _=>rfl) h (ok:=fun _=>True) (fun _ _=>trivial)
 obtain ⟨A,c,rfl⟩:=Kd.bF hR
 have:=Kd.aZ hR
 exact ⟨A,c,rfl,this.2.1,this.2.2⟩
structure ND (w:World)(PB fm cm:Nat)(lk:Int)(pv:Value)(m:AL):Prop where
 hP:w.heap[PB]? =some (.cells #[.map (some fm),pv,.int .i32 lk,.int .u32 0,.map (some cm)] 87 (0,0))
 hm:gB w fm m
theorem IQ (m:AL)(lk:Int)(ps:List ByteArray)(from_ name file:ByteArray)(q:Bool)(ld:Int)(kl:Nat)(js:List (ByteArray × Bool))(PB fm cm:Nat)(Ap:Option Addr)(cp:Nat)(w:World)
 (HP:ND w PB fm cm lk (.slice Ap ps.length cp) m) (HC:Kd.C Kd.string w Ap ps.length ps) (hA:Ap=none∨∃b o,Ap=some ⟨b,o,none⟩) (hl:ps.length≤900)
 (hld:OJoin.strings_LastIndexByte.f kl from_ 47=some ld) (hl1: -1≤ld) (hl2:ld<from_.size) (hfs:from_.size≤1000000)
 (dirs:List ByteArray) (hdirs:dirs=if q=true then from_.extract 0 (max 0 ld).toNat::ps else ps) (hjl:js.length=dirs.length)
 (hj:∀(i:Nat) (d:ByteArray),dirs[i]? =some d→∃j,js[i]? =some j∧Jh d name j):
 Calls Tryz.prog 44 #[.pointer (some ⟨PB,0,none⟩),.string from_,.agg #[.string name,.bool q,.string file]] w fun e w'=>e= .returned (.string (kX m js))∧Below w.heap.size w w':=by
 have hp1:w.cell? ⟨PB,1,none⟩=some (.slice Ap ps.length cp):=by have:=cell_of_row w PB 1 _ _ _ HP.hP;simpa using this
 have hB0:=aA (Below.refl w.heap.size w) (Obj.cells #[Value.string name,Value.bool q,Value.string file] 34)
 have H76:=clone_any ps Ap cp (w.alloc (Obj.cells #[Value.string name,Value.bool q,Value.string file] 34)) (Kd.fC HC hB0) hA (by omega)
 obtain ⟨n,hn⟩:∃n,n=ps.length:=⟨_,rfl⟩
 rw [←hn] at hp1 H76
 have HN:=z0 hn
 have HPA:=z0 HP
 have HB0:=z0 hB0
 have HJ:=z0 hj
 have HLD:=z0 hld
 have hBX:(w.alloc (Obj.cells #[Value.string name,Value.bool q,Value.string file] 34)).heap[w.heap.size]? =some (.cells #[Value.string name,Value.bool q,Value.string file] 34 (0,0)):=dh _ _
 have HBX:=z0 hBX
 have HDI:=z0 hdirs
 have HJL:=z0 hjl
 have HLN:=z0 hl
 have hp1':=(HB0.out.cell (World.block_lt_of_cell? w _ hp1)).trans hp1
 clear hn HP HC hA hB0 hj hld hBX hdirs hjl hl
 cases q with
 |false=>
  go_enter Tryz.func44,Tryz.ntmps44
  go_wp2_with (first|(go_at_call 76;go_loud (refine H76.mono ?_;rintro e w5 ⟨v5,rfl,ho5,hb5⟩;have hbx:=(hb5.block _ (aT HBX.out)).trans HBX.out;have b1:w5.cell? ⟨w.heap.size,1,none⟩=some (.bool false):=(by have:=cell_of_row w5 _ 1 _ _ _ hbx;simpa using this);obtain ⟨A5,c5,rfl,hc5,hC5⟩:=Nh HN.out ho5;have HC5:=z0 hC5;have HB5:=z0 (ak HB0.out hb5);have HX5:=z0 hbx;clear ho5 hb5 hbx hC5)))
  obtain ⟨W1,hW1⟩:∃W1,W1=w5:=⟨_,rfl⟩
  subst hW1
  have hdd:dirs=ps:=by rw [HDI.out];rfl
  subst hdd
  obtain ⟨nd,hnd⟩:∃nd,nd=n:=⟨_,rfl⟩
  rw [←hnd]
  have HND:ah (nd=dirs.length):=⟨hnd.trans HN.out⟩
  have HDC:ah (Kd.C Kd.string W1 A5 nd dirs):=⟨by rw [hnd];exact HC5.out⟩
  have HB1:=HB5
  have hnb:nd≤1000:=by rw [HND.out];have:=HLN.out;omega
  have hn0:W1.cell? ⟨w.heap.size,0,none⟩=some (.string name):=by have:=cell_of_row W1 _ 0 _ _ _ HX5.out;simpa using this
  clear hnd HC5
  go_loopg [31] nd (fun kq v31 w'=>∃(i:Nat),v31= .int .i64 i∧ah (kq+i=nd)∧ah (kX m (js.drop i)=kX m js)∧ah (Below W1.heap.size W1 w'))
  case atStart=>exact ⟨0,rfl,⟨rfl⟩,⟨rfl⟩,⟨Below.refl _ _⟩⟩
  case round=>
   obtain ⟨i,rfl,hki,hF,hB⟩:=hrel
   have hki':=hki.out
   have HBW:ah (Below w.heap.size w wr):=⟨ak HB1.out hB.out⟩
   cases gk with
   |zero=>
    have hlt:decide ((i:Int)<(nd:Int))=false:=decide_eq_false (by omega)
    go_wp2
    go_ret
    refine ⟨?_,HBW.out⟩
    have:=hF.out
    rw [List.drop_eq_nil_of_le (by rw [HJL.out];have:=HND.out;omega)] at this
    rw [←this];rfl
   |succ g1=>
    have hlt:decide ((i:Int)<(nd:Int))=true:=decide_eq_true (by omega)
    have hii:(0:Int)≤(i:Int):=by omega
    obtain ⟨d,hd⟩:∃d,dirs[i]? =some d:=⟨_,List.getElem?_eq_getElem (by rw [←HND.out];omega)⟩
    obtain ⟨⟨jn,jb⟩,hjs,kj,hjk⟩:=HJ.out i d hd
    obtain ⟨ad,hAd,hx0⟩:=oW HDC.out i (by omega) d hd
    obtain rfl:=hAd
    replace hx0:=(hB.out.cell (World.block_lt_of_cell? W1 _ hx0)).trans hx0
    rw [Nat.mul_one] at hx0
    have hdr:js.drop i=(jn,jb)::js.drop (i+1):=by
     obtain ⟨hl',he'⟩:=List.getElem?_eq_some_iff.1 hjs
     rw [List.drop_eq_getElem_cons hl',he']
    have hg:=hF.out
    rw [hdr,kX] at hg
    have HG:=z0 hg
    have n0:=(hB.out.cell (World.block_lt_of_cell? W1 _ hn0)).trans hn0
    have H79:ah (∀W,Calls Tryz.prog 79 #[.string d,.string name] W fun e w'=>e= .returned (.tuple #[.string jn,.bool jb])∧Below W.heap.size W w'):=⟨fun W=>OJoin.fD.calls kj d name jn jb W hjk⟩
    clear hd hjs hdr hjk hg
    have HL:ah (∀W,Below w.heap.size w W→W.cell? ⟨PB,0,none⟩=some (.map (some fm))∧(Instr.lookup 75 (.map (some fm)) (.string jn) true).run Tryz.prog W= .ok (.tuple #[(eF m jn).getD (.string ⟨#[]⟩),.bool (eF m jn).isSome]) W):=⟨fun W hb=>by
     have h1:w.cell? ⟨PB,0,none⟩=some (.map (some fm)):=by have:=cell_of_row w PB 0 _ _ _ HPA.out.hP;simpa using this
     exact ⟨(hb.cell (World.block_lt_of_cell? w _ h1)).trans h1,(HPA.out.hm.same (hb.block _ HPA.out.hm.lt)).qB Tryz.underlying75 jn (.string ⟨#[]⟩) (fun _=>rfl)⟩⟩
    cases jb with
    |false=>
     go_wp2_with (go_at_call 79;go_loud (refine (H79.out _).mono ?_;rintro e w9 ⟨rfl,hb9⟩;have HB9:=z0 (ak hB.out hb9);clear hb9))
     go_roundg g1
     case measure=>omega
     case rel=>exact ⟨i+1,by (try simp),⟨by omega⟩,⟨by rw [←HG.out];simp⟩,HB9⟩
    |true=>
     cases hal:eF m jn with
     |none=>
      rw [hal] at HL HG
      clear hal
      go_wp2_with (go_at_call 79;go_loud (refine (H79.out _).mono ?_;rintro e w9 ⟨rfl,hb9⟩;have HB9:=z0 (ak hB.out hb9);obtain ⟨p0,hlk⟩:=HL.out w9 (ak HB1.out HB9.out);simp only [Option.getD_none,Option.isSome_none] at hlk;clear hb9))
      go_roundg g1
      case measure=>omega
      case rel=>exact ⟨i+1,by (try simp),⟨by omega⟩,⟨by rw [←HG.out];simp⟩,HB9⟩
     |some u=>
      rw [hal] at HL HG
      clear hal
      go_wp2_with (go_at_call 79;go_loud (refine (H79.out _).mono ?_;rintro e w9 ⟨rfl,hb9⟩;have HB9:=z0 (ak hB.out hb9);obtain ⟨p0,hlk⟩:=HL.out w9 (ak HB1.out HB9.out);simp only [Option.getD_some,Option.isSome_some] at hlk;clear hb9))
      go_ret
      refine ⟨?_,ak HB1.out HB9.out⟩
      rw [←HG.out];simp
 |true=>
  have hmx0:(0:Int)≤max 0 ld:=by omega
  have hmx1:max 0 ld≤(from_.size:Int):=by omega
  have H78:ah (∀W,Calls Tryz.prog 78 #[.string from_,.int .u8 47] W fun e w'=>e= .returned (.int .i64 ld)∧Below W.heap.size W w'):=⟨fun W=>(OJoin.strings_LastIndexByte.calls kl from_ 47 ld W HLD.out).mono fun e w' ⟨h1,h2⟩=>⟨h1,h2.below⟩⟩
  have INS:∀(w6:World) {v5:Value} {w5:World},w5.ownsRow (w.alloc (Obj.cells #[Value.string name,Value.bool true,Value.string file] 34)).heap.size 9 1 v5 n (ps.map Value.string)→Below w5.heap.size w5 w6→w.heap.size≤w5.heap.size→Calls Tryz.prog 77 #[v5,.int .i64 0,.slice (some ⟨w6.heap.size,0,none⟩) 1 1] (w6.alloc (Obj.cells #[Value.string (from_.extract 0 (max 0 ld).toNat)] 9)) fun e w'=>∃A c,e= .returned (.slice A (n+1) c)∧n+1≤c∧Kd.C Kd.string w' A (n+1) (from_.extract 0 (max 0 ld).toNat::ps)∧Below (w.alloc (Obj.cells #[Value.string name,Value.bool true,Value.string file] 34)).heap.size (w6.alloc (Obj.cells #[Value.string (from_.extract 0 (max 0 ld).toNat)] 9)) w':=fun w6 v5 w5 ho hb hsz=>by
   have hlt:=Aj ho
   have hbs:=own_base ho
   rw [HN.out] at ho ⊢
   have ho6:=wI ho (fun k hk=>hb.block k (hlt k hk))
   have hlt6:∀k,v5.ownBlock=some k→k<w6.heap.size:=Aj ho6
   have ho7:=wI (w1:=w6.alloc (Obj.cells #[Value.string (from_.extract 0 (max 0 ld).toNat)] 9)) ho6 (fun k hk=>Below.heap_alloc w6 _ k (hlt6 k hk))
   exact ins_any ps _ v5 _ w6.heap.size _ ho7 (dh _ _) (fun e=>by have:=hlt6 _ e;omega) (by have:=HLN.out;omega) (by have:=hb.size;rw [bT,bT];omega)
  obtain ⟨nd,hnd⟩:∃nd,nd=n+1:=⟨_,rfl⟩
  simp only [←hnd] at INS
  have HNN:=z0 hnd
  clear hnd
  go_enter Tryz.func44,Tryz.ntmps44
  go_wp2_with (first|(go_at_call 76;go_loud (refine H76.mono ?_;rintro e w5 ⟨v5,rfl,ho5,hb5⟩;have hbx:=(hb5.block _ (aT HBX.out)).trans HBX.out;have b1:w5.cell? ⟨w.heap.size,1,none⟩=some (.bool true):=(by have:=cell_of_row w5 _ 1 _ _ _ hbx;simpa using this);have HO5:=z0 ho5;have HB5:=z0 (ak HB0.out hb5);have HX5:=z0 hbx;clear ho5 hb5 hbx))|(go_at_call 78;go_loud (refine (H78.out _).mono ?_;rintro e w6 ⟨rfl,hb6⟩;have HB6:=z0 hb6;have H77:=INS w6 HO5.out hb6 HB5.out.size;clear hb6))|(go_at_call 77;go_loud (refine H77.mono ?_;rintro e w7 ⟨A7,c7,rfl,hc7,hC7,hb7⟩;have HC7:=z0 hC7;have HB7:=z0 hb7;clear hC7 hb7)))
  have hSZ:(w.alloc (Obj.cells #[Value.string name,Value.bool true,Value.string file] 34)).heap.size=w.heap.size+1:=bT _ _
  have hnd:=HNN.out
  have hdd:dirs=from_.extract 0 (max 0 ld).toNat::ps:=by rw [HDI.out];rfl
  have HND:ah (nd=dirs.length):=⟨by rw [hdd,hnd,HN.out];rfl⟩
  have hnb:nd≤1000:=by rw [hnd,HN.out];have:=HLN.out;omega
  obtain ⟨W1,hW1⟩:∃W1,W1=w7:=⟨_,rfl⟩
  subst hW1
  have HDC:ah (Kd.C Kd.string W1 A7 nd dirs):=⟨by rw [hdd];exact HC7.out⟩
  have hb6':=HB6.out
  have hb7':=HB7.out
  have HB1:ah (Below w.heap.size w W1):=⟨(aA (ak HB5.out hb6') _).trans ⟨hb7'.os,hb7'.tape,hb7'.output,hb7'.size,fun k hk=>hb7'.block k (by omega)⟩⟩
  have hx7:W1.heap[w.heap.size]? =some (.cells #[Value.string name,Value.bool true,Value.string file] 34 (0,0)):=(hb7'.block _ (by omega)).trans (dN ((hb6'.block _ (aT HX5.out)).trans HX5.out) _)
  have hn0:W1.cell? ⟨w.heap.size,0,none⟩=some (.string name):=by have:=cell_of_row W1 _ 0 _ _ _ hx7;simpa using this
  clear hnd hdd hb6' hb7' hx7 hSZ HC7 H77 INS
  go_loopg [31] nd (fun kq v31 w'=>∃(i:Nat),v31= .int .i64 i∧ah (kq+i=nd)∧ah (kX m (js.drop i)=kX m js)∧ah (Below W1.heap.size W1 w'))
  case atStart=>exact ⟨0,rfl,⟨rfl⟩,⟨rfl⟩,⟨Below.refl _ _⟩⟩
  case round=>
   obtain ⟨i,rfl,hki,hF,hB⟩:=hrel
   have hki':=hki.out
   have HBW:ah (Below w.heap.size w wr):=⟨ak HB1.out hB.out⟩
   cases gk with
   |zero=>
    have hlt:decide ((i:Int)<(nd:Int))=false:=decide_eq_false (by omega)
    go_wp2
    go_ret
    refine ⟨?_,HBW.out⟩
    have:=hF.out
    rw [List.drop_eq_nil_of_le (by rw [HJL.out];have:=HND.out;omega)] at this
    rw [←this];rfl
   |succ g1=>
    have hlt:decide ((i:Int)<(nd:Int))=true:=decide_eq_true (by omega)
    have hii:(0:Int)≤(i:Int):=by omega
    obtain ⟨d,hd⟩:∃d,dirs[i]? =some d:=⟨_,List.getElem?_eq_getElem (by rw [←HND.out];omega)⟩
    obtain ⟨⟨jn,jb⟩,hjs,kj,hjk⟩:=HJ.out i d hd
    obtain ⟨ad,hAd,hx0⟩:=oW HDC.out i (by omega) d hd
    obtain rfl:=hAd
    replace hx0:=(hB.out.cell (World.block_lt_of_cell? W1 _ hx0)).trans hx0
    rw [Nat.mul_one] at hx0
    have hdr:js.drop i=(jn,jb)::js.drop (i+1):=by
     obtain ⟨hl',he'⟩:=List.getElem?_eq_some_iff.1 hjs
     rw [List.drop_eq_getElem_cons hl',he']
    have hg:=hF.out
    rw [hdr,kX] at hg
    have HG:=z0 hg
    have n0:=(hB.out.cell (World.block_lt_of_cell? W1 _ hn0)).trans hn0
    have H79:ah (∀W,Calls Tryz.prog 79 #[.string d,.string name] W fun e w'=>e= .returned (.tuple #[.string jn,.bool jb])∧Below W.heap.size W w'):=⟨fun W=>OJoin.fD.calls kj d name jn jb W hjk⟩
    clear hd hjs hdr hjk hg
    have HL:ah (∀W,Below w.heap.size w W→W.cell? ⟨PB,0,none⟩=some (.map (some fm))∧(Instr.lookup 75 (.map (some fm)) (.string jn) true).run Tryz.prog W= .ok (.tuple #[(eF m jn).getD (.string ⟨#[]⟩),.bool (eF m jn).isSome]) W):=⟨fun W hb=>by
     have h1:w.cell? ⟨PB,0,none⟩=some (.map (some fm)):=by have:=cell_of_row w PB 0 _ _ _ HPA.out.hP;simpa using this
     exact ⟨(hb.cell (World.block_lt_of_cell? w _ h1)).trans h1,(HPA.out.hm.same (hb.block _ HPA.out.hm.lt)).qB Tryz.underlying75 jn (.string ⟨#[]⟩) (fun _=>rfl)⟩⟩
    cases jb with
    |false=>
     go_wp2_with (go_at_call 79;go_loud (refine (H79.out _).mono ?_;rintro e w9 ⟨rfl,hb9⟩;have HB9:=z0 (ak hB.out hb9);clear hb9))
     go_roundg g1
     case measure=>omega
     case rel=>exact ⟨i+1,by (try simp),⟨by omega⟩,⟨by rw [←HG.out];simp⟩,HB9⟩
    |true=>
     cases hal:eF m jn with
     |none=>
      rw [hal] at HL HG
      clear hal
      go_wp2_with (go_at_call 79;go_loud (refine (H79.out _).mono ?_;rintro e w9 ⟨rfl,hb9⟩;have HB9:=z0 (ak hB.out hb9);obtain ⟨p0,hlk⟩:=HL.out w9 (ak HB1.out HB9.out);simp only [Option.getD_none,Option.isSome_none] at hlk;clear hb9))
      go_roundg g1
      case measure=>omega
      case rel=>exact ⟨i+1,by (try simp),⟨by omega⟩,⟨by rw [←HG.out];simp⟩,HB9⟩
     |some u=>
      rw [hal] at HL HG
      clear hal
      go_wp2_with (go_at_call 79;go_loud (refine (H79.out _).mono ?_;rintro e w9 ⟨rfl,hb9⟩;have HB9:=z0 (ak hB.out hb9);obtain ⟨p0,hlk⟩:=HL.out w9 (ak HB1.out HB9.out);simp only [Option.getD_some,Option.isSome_some] at hlk;clear hb9))
      go_ret
      refine ⟨?_,ak HB1.out HB9.out⟩
      rw [←HG.out];simp
end Go.Proofs.YtolaiebjmhieiaaGreatDoor.OScan
end
section
namespace Go.Proofs
abbrev Tryz.muLink:Go.Conc.Locks.MuLink:={lock:=38,unlock:=39,ilock:=62,iunlock:=63,lockSlow:=113,unlockSlow:=116,disable:=109,enable:=111,acquire:=112,relMerge:=114,cas32:=110,add32:=115,tMutex:=82,tIMutex:=80,tPMutex:=121,tPIMutex:=168,tPI32:=170,tUP:=172,tNoCopy:=77,tU32:=78}
theorem Tryz.muLib:Go.Conc.Locks.MuLib Tryz.prog Tryz.muLink:=
 ⟨Tryz.func38,Tryz.func39,Tryz.func62,Tryz.func63,Tryz.func109,Tryz.func111,Tryz.func112,Tryz.func114,Tryz.func110,Tryz.func115,Tryz.underlying80,Tryz.runUnderlying80,Tryz.sizeOf80,Tryz.isAgg80,Tryz.zeroValue80,Tryz.underlying82,Tryz.runUnderlying82,Tryz.sizeOf82,Tryz.isAgg82,Tryz.zeroValue82,Tryz.underlying121,Tryz.runUnderlying121,Tryz.sizeOf121,Tryz.isAgg121,Tryz.zeroValue121,Tryz.underlying168,Tryz.runUnderlying168,Tryz.sizeOf168,Tryz.isAgg168,Tryz.zeroValue168,Tryz.underlying170,Tryz.runUnderlying170,Tryz.sizeOf170,Tryz.isAgg170,Tryz.zeroValue170,Tryz.underlying172,Tryz.runUnderlying172,Tryz.sizeOf172,Tryz.isAgg172,Tryz.zeroValue172,Tryz.underlying77,Tryz.runUnderlying77,Tryz.sizeOf77,Tryz.isAgg77,Tryz.zeroValue77,Tryz.underlying21,Tryz.runUnderlying21,Tryz.sizeOf21,Tryz.isAgg21,Tryz.zeroValue21,(by kernel_rfl)⟩
end Go.Proofs
end
section
namespace Go.Proofs.YtolaiebjmhieiaaGreatDoor.OScan
open Go.RowKit YtolaiebjmhieiaaGreatDoorW.PrintWords YtolaiebjmhieiaaGreatDoorW.PrintLast YtolaiebjmhieiaaGreatDoorW.PrintMore
open Go.MuLone
theorem Ht (m c:AL)(name:ByteArray)(u pv:Value)(base PB fm cm:Nat)(w:World)(HP:uU base w PB fm cm pv m c)(hc:eF c name=some u):
 Calls Tryz.prog 21 #[.pointer (some ⟨PB,0,none⟩),.string name] w fun e w'=>e= .returned u∧w'.heap[PB]? =w.heap[PB]?∧gI w w' PB:=by
 have hP:=HP.hP
 have p2:w.cell? ⟨PB,2,none⟩=some (.int .i32 0):=by have:=cell_of_row w PB 2 _ _ _ hP;simpa using this
 have f2:=aj hP 2
 have hP1:=dR hP 2 (.int .i32 1) rfl
 have hP2:=dR hP1 2 (.int .i32 0) rfl
 have p4:(w.setCell ⟨PB,2,none⟩ (.int .i32 1)).cell? ⟨PB,4,none⟩=some (.map (some cm)):=by have:=cell_of_row _ PB 4 _ _ _ hP1;simpa using this
 have hM:gB (w.setCell ⟨PB,2,none⟩ (.int .i32 1)) cm c:=HP.hc.same (Below.heap_setCell _ _ _ _ (by
  rintro e
  obtain ⟨es,cl,h1,_⟩:=HP.hc
  have e':cm=PB:=e
  subst e'
  rw [hP] at h1
  cases h1))
 have hlk:=hM.qB Tryz.underlying83 name (.pointer none) (fun _=>rfl)
 rw [hc] at hlk
 simp only [Option.getD_some,Option.isSome_some] at hlk
 have hd1:(w.setCell ⟨PB,2,none⟩ (.int .i32 1)).cell? ⟨PB,2,none⟩=some (.int .i32 1):=by have:=cell_of_row _ PB 2 _ _ _ hP1;simpa using this
 have hd2:=aj hP1 2
 have HE:ah (((w.setCell ⟨PB,2,none⟩ (.int .i32 1)).setCell ⟨PB,2,none⟩ (.int .i32 0)).heap[PB]? =w.heap[PB]?∧gI w ((w.setCell ⟨PB,2,none⟩ (.int .i32 1)).setCell ⟨PB,2,none⟩ (.int .i32 0)) PB):=⟨hP2.trans hP.symm,⟨rfl,rfl,rfl,by simp,fun k hk=>(Below.heap_setCell _ ⟨PB,2,none⟩ _ k hk).trans (Below.heap_setCell _ ⟨PB,2,none⟩ _ k hk)⟩⟩
 have HL:=lock_free Tryz.muLib ⟨PB,2,none⟩ w p2 f2
 have HU:=unlock_deferred Tryz.muLib ⟨PB,2,none⟩ .returning (w.setCell ⟨PB,2,none⟩ (.int .i32 1)) hd1 hd2
 clear hP hP1 hP2 hM HP hc p2 f2
 obtain ⟨W1,hW1⟩:∃W1,W1=w.setCell ⟨PB,2,none⟩ (.int .i32 1):=⟨_,rfl⟩
 rw [←hW1] at p4 hlk hd1 hd2 HE HL HU
 clear hW1
 go_enter_defers Tryz.func21,Tryz.ntmps21
 go_wp2_with (go_at_call 38;go_loud (refine HL.mono ?_;rintro e w' ⟨rfl,rfl⟩))
 refine leaves_cons (f:=39) (args:= #[.pointer (some ⟨PB,2,none⟩)]) (by simp) (by simp [go_sem]) ?_
 refine HU.mono ?_
 rintro e u' w'' ⟨rfl,rfl,rfl⟩
 exact ⟨_,results_tmp rfl _ _ _,rfl,HE.out⟩
abbrev Us:=ByteArray × Bool × ByteArray
abbrev kUs:Kd Us:=Kd.pair Kd.string (Kd.pair Kd.bool Kd.string)
def Dx (base:Nat)(w:World)(rb:Nat)(us:List Us)(er:Int):Prop:=base≤rb∧∃vl vu,w.heap[rb]? =some (.cells #[vl,vu,.int .i64 er] 54 (0,0))∧Kd.R kUs 34 w base (fun _=>True) vu us
structure EZ (w0 w w':World)(PB cm:Nat)(c:AL)(name:ByteArray)(rb:Nat)(us:List Us)(er:Int):Prop where
 rd:Dx w0.heap.size w' rb us er
 new:w.heap.size≤rb
 map:gB w' cm (lD c name (.pointer (some ⟨rb,0,none⟩)))
 pb:w'.heap[PB]? =w.heap[PB]?
 below:Below w0.heap.size w0 w'
 keep:∀k,k<w.heap.size→k≠PB→k≠cm→w'.heap[k]? =w.heap[k]?
theorem JD (m c:AL)(name text:ByteArray)(pv:Value)(PB fm cm:Nat)(w0 w:World)(HP:uU w0.heap.size w PB fm cm pv m c)(HB:Below w0.heap.size w0 w)(hG:jg w0)(hc:eF c name=none)
 (ht:(eF m name).getD (.string ⟨#[]⟩)= .string text) (hsz:text.size≤140737488355328) (he:(eG text).2≠0):
 Calls Tryz.prog 21 #[.pointer (some ⟨PB,0,none⟩),.string name] w fun e w'=>∃rb,e= .returned (.pointer (some ⟨rb,0,none⟩))∧EZ w0 w w' PB cm c name rb [] (eG text).2:=by
 have hP:=HP.hP
 have hPB:=aT hP
 have p2:w.cell? ⟨PB,2,none⟩=some (.int .i32 0):=by have:=cell_of_row w PB 2 _ _ _ hP;simpa using this
 have f2:=aj hP 2
 have hP1:=dR hP 2 (.int .i32 1) rfl
 have hcP:cm≠PB:=by
  rintro e
  obtain ⟨es,cl,h1,_⟩:=HP.hc
  rw [e,hP] at h1
  cases h1
 have hfP:fm≠PB:=by
  rintro e
  obtain ⟨es,cl,h1,_⟩:=HP.hm
  rw [e,hP] at h1
  cases h1
 have hcs:=HP.hc.lt
 have hfs:=HP.hm.lt
 have HL:=lock_free Tryz.muLib ⟨PB,2,none⟩ w p2 f2
 obtain ⟨W1,hW1⟩:∃W1,W1=w.setCell ⟨PB,2,none⟩ (.int .i32 1):=⟨_,rfl⟩
 rw [←hW1] at HL hP1
 have hs1:W1.heap.size=w.heap.size:=by rw [hW1];simp
 have k1:∀k,k≠PB→W1.heap[k]? =w.heap[k]? :=fun k hk=>by rw [hW1];exact Below.heap_setCell _ ⟨PB,2,none⟩ _ k hk
 have B1:Below w0.heap.size w0 W1:=by rw [hW1];exact HB.setCell HP.bP _
 have hM1:gB W1 cm c:=HP.hc.same (k1 _ hcP)
 have hF1:gB W1 fm m:=HP.hm.same (k1 _ hfP)
 obtain ⟨W2,hW2⟩:∃W2,W2=W1.alloc (.cells #[Value.slice none 0 0,Value.slice none 0 0,Value.int .i64 0] 54):=⟨_,rfl⟩
 have B2:Below w0.heap.size w0 W2:=by rw [hW2];exact aA B1 _
 have k2:∀k,k<w.heap.size→W2.heap[k]? =W1.heap[k]? :=fun k hk=>by rw [hW2];exact Below.heap_alloc _ _ _ (by omega)
 have hM2:gB W2 cm c:=hM1.same (k2 _ hcs)
 have hF2:gB W2 fm m:=hF1.same (k2 _ hfs)
 obtain ⟨rb,hrb⟩:∃rb,rb=W1.heap.size:=⟨_,rfl⟩
 have hR2:W2.heap[rb]? =some (.cells #[Value.slice none 0 0,Value.slice none 0 0,Value.int .i64 0] 54 (0,0)):=by rw [hW2,hrb];exact dh _ _
 have hs2:W2.heap.size=w.heap.size+1:=by rw [hW2,bT,hs1]
 obtain ⟨W3,hrun,hM3,hO3⟩:=hM2.put (mt:=83) (e:=50) Tryz.underlying83 name (.pointer (some ⟨rb,0,none⟩))
 have hF3:gB W3 fm m:=hF2.same (hO3.block _ HP.ne)
 have B3:Below w0.heap.size w0 W3:=hO3.below B2 HP.bc
 have hlk1:=hM1.qB Tryz.underlying83 name (.pointer none) (fun _=>rfl)
 rw [hc] at hlk1
 simp only [Option.getD_none,Option.isSome_none] at hlk1
 have hlk3:=hF3.get Tryz.underlying75 name (.string ⟨#[]⟩) (fun _=>rfl)
 rw [ht] at hlk3
 have hP2:=(k2 _ hPB).trans hP1
 have hP3:=(hO3.block _ (Ne.symm hcP)).trans hP2
 have hR3:=(hO3.block rb (by omega)).trans hR2
 have a1:W1.cell? ⟨PB,4,none⟩=some (.map (some cm)):=by have:=cell_of_row _ PB 4 _ _ _ hP1;simpa using this
 have a2:W2.cell? ⟨PB,4,none⟩=some (.map (some cm)):=by have:=cell_of_row _ PB 4 _ _ _ hP2;simpa using this
 have a3:W3.cell? ⟨PB,0,none⟩=some (.map (some fm)):=by have:=cell_of_row _ PB 0 _ _ _ hP3;simpa using this
 have H40:=pV text W3 (hG.below B3) hsz
 have K3:∀k,k<w.heap.size→k≠PB→k≠cm→W3.heap[k]? =w.heap[k]? :=fun k h1 h2 h3=>(hO3.block k h3).trans ((k2 k h1).trans (k1 k h2))
 have s3:w.heap.size<W3.heap.size:=by rw [hO3.size,hs2];omega
 have er0:((eG text).2 !=0)=true:=by simpa using he
 have hrbs:rb<W3.heap.size:=aT hR3
 have hPs:PB<W3.heap.size:=aT hP3
 have hcs3:cm<W3.heap.size:=hM3.lt
 have hrP:rb≠PB:=by omega
 have hrc:rb≠cm:=by omega
 generalize (eG text).1=ys at H40
 generalize (eG text).2=er at *
 rw [hW2] at hrun a2
 rw [hrb] at hrun
 have HX:=z0 (And.intro hR3 (And.intro hP3 (And.intro hM3 (And.intro B3 K3))))
 have HRB:=z0 hrb
 have HPP:=z0 HP
 have HYP:=z0 (And.intro hP (And.intro s3 (And.intro hrbs (And.intro hPs (And.intro hcs3 (And.intro hrP hrc))))))
 have HS1:=z0 hs1
 clear hM1 hF1 B1 k1 hM2 hF2 B2 k2 hR2 hs2 hO3 hF3 B3 hP2 hP3 hR3 hP1 hW1 hW2 HP hP p2 f2 hs1 K3 s3 hrb hrbs hPs hcs3 hrP hrc hcs hfs hcP hfP hPB he hM3 HB hG hc ht hsz
 go_enter_defers Tryz.func21,Tryz.ntmps21
 go_wp2_with (first|(go_at_call 38;go_loud (refine HL.mono ?_;rintro e w' ⟨rfl,rfl⟩))|(go_at_call 40;go_loud (refine H40.mono ?_;rintro e w8 ⟨v8,rfl,hr8,hb8⟩;obtain ⟨A8,c8,rfl⟩:=Kd.bF hr8;obtain ⟨hR3,hP3,hM3,B3,K3⟩:=HX.out;obtain ⟨_,_,hrbs,hPs,hcs3,_,_⟩:=HYP.out;have hR8:=(hb8.block _ hrbs).trans hR3;have hP8:=(hb8.block _ hPs).trans hP3;have m0:w8.cell? ⟨rb,0,none⟩=some (.slice none 0 0):=(by have:=cell_of_row _ rb 0 _ _ _ hR8;simpa using this);have m2:w8.cell? ⟨rb,2,none⟩=some (.int .i64 0):=(by have:=cell_of_row _ rb 2 _ _ _ hR8;simpa using this);have g0:=aj hR8 0;have g2:=aj hR8 2;rw [HRB.out] at m0 m2 g0 g2;have HR8:=z0 hR8;have HP8:=z0 hP8;have HB8:=z0 hb8;clear hr8 hb8 hR3 hP3 hM3 B3 K3 hrbs hPs hcs3 hR8 hP8)))
 obtain ⟨W9,hW9⟩:∃W9,W9=((w8.setCell {block:=w'.heap.size,off:=0} (Value.slice A8 ys.length c8)).setCell {block:=w'.heap.size,off:=2} (Value.int IntKind.i64 er)):=⟨_,rfl⟩
 rw [←hW9]
 rw [←HRB.out] at hW9 ⊢
 obtain ⟨hR3,hP3,hM3,B3,K3⟩:=HX.out
 obtain ⟨hP,s3,hrbs,hPs,hcs3,hrP,hrc⟩:=HYP.out
 have hR9:W9.heap[rb]? =some (.cells #[Value.slice A8 ys.length c8,Value.slice none 0 0,Value.int .i64 er] 54 (0,0)):=by rw [hW9];exact dR (dR HR8.out 0 _ rfl) 2 _ rfl
 have hP9:W9.heap[PB]? =some (.cells #[Value.map (some fm),pv,Value.int .i32 1,Value.int .u32 0,Value.map (some cm)] 87 (0,0)):=by rw [hW9];exact dX (dX HP8.out (Ne.symm hrP) _) (Ne.symm hrP) _
 have k9:∀k,k≠rb→W9.heap[k]? =w8.heap[k]? :=fun k hk=>by rw [hW9];exact (Below.heap_setCell _ ⟨rb,2,none⟩ _ k hk).trans (Below.heap_setCell _ ⟨rb,0,none⟩ _ k hk)
 have hrb0:w.heap.size≤rb:=by have h1:=HRB.out;have h2:=HS1.out;omega
 have hw0:w0.heap.size≤rb:=by have:=HPP.out.bP;have:=aT hP;omega
 have B9:Below w0.heap.size w0 W9:=by rw [hW9];exact ((ak B3 HB8.out).setCell hw0 _).setCell hw0 _
 have d1:W9.cell? ⟨PB,2,none⟩=some (.int .i32 1):=by have:=cell_of_row _ PB 2 _ _ _ hP9;simpa using this
 have d2:=aj hP9 2
 refine leaves_cons (f:=39) (args:= #[.pointer (some ⟨PB,2,none⟩)]) (by simp) (by simp [go_sem]) ?_
 refine (unlock_deferred Tryz.muLib ⟨PB,2,none⟩ .returning W9 d1 d2).mono ?_
 rintro e u' w'' ⟨rfl,rfl,rfl⟩
 refine ⟨_,results_tmp rfl _ _ _,rb,rfl,⟨⟨hw0,_,_,dX hR9 hrP _,Kd.gQ _ _ _ _ _⟩,hrb0,hM3.same ?_,?_,B9.setCell HPP.out.bP _,fun k h1 h2 h3=> ?_⟩⟩
 · exact (Below.heap_setCell _ ⟨PB,2,none⟩ _ cm (by
    rintro e
    obtain ⟨es,cl,h1,_⟩:=HPP.out.hc
    have e':cm=PB:=e
    rw [e',hP] at h1
    cases h1)).trans ((k9 cm (Ne.symm hrc)).trans (HB8.out.block cm hcs3))
 · rw [hP];exact dR hP9 2 _ rfl
 · exact (Below.heap_setCell _ ⟨PB,2,none⟩ _ k h2).trans ((k9 k (by omega)).trans ((HB8.out.block k (by omega)).trans (K3 k h1 h2 h3)))
end Go.Proofs.YtolaiebjmhieiaaGreatDoor.OScan
end
section
namespace Go.Proofs.YtolaiebjmhieiaaGreatDoor.Graph
section
variable {α:Type}(er:α→Int)(us:α→List α)
inductive Reach:α→α→Prop
 |refl (a:α):Reach a a
 |step {a b c:α}:b∈us a→Reach b c→Reach a c
theorem Reach.trans {a b c:α}(h:Reach us a b)(k:Reach us b c):Reach us a c:=by
 induction h with
 |refl=>exact k
 |step hb _ ih=>exact .step hb (ih k)
theorem Reach.snoc {a b c:α}(h:Reach us a b)(k:c∈us b):Reach us a c:=h.trans us (.step k (.refl c))
mutual
inductive Walk:α→List α→List α→Int→List α→List α→Prop
 |met {n:α} {met out:List α}:n∈met→Walk n met out 0 met out
 |bad {n:α} {met out:List α}:n∉met→er n≠0→Walk n met out (er n) (n::met) out
 |go {n:α} {met out met' out':List α} {e:Int}:n∉met→er n=0→Walks (us n) (n::met) out e met' out'→Walk n met out e met' (out'++[n])
inductive Walks:List α→List α→List α→Int→List α→List α→Prop
 |nil {met out:List α}:Walks [] met out 0 met out
 |err {n:α} {ns met out met' out':List α} {e:Int}:Walk n met out e met' out'→e≠0→Walks (n::ns) met out e met' out'
 |cons {n:α} {ns met out met' out' met'' out'':List α} {e:Int}:Walk n met out 0 met' out'→Walks ns met' out' e met'' out''→Walks (n::ns) met out e met'' out''
end
def Good (out:List α):Prop:=∀a x b,out=a++x::b→∀y∈us x,y∈a∨y=x∨Reach us y x
theorem Good.snoc {out:List α}{n:α}(h:Good us out)(k:∀y∈us n,y∈out∨y=n∨Reach us y n):Good us (out++[n]):=by
 intro a x b e y hy
 rcases List.eq_nil_or_concat b with rfl|⟨b',z,rfl⟩
 · have:=List.append_inj' e (by simp)
   obtain ⟨rfl,h2⟩:=this
   obtain rfl:n=x:=by simpa using h2
   exact k y hy
 · have e':out++[n]=(a++x::b')++[z]:=by rw [e];simp
   obtain ⟨rfl,_⟩:=List.append_inj' e' (by simp)
   exact h a x b' rfl y hy
structure Kept (root:α)(met out met' out':List α):Prop where
 sub:∀x∈met,x∈met'
 grow:∀x∈out,x∈out'
 om:∀x∈out',x∈met'
 nd:out'.Nodup
 stack:∀x∈met',x∈out'∨(x∈met∧x∉out)
 good:Good us out'
 erz:∀x∈out',er x=0
 reach:∀x∈out',Reach us root x
 closed:∀x∈out',∀y∈us x,y∈met'
 fresh:∀x∈out',x∈out∨x∉met
structure Pre (root n:α)(met out:List α):Prop where
 om:∀x∈out,x∈met
 nd:out.Nodup
 anc:∀x∈met,x∉out→Reach us x n
 good:Good us out
 erz:∀x∈out,er x=0
 reach:∀x∈out,Reach us root x
 root:Reach us root n
 closed:∀x∈out,∀y∈us x,y∈met
theorem Fe (root:α):(∀(n:α) (met out:List α) (e:Int) (met' out':List α),Walk er us n met out e met' out'→e=0→Pre er us root n met out→Kept er us root met out met' out'∧n∈met'∧(n∉met→∃o,out'=o++[n])):=by
 intro n met out e met' out' h
 refine Walk.rec (motive_1:=fun n met out e met' out' _=>e=0→Pre er us root n met out→Kept er us root met out met' out'∧n∈met'∧(n∉met→∃o,out'=o++[n]))
  (motive_2:=fun ns met out e met' out' _=>e=0→∀p,(∀n∈ns,n∈us p)→p∈met→p∉out→Pre er us root p met out→Kept er us root met out met' out'∧∀n∈ns,n∈met') ?_ ?_ ?_ ?_ ?_ ?_ h
 · intro n met out hn _ P
   exact ⟨⟨fun _ h=>h,fun _ h=>h,P.om,P.nd,fun x hx=>by by_cases h:x∈out;exact .inl h;exact .inr ⟨hx,h⟩,P.good,P.erz,P.reach,P.closed,fun _ h=> .inl h⟩,hn,fun h=>absurd hn h⟩
 · intro n met out _ he h0
   exact absurd h0 he
 · intro n met out met' out' e hn he hw ih h0 P
   have hno:n∉out:=fun h=>hn (P.om n h)
   have P':Pre er us root n (n::met) out:=⟨fun x hx=>List.mem_cons_of_mem _ (P.om x hx),P.nd,fun x hx hxo=>by
    rcases List.mem_cons.1 hx with rfl|hx
    · exact .refl _
    · exact P.anc x hx hxo,P.good,P.erz,P.reach,P.root,fun x hx y hy=>List.mem_cons_of_mem _ (P.closed x hx y hy)⟩
   obtain ⟨K,hall⟩:=ih h0 n (fun _ h=>h) (List.mem_cons_self ..) hno P'
   have hnm:n∈met':=K.sub n (List.mem_cons_self ..)
   have hno':n∉out':=by
    intro hc
    rcases K.fresh n hc with h|h
    · exact hno h
    · exact h (List.mem_cons_self ..)
   refine ⟨⟨fun x hx=>K.sub x (List.mem_cons_of_mem _ hx),fun x hx=>List.mem_append_left _ (K.grow x hx),?_,?_,?_,?_,?_,?_,?_,?_⟩,hnm,fun _=>⟨_,rfl⟩⟩
   · intro x hx
     rcases List.mem_append.1 hx with hx|hx
     · exact K.om x hx
     · obtain rfl:x=n:=by simpa using hx
       exact hnm
   · rw [List.nodup_append]
     exact ⟨K.nd,by simp,fun a ha b hb=>by
      obtain rfl:b=n:=by simpa using hb
      exact fun h=>hno' (h▸ha)⟩
   · intro x hx
     rcases K.stack x hx with h|⟨h1,h2⟩
     · exact .inl (List.mem_append_left _ h)
     · rcases List.mem_cons.1 h1 with rfl|h1
       · exact .inl (by simp)
       · exact .inr ⟨h1,h2⟩
   · refine Good.snoc us K.good fun y hy=> ?_
     rcases K.stack y (hall y hy) with h|⟨h1,h2⟩
     · exact .inl h
     · rcases List.mem_cons.1 h1 with rfl|h1
       · exact .inr (.inl rfl)
       · exact .inr (.inr (P.anc y h1 h2))
   · intro x hx
     rcases List.mem_append.1 hx with hx|hx
     · exact K.erz x hx
     · obtain rfl:x=n:=by simpa using hx
       exact he
   · intro x hx
     rcases List.mem_append.1 hx with hx|hx
     · exact K.reach x hx
     · obtain rfl:x=n:=by simpa using hx
       exact P.root
   · intro x hx y hy
     rcases List.mem_append.1 hx with hx|hx
     · exact K.closed x hx y hy
     · obtain rfl:x=n:=by simpa using hx
       exact hall y hy
   · intro x hx
     rcases List.mem_append.1 hx with hx|hx
     · rcases K.fresh x hx with h|h
       · exact .inl h
       · exact .inr fun hm=>h (List.mem_cons_of_mem _ hm)
     · obtain rfl:x=n:=by simpa using hx
       exact .inr hn
 · intro met out _ p _ _ _ P
   exact ⟨⟨fun _ h=>h,fun _ h=>h,P.om,P.nd,fun x hx=>by by_cases h:x∈out;exact .inl h;exact .inr ⟨hx,h⟩,P.good,P.erz,P.reach,P.closed,fun _ h=> .inl h⟩,fun n hn=>absurd hn (by simp)⟩
 · intro n ns met out met' out' e hw he _ h0
   exact absurd h0 he
 · intro n ns met out met' out' met'' out'' e hw hws ih1 ih2 h0 p hp hpm hpo P
   have hnp:n∈us p:=hp n (List.mem_cons_self ..)
   obtain ⟨K1,hn1,_⟩:=ih1 rfl ⟨P.om,P.nd,fun x h1 h2=>(P.anc x h1 h2).snoc us hnp,P.good,P.erz,P.reach,P.root.snoc us hnp,P.closed⟩
   have hpo':p∉out':=fun hc=>by
    rcases K1.fresh p hc with h|h
    · exact hpo h
    · exact h hpm
   obtain ⟨K2,hall⟩:=ih2 h0 p (fun x hx=>hp x (List.mem_cons_of_mem _ hx)) (K1.sub p hpm) hpo' ⟨K1.om,K1.nd,fun x h1 h2=>by
    rcases K1.stack x h1 with h|⟨h3,h4⟩
    · exact absurd h h2
    · exact P.anc x h3 h4,K1.good,K1.erz,K1.reach,P.root,K1.closed⟩
   refine ⟨⟨fun x hx=>K2.sub x (K1.sub x hx),fun x hx=>K2.grow x (K1.grow x hx),K2.om,K2.nd,fun x hx=> ?_,K2.good,K2.erz,K2.reach,K2.closed,fun x hx=> ?_⟩,fun x hx=> ?_⟩
   · rcases K2.stack x hx with h|⟨h1,h2⟩
     · exact .inl h
     · rcases K1.stack x h1 with h|h
       · exact absurd h h2
       · exact .inr h
   · rcases K2.fresh x hx with h|h
     · exact K1.fresh x h
     · exact .inr fun hm=>h (K1.sub x hm)
   · rcases List.mem_cons.1 hx with rfl|hx
     · exact K2.sub _ hn1
     · exact hall x hx
structure Found (root:α)(out:List α):Prop where
 nd:out.Nodup
 last:∃o,out=o++[root]
 good:Good us out
 erz:∀x∈out,er x=0
 mem:∀x,x∈out↔Reach us root x
theorem qC {root:α}{met out:List α}(h:Walk er us root [] [] 0 met out):Found er us root out:=by
 obtain ⟨K,h1,h2⟩:=Fe er us root root [] [] 0 met out h rfl ⟨by simp,by simp,by simp,by
  intro a x b e
  simp at e,by simp,by simp,.refl _,by simp⟩
 have hc:∀x∈out,∀y∈us x,y∈out:=fun x hx y hy=>by
  rcases K.stack y (K.closed x hx y hy) with h|h
  · exact h
  · simp at h
 have hl:=h2 (by simp)
 refine ⟨K.nd,hl,K.good,K.erz,fun x=>⟨K.reach x,fun hr=> ?_⟩⟩
 have:∀a b,Reach us a b→a∈out→b∈out:=fun a b hr=>by
  induction hr with
  |refl=>exact id
  |step hb _ ih=>exact fun ha=>ih (hc _ ha _ hb)
 obtain ⟨o,ho⟩:=hl
 exact this root x hr (by rw [ho];simp)
theorem Jl {names:List α}(hall:∀x∈names,er x=0)(hus:∀x,∀y∈us x,y∈names):∀(n:α) (met out:List α) (e:Int) (met' out':List α),Walk er us n met out e met' out'→n∈names→e=0:=by
 intro n met out e met' out' h
 refine Walk.rec (motive_1:=fun n met out e met' out' _=>n∈names→e=0) (motive_2:=fun ns met out e met' out' _=>(∀n∈ns,n∈names)→e=0) ?_ ?_ ?_ ?_ ?_ ?_ h
 · intros;rfl
 · intro n met out _ he hm;exact absurd (hall n hm) he
 · intro n met out met' out' e _ _ _ ih _;exact ih fun y hy=>hus _ y hy
 · intros;rfl
 · intro n ns met out met' out' e _ he ih hm;exact absurd (ih (hm n (List.mem_cons_self ..))) he
 · intro n ns met out met' out' met'' out'' e _ _ _ ih hm;exact ih fun y hy=>hm y (List.mem_cons_of_mem _ hy)
open Classical in
noncomputable def left (names met:List α):Nat:=(names.filter fun n=>decide (n∉met)).length
open Classical in
theorem tY {names met met':List α}(h:∀x∈met,x∈met'):left names met'≤left names met:=by
 unfold left
 induction names with
 |nil=>simp
 |cons a l ih=>
  by_cases h1:a∈met'
  · by_cases h2:a∈met
    · simp [h1,h2];simpa using ih
    · simp [h1,h2];have:=ih;simp at this;omega
  · have h2:a∉met:=fun hm=>h1 (h a hm)
    simp [h1,h2];simpa using ih
open Classical in
theorem mJ {names met:List α}{n:α}(hn:n∈names)(hm:n∉met):left names (n::met)+1≤left names met:=by
 unfold left
 induction names with
 |nil=>simp at hn
 |cons a l ih=>
  rcases List.mem_cons.1 hn with rfl|hn
  · have:=tY (names:=l) (met:=met) (met':=n::met) (fun x hx=>List.mem_cons_of_mem _ hx)
    unfold left at this
    rw [List.filter_cons_of_neg (by simp),List.filter_cons_of_pos (by simpa using hm)]
    simp only [List.length_cons];omega
  · have:=ih hn
    by_cases h1:a∈met
    · rw [List.filter_cons_of_neg (by simp [h1]),List.filter_cons_of_neg (by simp [h1])];exact this
    · rw [List.filter_cons_of_pos (l:=l) (p:=fun n=>decide (n∉met)) (by simpa using h1)]
      by_cases h2:a=n
      · rw [List.filter_cons_of_neg (by simp [h2])];simp only [List.length_cons];omega
      · rw [List.filter_cons_of_pos (by simp [h1,h2])];simp only [List.length_cons];omega
theorem nN {names:List α}(hus:∀x,∀y∈us x,y∈names):∀(n:α) (met out:List α) (e:Int) (met' out':List α),Walk er us n met out e met' out'→n∈names→(∀x∈met,x∈met')∧out'.length+left names met'≤out.length+left names met:=by
 intro n met out e met' out' h
 refine Walk.rec (motive_1:=fun n met out e met' out' _=>n∈names→(∀x∈met,x∈met')∧out'.length+left names met'≤out.length+left names met)
  (motive_2:=fun ns met out e met' out' _=>(∀n∈ns,n∈names)→(∀x∈met,x∈met')∧out'.length+left names met'≤out.length+left names met) ?_ ?_ ?_ ?_ ?_ ?_ h
 · intro n met out _ _;exact ⟨fun _ h=>h,Nat.le_refl _⟩
 · intro n met out hn _ hm
   have:=mJ hm hn
   exact ⟨fun _ h=>List.mem_cons_of_mem _ h,by omega⟩
 · intro n met out met' out' e hn _ _ ih hm
   obtain ⟨h1,h2⟩:=ih (fun y hy=>hus _ y hy)
   have:=mJ hm hn
   exact ⟨fun x hx=>h1 x (List.mem_cons_of_mem _ hx),by rw [List.length_append,List.length_singleton];omega⟩
 · intro met out _;exact ⟨fun _ h=>h,Nat.le_refl _⟩
 · intro n ns met out met' out' e _ _ ih hm
   exact ih (hm n (List.mem_cons_self ..))
 · intro n ns met out met' out' met'' out'' e _ _ ih1 ih2 hm
   obtain ⟨h1,h2⟩:=ih1 (hm n (List.mem_cons_self ..))
   obtain ⟨h3,h4⟩:=ih2 fun y hy=>hm y (List.mem_cons_of_mem _ hy)
   exact ⟨fun x hx=>h3 x (h1 x hx),by omega⟩
theorem yx {names:List α}(hus:∀x,∀y∈us x,y∈names):∀(ns met out:List α) (e:Int) (met' out':List α),Walks er us ns met out e met' out'→(∀n∈ns,n∈names)→(∀x∈met,x∈met')∧out'.length+left names met'≤out.length+left names met
 |_,_,_,_,_,_,.nil,_=>⟨fun _ h=>h,Nat.le_refl _⟩
 |_,_,_,_,_,_,.err h _,hm=>nN er us hus _ _ _ _ _ _ h (hm _ (List.mem_cons_self ..))
 |_,_,_,_,_,_,.cons h k,hm=>by
  obtain ⟨h1,h2⟩:=nN er us hus _ _ _ _ _ _ h (hm _ (List.mem_cons_self ..))
  obtain ⟨h3,h4⟩:=yx hus _ _ _ _ _ _ k fun y hy=>hm y (List.mem_cons_of_mem _ hy)
  exact ⟨fun x hx=>h3 x (h1 x hx),by omega⟩
end
end Go.Proofs.YtolaiebjmhieiaaGreatDoor.Graph
end
section
namespace Go.Proofs.YtolaiebjmhieiaaGreatDoor.OScan
open Go.RowKit YtolaiebjmhieiaaGreatDoorW.PrintWords YtolaiebjmhieiaaGreatDoorW.PrintLast YtolaiebjmhieiaaGreatDoorW.PrintMore
theorem Dx.kept {base:Nat}{w w':World}{rb:Nat}{us:List Us}{er:Int}(h:Dx base w rb us er)(hk:∀(k:Nat) (cs:Array Value),(w.heap[k]? =some (Obj.cells cs 54 (0,0))∨w.heap[k]? =some (Obj.cells cs 34 (0,0)))→w'.heap[k]? =w.heap[k]?):Dx base w' rb us er:=by
 obtain ⟨h0,vl,vu,h1,h2⟩:=h
 refine ⟨h0,vl,vu,(hk _ _ (.inl h1)).trans h1,Kd.fM (Kd.lJ (Kd.iJ h2) (fun k ho _=> ?_)) (fun _ _=>trivial)⟩
 obtain ⟨_,_,_,q,hq,cs,hc⟩:=ho
 obtain rfl:q=34:=by
  rcases List.mem_cons.1 hq with h|h
  · exact h
  · exact absurd (show q∈([]:List Nat) from h) (by simp)
 exact hk _ _ (.inr hc)
structure PS (us:ByteArray→List Us)(er:ByteArray→Int)(w0:World)(m:AL)(pv:Value)(PB fm cm:Nat)(w:World):Prop where
 below:Below w0.heap.size w0 w
 prj:∃c,uU w0.heap.size w PB fm cm pv m c∧∀n u,eF c n=some u→∃rb,u= .pointer (some ⟨rb,0,none⟩)∧Dx w0.heap.size w rb (us n) (er n)
section
variable {us:ByteArray→List Us}{er:ByteArray→Int}{w0:World}{m:AL}{pv:Value}{PB fm cm:Nat}
theorem PS.kept {w w':World}(P:PS us er w0 m pv PB fm cm w)(hb:Below w0.heap.size w0 w')(hk:∀k,(k=PB∨k=fm∨k=cm∨∃cs:Array Value,w.heap[k]? =some (Obj.cells cs 54 (0,0))∨w.heap[k]? =some (Obj.cells cs 34 (0,0)))→w'.heap[k]? =w.heap[k]?):PS us er w0 m pv PB fm cm w':=by
 obtain ⟨c,hP,hc⟩:=P.prj
 refine ⟨hb,c,⟨(hk _ (.inl rfl)).trans hP.hP,hP.hm.same (hk _ (.inr (.inl rfl))),hP.hc.same (hk _ (.inr (.inr (.inl rfl)))),hP.bP,hP.bm,hP.bc,hP.ne⟩,fun n u hu=> ?_⟩
 obtain ⟨rb,e,hr⟩:=hc n u hu
 exact ⟨rb,e,hr.kept fun k cs hc=>hk k (.inr (.inr (.inr ⟨cs,hc⟩)))⟩
theorem PS.step {w w':World}(P:PS us er w0 m pv PB fm cm w)(hb:Below w.heap.size w w'):PS us er w0 m pv PB fm cm w':=by
 obtain ⟨c,hP,hc⟩:=P.prj
 refine P.kept (ak P.below hb) (fun k hk=>hb.block k ?_)
 rcases hk with rfl|rfl|rfl|⟨cs,h|h⟩
 · exact aT hP.hP
 · exact hP.hm.lt
 · exact hP.hc.lt
 · exact aT h
 · exact aT h
theorem PS.sG {w:World}(P:PS us er w0 m pv PB fm cm w){k t:Nat}{cs:Array Value}(h:w.heap[k]? =some (.cells cs t (0,0)))(ht:t≠87):k≠PB∧k≠fm∧k≠cm:=by
 obtain ⟨c,hP,hc⟩:=P.prj
 refine ⟨?_,?_,?_⟩
 · rintro rfl
   have:=hP.hP
   rw [h] at this
   injection this with this
   injection this with _ h2
   exact ht h2
 · rintro rfl
   obtain ⟨es,cl,h1,_⟩:=hP.hm
   rw [h] at h1
   cases h1
 · rintro rfl
   obtain ⟨es,cl,h1,_⟩:=hP.hc
   rw [h] at h1
   cases h1
end
structure Ids where
 MC:Nat
 PC:Nat
 OC:Nat
 WC:Nat
 mm:Nat
 bA:Nat
def KN (I:Ids):Value:= .func (.func 52) #[] #[.pointer (some ⟨I.MC,0,none⟩),.pointer (some ⟨I.PC,0,none⟩),.pointer (some ⟨I.OC,0,none⟩),.pointer (some ⟨I.WC,0,none⟩)]
structure WS (us:ByteArray→List Us)(er:ByteArray→Int)(w0:World)(m:AL)(pv:Value)(PB fm cm:Nat)(I:Ids)(w:World)(v:Value)(met out:List ByteArray):Prop where
 ps:PS us er w0 m pv PB fm cm w
 mc:w.heap[I.MC]? =some (.cells #[.map (some I.mm)] 112 (0,0))
 pc:w.heap[I.PC]? =some (.cells #[.pointer (some ⟨PB,0,none⟩)] 47 (0,0))
 oc:w.heap[I.OC]? =some (.cells #[v] 23 (0,0))
 wc:w.heap[I.WC]? =some (.cells #[KN I] 113 (0,0))
 mm:∃al,gB w I.mm al∧∀n,(n∈met→eF al n=some (.bool true))∧(n∉met→eF al n=none)
 out:Kd.R Kd.string 9 w I.bA (fun _=>True) v out
 b0:w0.heap.size≤I.bA
 bo:I.bA≤I.OC
 bm:I.bA≤I.mm
 nf:I.mm≠fm
 nc:I.mm≠cm
structure WF (cm:Nat)(I:Ids)(w:World)(v:Value)(w':World)(v':Value):Prop where
 size:w.heap.size≤w'.heap.size
 keep:∀k,k<w.heap.size→k≠cm→k≠I.mm→k≠I.OC→some k≠v.ownBlock→w'.heap[k]? =w.heap[k]?
 at_:v'.ownBlock=v.ownBlock∨∃b,v'.ownBlock=some b∧w.heap.size≤b
theorem WF.of_below {cm:Nat}{I:Ids}{w w':World}{v:Value}(h:Below w.heap.size w w'):WF cm I w v w' v:=⟨h.size,fun k hk _ _ _ _=>h.block k hk,.inl rfl⟩
theorem WF.trans {cm:Nat}{I:Ids}{w w1 w2:World}{v v1 v2:Value}(h:WF cm I w v w1 v1)(k:WF cm I w1 v1 w2 v2):WF cm I w v w2 v2:=by
 refine ⟨Nat.le_trans h.size k.size,fun j hj h1 h2 h3 h4=> ?_,?_⟩
 · have hs:=h.size
   refine (k.keep j (by omega) h1 h2 h3 ?_).trans (h.keep j hj h1 h2 h3 h4)
   rcases h.at_ with e|⟨b,e,hb⟩
   · rw [e];exact h4
   · rw [e];intro e2;injection e2 with e2;omega
 · have hs:=h.size
   rcases k.at_ with e|⟨b,e,hb⟩
   · rw [e];exact h.at_
   · exact .inr ⟨b,e,by omega⟩
section
variable {us:ByteArray→List Us}{er:ByteArray→Int}{w0:World}{m:AL}{pv:Value}{PB fm cm:Nat}{I:Ids}
theorem WS.far {w w':World}{v v':Value}{met out:List ByteArray}(S:WS us er w0 m pv PB fm cm I w v met out)(F:WF cm I w v w' v'){k t:Nat}{cs:Array Value}(h:w.heap[k]? =some (.cells cs t (0,0)))(h1:t≠87)(h2:t≠23)(h3:t≠9):w'.heap[k]? =w.heap[k]? :=by
 have hc:=S.ps.sG h h1
 refine F.keep k (aT h) hc.2.2 ?_ ?_ (Kd.AX S.out h (by omega))
 · rintro rfl
   obtain ⟨al,⟨es,cl,h4,_⟩,_⟩:=S.mm
   rw [h] at h4
   cases h4
 · rintro rfl
   have h4:=S.oc
   rw [h] at h4
   injection h4 with h4
   injection h4 with _ h5
   exact h2 h5
theorem WS.step {w w':World}{v:Value}{met out:List ByteArray}(S:WS us er w0 m pv PB fm cm I w v met out)(hb:Below w.heap.size w w'):WS us er w0 m pv PB fm cm I w' v met out:=by
 obtain ⟨al,hM,hal⟩:=S.mm
 exact ⟨S.ps.step hb,(hb.block _ (aT S.mc)).trans S.mc,(hb.block _ (aT S.pc)).trans S.pc,(hb.block _ (aT S.oc)).trans S.oc,(hb.block _ (aT S.wc)).trans S.wc,⟨al,hM.same (hb.block _ hM.lt),hal⟩,Kd.dn S.out hb,S.b0,S.bo,S.bm,S.nf,S.nc⟩
theorem jH:∀(l:AL) (t:ByteArray) (v:Value) (n:ByteArray),eF (lD l t v) n=if n==t then some v else eF l n
 |[],t,v,n=>rfl
 |p::l,t,v,n=>by
  have ih:=jH l t v n
  simp only [lD]
  by_cases h:(t==p.1)=true
  · have e:t=p.1:=(MapKept.bytes_beq _ _).1 h
    rw [if_pos h]
    simp only [eF]
    rw [←e]
    by_cases h2:(n==t)=true
    · simp [h2]
    · simp [h2]
  · rw [if_neg h]
    simp only [eF,ih]
    by_cases h2:(n==p.1)=true
    · have e:n=p.1:=(MapKept.bytes_beq _ _).1 h2
      have h3:¬(n==t)=true:=fun h4=>h (by rw [←(MapKept.bytes_beq _ _).1 h4];exact h2)
      simp [h2,h3]
    · simp [h2]
theorem WS.put {w w':World}{v:Value}{met out:List ByteArray}(S:WS us er w0 m pv PB fm cm I w v met out)(name:ByteArray)(al:AL)(hal:∀n,(n∈met→eF al n=some (.bool true))∧(n∉met→eF al n=none))(hM:gB w' I.mm (lD al name (.bool true)))(hO:gI w w' I.mm):WS us er w0 m pv PB fm cm I w' v (name::met) out:=by
 obtain ⟨al0,⟨es,cl,hm0,_⟩,_⟩:=S.mm
 have hne:∀{k t:Nat} {cs:Array Value},w.heap[k]? =some (.cells cs t (0,0))→k≠I.mm:=by
  rintro k t cs h rfl
  rw [hm0] at h
  cases h
 obtain ⟨c,hP,_⟩:=S.ps.prj
 refine ⟨S.ps.kept ?_ (fun k hk=>hO.block k ?_),(hO.block _ (hne S.mc)).trans S.mc,(hO.block _ (hne S.pc)).trans S.pc,(hO.block _ (hne S.oc)).trans S.oc,(hO.block _ (hne S.wc)).trans S.wc,⟨_,hM,fun n=> ?_⟩,?_,S.b0,S.bo,S.bm,S.nf,S.nc⟩
 · have h1:=S.b0
   have h2:=S.bm
   exact hO.below S.ps.below (by omega)
 · rcases hk with rfl|rfl|rfl|⟨cs,h|h⟩
   · exact hne hP.hP
   · exact Ne.symm S.nf
   · exact Ne.symm S.nc
   · exact hne h
   · exact hne h
 · rw [jH]
   by_cases hn:(n==name)=true
   · have e:=(MapKept.bytes_beq _ _).1 hn
     subst e
     exact ⟨fun _=>by rw [if_pos hn],fun h=>absurd (List.mem_cons_self ..) h⟩
   · have e:n≠name:=fun e=>hn ((MapKept.bytes_beq _ _).2 e)
     rw [if_neg hn]
     exact ⟨fun h=>(hal n).1 (by
      rcases List.mem_cons.1 h with h|h
      · exact absurd h e
      · exact h),fun h=>(hal n).2 fun h2=>h (List.mem_cons_of_mem _ h2)⟩
 · exact Kd.lJ (Kd.iJ S.out) (fun k ho _=>by
    obtain ⟨_,_,_,q,_,cs,hc⟩:=ho
    exact hO.block k (hne hc)) |> fun h=>Kd.fM h (fun _ _=>trivial)
theorem WF.put {w w':World}{v:Value}(hO:gI w w' I.mm):WF cm I w v w' v:=⟨by rw [hO.size];exact Nat.le_refl _,fun k _ _ h _ _=>hO.block k h,.inl rfl⟩
theorem WS.read {w w':World}{v:Value}{met out:List ByteArray}(S:WS us er w0 m pv PB fm cm I w v met out)(hP:PS us er w0 m pv PB fm cm w')(hs:w.heap.size≤w'.heap.size)(hk:∀k,k<w.heap.size→k≠cm→w'.heap[k]? =w.heap[k]?):WS us er w0 m pv PB fm cm I w' v met out:=by
 obtain ⟨al,hM,hal⟩:=S.mm
 have far:∀{k t:Nat} {cs:Array Value},w.heap[k]? =some (.cells cs t (0,0))→t≠87→w'.heap[k]? =w.heap[k]? :=fun h ht=>hk _ (aT h) (S.ps.sG h ht).2.2
 refine ⟨hP,(far S.mc (by decide)).trans S.mc,(far S.pc (by decide)).trans S.pc,(far S.oc (by decide)).trans S.oc,(far S.wc (by decide)).trans S.wc,⟨al,hM.same (hk _ hM.lt S.nc),hal⟩,?_,S.b0,S.bo,S.bm,S.nf,S.nc⟩
 exact Kd.lJ (Kd.iJ S.out) (fun k ho _=>by
  obtain ⟨_,_,_,q,hq,cs,hc⟩:=ho
  obtain rfl:q=9:=by
   rcases List.mem_cons.1 hq with h|h
   · exact h
   · exact absurd (show q∈([]:List Nat) from h) (by simp)
  exact far hc (by decide)) |> fun h=>Kd.fM h (fun _ _=>trivial)
theorem WF.read {w w':World}{v:Value}(hs:w.heap.size≤w'.heap.size)(hk:∀k,k<w.heap.size→k≠cm→w'.heap[k]? =w.heap[k]?):WF cm I w v w' v:=⟨hs,fun k h1 h2 _ _ _=>hk k h1 h2,.inl rfl⟩
end
theorem info9:(Tryz.prog.info? 9).map (fun i=>(i.zero,i.size,i.bytes))=some (some (.string ⟨#[]⟩),1,16):=by kernel_rfl
theorem AO (OC NB bA:Nat)(u:FrameMode)(w:World)(v:Value)(out:List ByteArray)(name:ByteArray)(hO:w.heap[OC]? =some (.cells #[v] 23 (0,0)))(hN:w.heap[NB]? =some (.cells #[.string name] 9 (0,0)))(hR:Kd.R Kd.string 9 w bA (fun _=>True) v out)(hb:bA≤w.heap.size)(hl:out.length≤1000):
 CallsD Tryz.prog 53 #[.pointer (some ⟨OC,0,none⟩),.pointer (some ⟨NB,0,none⟩)] u w fun e u' w'=>u'=u∧(e= .returned (.tuple #[])∧∃v',w'.heap[OC]? =some (.cells #[v'] 23 (0,0))∧Kd.R Kd.string 9 w' bA (fun _=>True) v' (out++[name])∧w.heap.size≤w'.heap.size∧(∀k,k<w.heap.size→k≠OC→some k≠v.ownBlock→w'.heap[k]? =w.heap[k]?)∧(v'.ownBlock=v.ownBlock∨∃b,v'.ownBlock=some b∧w.heap.size≤b)∧w'.os=w.os∧w'.tape=w.tape∧w'.output=w.output):=by
 obtain ⟨A,c,rfl⟩:=Kd.bF hR
 have o1:w.cell? ⟨OC,0,none⟩=some (.slice A out.length c):=by have:=cell_of_row w OC 0 _ _ _ hO;simpa using this
 have n1:w.cell? ⟨NB,0,none⟩=some (.string name):=by have:=cell_of_row w NB 0 _ _ _ hN;simpa using this
 have HO:=z0 hO
 have HR:=z0 hR
 have HB:=z0 hb
 have HL:=z0 hl
 have HOW:ah (some OC≠(Value.slice A out.length c).ownBlock):=⟨Kd.AX hR hO (by decide)⟩
 clear hO hN hR hb hl
 obtain ⟨n,hn⟩:∃n,n=out.length:=⟨_,rfl⟩
 rw [←hn] at o1 HO HR HOW ⊢
 have HN:=z0 hn
 clear hn
 go_enter_d Tryz.func53,Tryz.ntmps53
 go_wp2_with (at_builtin;go_loud (refine Kd.fH Kd.string (w0:=w) (W:=w) bA rfl (.tmp 2) (.tmp 4) 23 9 (.string ⟨#[]⟩) 16 rfl Tryz.underlying23 info9 rfl (by decide) (by omega) (.slice A n c) out name [.string name] (fun _=>True) (fun _=>False) rfl rfl rfl (fun _ hk=>hk.elim) (fun _ _=>trivial) ?aO ?aB ?aS ?aL ?_;(case aO=>exact HR.out);(case aB=>exact Below.refl _ _);(case aS=>exact HB.out);(case aL=>have:=HL.out;omega);intro v1 w6 ho hb6 hg6 hat6;obtain ⟨A1,c1,rfl⟩:=Kd.bF ho;rw [List.length_append,List.length_singleton] at ho hat6;have hc6:=(hg6.block OC (aT HO.out) HOW.out).trans HO.out;have r0:w6.cell? ⟨OC,0,none⟩=some (.slice A n c):=(by have:=cell_of_row _ OC 0 _ _ _ hc6;simpa using this);have r1:=aj hc6 0;have HC6:=z0 hc6;have HO6:=z0 ho;have HG6:=z0 hg6;have HA6:=z0 hat6;clear ho hb6 hg6 hat6 hc6))
 go_end0
 refine ⟨rfl,_,dR HC6.out 0 _ rfl,Kd.lV HO6.out HC6.out (by decide) 0 _,?_,fun k h1 h2 h3=> ?_,HA6.out,?_,?_,?_⟩
 · have:=HG6.out.size;simp;exact this
 · exact (Below.heap_setCell _ ⟨OC,0,none⟩ _ k h2).trans (HG6.out.block k h1 h3)
 · exact HG6.out.os
 · exact HG6.out.tape
 · exact HG6.out.output
def iw:List Us→List ByteArray
 |[]=>[]
 |u::l=>if u.2.2.toList=[] then iw l else u.2.2::iw l
theorem rZ:∀{l:List Us} {y:ByteArray},y∈iw l→∃u∈l,u.2.2=y∧y.toList≠[]
 |u::l,y,h=>by
  unfold iw at h
  split at h
  · obtain ⟨u',h1,h2⟩:=rZ h
    exact ⟨u',List.mem_cons_of_mem _ h1,h2⟩
  · rename_i hne
    rcases List.mem_cons.1 h with rfl|h
    · exact ⟨u,List.mem_cons_self ..,rfl,hne⟩
    · obtain ⟨u',h1,h2⟩:=rZ h
      exact ⟨u',List.mem_cons_of_mem _ h1,h2⟩
theorem Em {w:World}{A:Option Addr}{n:Nat}{xs:List Us}(h:Kd.C kUs w A n xs)(i:Nat)(h1:i<n)(x:Us)(hx:xs[i]? =some x):∃ad,A=some ad∧w.cell? (ad.add (i*3))=some (.string x.1)∧w.cell? ⟨(ad.add (i*3)).block,(ad.add (i*3)).off+1,none⟩=some (.bool x.2.1)∧w.cell? ⟨(ad.add (i*3)).block,(ad.add (i*3)).off+2,none⟩=some (.string x.2.2):=by
 obtain ⟨ad,c,e,_,hK,hc0⟩:=Kd.pJ h x i (by omega) (by omega)
 have hxi:xs.getD (i:Int).toNat x=x:=by simp [List.getD_eq_getElem?_getD,hx]
 rw [hxi] at hK
 have hc:∀j u,c[j]? =some u→w.cell? (ad.add (i*3+j))=some u:=hc0
 obtain ⟨_,_,rfl,rfl,⟨_,_,rfl,rfl,rfl⟩⟩:=hK
 exact ⟨ad,e,hc 0 _ rfl,by rw [←gZ _ _ 1 (by omega)];exact hc 1 _ rfl,by rw [←gZ _ _ 2 (by omega)];exact hc 2 _ rfl⟩
section
variable {us:ByteArray→List Us}{er:ByteArray→Int}{w0:World}{m:AL}{pv:Value}{PB fm cm:Nat}{I:Ids}
def Dv (us:ByteArray→List Us)(er:ByteArray→Int)(w0:World)(m:AL)(pv:Value)(PB fm cm:Nat)(I:Ids)(name:ByteArray)(met out:List ByteArray)(v:Value)(w:World)(e:Ending)(w':World):Prop:=
 ∃(er':Int) (met' out':List ByteArray) (v':Value),e= .returned (.int .i64 er')∧Graph.Walk er (fun n=>iw (us n)) name met out er' met' out'∧WS us er w0 m pv PB fm cm I w' v' met' out'∧WF cm I w v w' v'
def Jb (us:ByteArray→List Us)(er:ByteArray→Int)(w0:World)(m:AL)(pv:Value)(PB fm cm:Nat)(n:ByteArray):Prop:=
 ∀(W:World),PS us er w0 m pv PB fm cm W→Calls Tryz.prog 21 #[.pointer (some ⟨PB,0,none⟩),.string n] W fun e w'=>∃rb,e= .returned (.pointer (some ⟨rb,0,none⟩))∧Dx w0.heap.size w' rb (us n) (er n)∧PS us er w0 m pv PB fm cm w'∧W.heap.size≤w'.heap.size∧∀k,k<W.heap.size→k≠cm→w'.heap[k]? =W.heap[k]?
theorem Bq (name:ByteArray)(met out:List ByteArray)(v:Value)(w:World)(hm:name∈met)(S:WS us er w0 m pv PB fm cm I w v met out):
 Calls Tryz.prog 52 #[.string name,.pointer (some ⟨I.MC,0,none⟩),.pointer (some ⟨I.PC,0,none⟩),.pointer (some ⟨I.OC,0,none⟩),.pointer (some ⟨I.WC,0,none⟩)] w (Dv us er w0 m pv PB fm cm I name met out v w):=by
 have hB:=aA (Below.refl w.heap.size w) (Obj.cells #[Value.string name] 9)
 have S1:=S.step hB
 obtain ⟨al,hM,hal⟩:=S1.mm
 have hlk:=hM.get Tryz.underlying112 name (.bool false) (fun _=>rfl)
 rw [(hal name).1 hm] at hlk
 simp only [Option.getD_some] at hlk
 have c1:(w.alloc (Obj.cells #[Value.string name] 9)).cell? ⟨I.MC,0,none⟩=some (.map (some I.mm)):=by have:=cell_of_row _ I.MC 0 _ _ _ S1.mc;simpa using this
 have c2:(w.alloc (Obj.cells #[Value.string name] 9)).cell? ⟨w.heap.size,0,none⟩=some (.string name):=by have:=cell_of_row (w.alloc (Obj.cells #[Value.string name] 9)) w.heap.size 0 _ _ _ (dh _ _);simp
 have HS:=z0 S1
 have HB:=z0 hB
 have HM:=z0 hm
 clear S S1 hB hM hal hm
 go_enter_defers Tryz.func52,Tryz.ntmps52
 go_wp2_with (fail)
 exact ⟨_,results_tmp rfl _ _ _,0,met,out,v,rfl,.met HM.out,HS.out,WF.of_below HB.out⟩
theorem walk_bad (name:ByteArray)(met out:List ByteArray)(v:Value)(w:World)(hm:name∉met)(he:er name≠0)(hR:Jb us er w0 m pv PB fm cm name)(S:WS us er w0 m pv PB fm cm I w v met out):
 Calls Tryz.prog 52 #[.string name,.pointer (some ⟨I.MC,0,none⟩),.pointer (some ⟨I.PC,0,none⟩),.pointer (some ⟨I.OC,0,none⟩),.pointer (some ⟨I.WC,0,none⟩)] w (Dv us er w0 m pv PB fm cm I name met out v w):=by
 have hB:=aA (Below.refl w.heap.size w) (Obj.cells #[Value.string name] 9)
 have S1:=S.step hB
 obtain ⟨al,hM,hal⟩:=S1.mm
 have hlk:=hM.get Tryz.underlying112 name (.bool false) (fun _=>rfl)
 rw [(hal name).2 hm] at hlk
 simp only [Option.getD_none] at hlk
 have c1:(w.alloc (Obj.cells #[Value.string name] 9)).cell? ⟨I.MC,0,none⟩=some (.map (some I.mm)):=by have:=cell_of_row _ I.MC 0 _ _ _ S1.mc;simpa using this
 have c2:(w.alloc (Obj.cells #[Value.string name] 9)).cell? ⟨w.heap.size,0,none⟩=some (.string name):=by have:=cell_of_row (w.alloc (Obj.cells #[Value.string name] 9)) w.heap.size 0 _ _ _ (dh _ _);simp
 obtain ⟨W2,hrun,hM2,hO2⟩:=hM.put (mt:=112) (e:=4) Tryz.underlying112 name (.bool true)
 have S2:=S1.put name al hal hM2 hO2
 have hmm:=hM.lt
 have hNB:w.heap.size≠I.mm:=fun e=>by
  obtain ⟨_,⟨es,cl,h4,_⟩,_⟩:=S.mm
  have:=OScan.kD h4
  omega
 have n2:=(hO2.block w.heap.size hNB).trans (dh w (Obj.cells #[Value.string name] 9))
 have d1:W2.cell? ⟨I.PC,0,none⟩=some (.pointer (some ⟨PB,0,none⟩)):=by have:=cell_of_row _ I.PC 0 _ _ _ S2.pc;simpa using this
 have d2:W2.cell? ⟨w.heap.size,0,none⟩=some (.string name):=by have:=cell_of_row _ w.heap.size 0 _ _ _ n2;simpa using this
 have H21:=hR W2 S2.ps
 have F2:WF cm I w v W2 v:=(WF.of_below hB).trans (WF.put hO2)
 have er0:(er name !=0)=true:=by simpa using he
 have HS:=z0 S2
 have HF:=z0 F2
 have HM:=z0 (And.intro hm he)
 generalize her:er name=ern at H21 er0
 have HER:=z0 her
 clear S S1 S2 hB hM hal hm he hM2 hO2 n2 F2 hmm hNB hR her
 go_enter_defers Tryz.func52,Tryz.ntmps52
 go_wp2_with (go_at_call 21;go_loud (refine H21.mono ?_;rintro e w3 ⟨rb,rfl,hrd,hps,hsz,hkp⟩;obtain ⟨vl,vu,hrb,hus⟩:=hrd.2;have r2:w3.cell? ⟨rb,2,none⟩=some (.int .i64 ern):=(by have:=cell_of_row _ rb 2 _ _ _ hrb;simpa using this);have HS3:=z0 (HS.out.read hps hsz hkp);have HF3:=z0 (HF.out.trans (WF.read hsz hkp));clear hrd hps hsz hkp hrb hus))
 refine ⟨_,results_tmp rfl _ _ _,ern,name::met,out,v,rfl,?_,HS3.out,HF3.out⟩
 rw [←HER.out]
 exact .bad HM.out.1 HM.out.2
end
section
variable {us:ByteArray→List Us}{er:ByteArray→Int}{w0:World}{m:AL}{pv:Value}{PB fm cm:Nat}{I:Ids}
theorem yA (name:ByteArray)(met out met1 out1:List ByteArray)(v v1:Value)(w W1 wr:World)(NB:Nat)(e:Int)(S:WS us er w0 m pv PB fm cm I wr v1 met1 out1)(hN:wr.heap[NB]? =some (.cells #[.string name] 9 (0,0)))(hF:WF cm I w v W1 v)(F:WF cm I W1 v wr v1)(hl:out1.length≤1000)(hw:Graph.Walks er (fun n=>iw (us n)) (iw (us name)) (name::met) out e met1 out1)(hm:name∉met)(he:er name=0)(u:FrameMode):
 CallsD Tryz.prog 53 #[.pointer (some ⟨I.OC,0,none⟩),.pointer (some ⟨NB,0,none⟩)] u wr fun e' u' w'=>u'=u∧(e'= .returned (.tuple #[])∧∃(met' out':List ByteArray) (v':Value),Graph.Walk er (fun n=>iw (us n)) name met out e met' out'∧WS us er w0 m pv PB fm cm I w' v' met' out'∧WF cm I w v w' v'):=by
 have hOC:=S.oc
 have hoc:=aT hOC
 have hbo:=S.bo
 have hb0:=S.b0
 refine (AO I.OC NB I.bA u wr v1 out1 name hOC hN S.out (by omega) hl).mono ?_
 rintro e' u' w' ⟨rfl,rfl,v',h1,h2,h3,h4,h5,h6,h7,h8⟩
 have F':WF cm I wr v1 w' v':=⟨h3,fun k k1 _ _ k4 k5=>h4 k k1 k4 k5,h5⟩
 have far:∀{k t:Nat} {cs:Array Value},wr.heap[k]? =some (.cells cs t (0,0))→t≠23→t≠9→w'.heap[k]? =wr.heap[k]? :=fun {k t cs} h ht ht9=>h4 k (aT h) (by
  rintro rfl
  rw [hOC] at h
  injection h with h
  injection h with _ h
  exact ht h.symm) (Kd.AX S.out h (by omega))
 have hown:∀k,v1.ownBlock=some k→∃cells,wr.heap[k]? =some (.cells cells 9 (0,0)):=Kd.fQ S.out
 have hbase:∀k,some k=v1.ownBlock→I.bA≤k:=fun k hk=>by
  obtain ⟨inner,ho⟩:=Kd.uT S.out
  exact own_base ho k hk.symm
 have mapfar:∀{k:Nat} {es:Array MapEntry} {cl:Nat},wr.heap[k]? =some (.map es cl)→w'.heap[k]? =wr.heap[k]? :=fun {k es cl} h=>h4 k (kD h) (by
  rintro rfl
  rw [hOC] at h
  cases h) (by
  intro hk
  obtain ⟨cells,hc⟩:=hown k hk.symm
  rw [h] at hc
  cases hc)
 obtain ⟨al,hM,hal⟩:=S.mm
 obtain ⟨c,hP,hC⟩:=S.ps.prj
 have hmmf:w'.heap[I.mm]? =wr.heap[I.mm]? :=by obtain ⟨es,cl,h,_⟩:=hM;exact mapfar h
 refine ⟨rfl,rfl,met1,out1++[name],v',.go hm he hw,⟨S.ps.kept ⟨by rw [h6];exact S.ps.below.os,by rw [h7];exact S.ps.below.tape,by rw [h8];exact S.ps.below.output,by have:=S.ps.below.size;omega,fun k hk=> ?_⟩ (fun k hk=> ?_),(far S.mc (by decide) (by decide)).trans S.mc,(far S.pc (by decide) (by decide)).trans S.pc,h1,(far S.wc (by decide) (by decide)).trans S.wc,⟨al,hM.same hmmf,hal⟩,h2,S.b0,S.bo,S.bm,S.nf,S.nc⟩,(hF.trans F).trans F'⟩
 · refine (h4 k (by have:=S.ps.below.size;omega) (by omega) ?_).trans (S.ps.below.block k hk)
   intro hk2
   have:=hbase k hk2
   omega
 · rcases hk with rfl|rfl|rfl|⟨cs,h|h⟩
   · exact far hP.hP (by decide) (by decide)
   · obtain ⟨es,cl,h,_⟩:=hP.hm;exact mapfar h
   · obtain ⟨es,cl,h,_⟩:=hP.hc;exact mapfar h
   · exact far h (by decide) (by decide)
   · exact far h (by decide) (by decide)
theorem Gu (k:Nat)(names:List ByteArray)(name:ByteArray)(met out:List ByteArray)(v:Value)(w:World)(hm:name∉met)(he:er name=0)(hn:name∈names)
 (huF:∀u∈us name,u.2.2.toList≠[]→(eF m u.2.2).isSome=true) (hul:(us name).length≤1000000) (hk:Graph.left names met≤k+1) (hl:out.length+Graph.left names met≤1000)
 (hlen:∀(n:ByteArray) (met out:List ByteArray) (e:Int) (met' out':List ByteArray),Graph.Walk er (fun n=>iw (us n)) n met out e met' out'→n∈names→(∀x∈met,x∈met')∧out'.length+Graph.left names met'≤out.length+Graph.left names met)
 (hnm:∀n,(eF m n).isSome=true→n∈names)
 (hIH:∀(name:ByteArray) (met out:List ByteArray) (v:Value) (w:World),(eF m name).isSome=true→Graph.left names met≤k→out.length+Graph.left names met≤1000→WS us er w0 m pv PB fm cm I w v met out→Calls Tryz.prog 52 #[.string name,.pointer (some ⟨I.MC,0,none⟩),.pointer (some ⟨I.PC,0,none⟩),.pointer (some ⟨I.OC,0,none⟩),.pointer (some ⟨I.WC,0,none⟩)] w (Dv us er w0 m pv PB fm cm I name met out v w))
 (hR:Jb us er w0 m pv PB fm cm name) (S:WS us er w0 m pv PB fm cm I w v met out):
 Calls Tryz.prog 52 #[.string name,.pointer (some ⟨I.MC,0,none⟩),.pointer (some ⟨I.PC,0,none⟩),.pointer (some ⟨I.OC,0,none⟩),.pointer (some ⟨I.WC,0,none⟩)] w (Dv us er w0 m pv PB fm cm I name met out v w):=by
 have hmf:∀(fn:Fn) (first cap:Array Value) (w:World),(Instr.makeFunc fn first cap).run Tryz.prog w= .ok (.func fn first cap) w:=fun _ _ _ _=>rfl
 have hB:=aA (Below.refl w.heap.size w) (Obj.cells #[Value.string name] 9)
 have S1:=S.step hB
 obtain ⟨al,hM,hal⟩:=S1.mm
 have hlk:=hM.get Tryz.underlying112 name (.bool false) (fun _=>rfl)
 rw [(hal name).2 hm] at hlk
 simp only [Option.getD_none] at hlk
 have c1:(w.alloc (Obj.cells #[Value.string name] 9)).cell? ⟨I.MC,0,none⟩=some (.map (some I.mm)):=by have:=cell_of_row _ I.MC 0 _ _ _ S1.mc;simpa using this
 have c2:(w.alloc (Obj.cells #[Value.string name] 9)).cell? ⟨w.heap.size,0,none⟩=some (.string name):=by have:=cell_of_row (w.alloc (Obj.cells #[Value.string name] 9)) w.heap.size 0 _ _ _ (dh _ _);simp
 obtain ⟨W2,hrun,hM2,hO2⟩:=hM.put (mt:=112) (e:=4) Tryz.underlying112 name (.bool true)
 have S2:=S1.put name al hal hM2 hO2
 have hmm:=hM.lt
 have hNB:w.heap.size≠I.mm:=fun e=>by
  obtain ⟨_,⟨es,cl,h4,_⟩,_⟩:=S.mm
  have:=OScan.kD h4
  omega
 have hNC:w.heap.size≠cm:=fun e=>by
  obtain ⟨c,hP,_⟩:=S.ps.prj
  have:=hP.hc.lt
  omega
 have hNO:w.heap.size≠I.OC:=fun e=>by
  have:=aT S.oc
  omega
 have hNV:some w.heap.size≠v.ownBlock:=fun e=>by
  have:=Kd.xJ S.out _ e.symm
  omega
 have n2:=(hO2.block w.heap.size hNB).trans (dh w (Obj.cells #[Value.string name] 9))
 have d1:W2.cell? ⟨I.PC,0,none⟩=some (.pointer (some ⟨PB,0,none⟩)):=by have:=cell_of_row _ I.PC 0 _ _ _ S2.pc;simpa using this
 have d2:W2.cell? ⟨w.heap.size,0,none⟩=some (.string name):=by have:=cell_of_row _ w.heap.size 0 _ _ _ n2;simpa using this
 have H21:=hR W2 S2.ps
 have F1:WF cm I w v W2 v:=(WF.of_below hB).trans (WF.put hO2)
 have hc2:=Graph.mJ hn hm
 have HS:=z0 S2
 have HF:=z0 F1
 have HM:=z0 (And.intro hm he)
 have HNB:=z0 (And.intro hNC (And.intro hNB (And.intro hNO hNV)))
 have HN2:=z0 n2
 have HLL:=z0 (show Graph.left names (name::met)≤k∧out.length+Graph.left names (name::met)≤999 by omega)
 have HUF:=z0 huF
 have HUL:=z0 hul
 have HLEN:=z0 hlen
 have HNM:=z0 hnm
 have HIH:=z0 hIH
 rw [he] at H21
 obtain ⟨NB,hNBe⟩:∃NB,NB=w.heap.size:=⟨_,rfl⟩
 clear S S1 S2 hB hM hal hm he hM2 hO2 n2 F1 hmm hNB hNC hNO hNV hR hc2 hk hl huF hul hlen hnm hIH hn
 have HNBe:=z0 hNBe
 clear hNBe
 obtain ⟨l,hlus⟩:∃l,l=us name:=⟨_,rfl⟩
 rw [←hlus] at H21 HUF HUL
 have HUS:=z0 hlus
 clear hlus
 obtain ⟨L,hL⟩:∃L,L=l.length:=⟨_,rfl⟩
 rw [←hL] at HUL
 have HLE:=z0 hL
 clear hL
 go_enter_defers Tryz.func52,Tryz.ntmps52
 go_wp2_with (go_at_call 21;go_loud (refine H21.mono ?_;rintro e w3 ⟨rb,rfl,hrd,hps,hsz,hkp⟩;obtain ⟨vl,vu,hrb,hus⟩:=hrd.2;obtain ⟨Au,cu,rfl⟩:=Kd.bF hus;rw [←HLE.out] at hrb hus;have r2:w3.cell? ⟨rb,2,none⟩=some (.int .i64 0):=(by have:=cell_of_row _ rb 2 _ _ _ hrb;simpa using this);have r1:w3.cell? ⟨rb,1,none⟩=some (.slice Au L cu):=(by have:=cell_of_row _ rb 1 _ _ _ hrb;simpa using this);have HS3:=z0 (HS.out.read hps hsz hkp);have HF3:=z0 (HF.out.trans (WF.read hsz hkp));have HN3:ah (w3.heap[w.heap.size]? =some (.cells #[.string name] 9 (0,0))):=⟨(hkp _ (aT HN2.out) HNB.out.1).trans HN2.out⟩;have HU3:=z0 hus;clear hrd hps hsz hkp hrb hus))
 clear H21 hrun hlk c1 c2 d1 d2 r2 r1
 have HN3':ah (w3.heap[NB]? =some (.cells #[.string name] 9 (0,0))∧NB≠cm∧NB≠I.mm∧NB≠I.OC∧some NB≠v.ownBlock):=⟨by rw [HNBe.out];exact ⟨HN3.out,HNB.out⟩⟩
 rw [←HNBe.out]
 clear HN3 HNB
 go_loopg [34] L (fun kq v34 w'=>∃(i:Nat) (met1 out1:List ByteArray) (v1:Value),v34= .int .i64 i∧ah (kq+i=L)∧ah (WS us er w0 m pv PB fm cm I w' v1 met1 out1)∧ah (WF cm I w3 v w' v1)∧ah (∀e m' o',Graph.Walks er (fun n=>iw (us n)) (iw (l.drop i)) met1 out1 e m' o'→Graph.Walks er (fun n=>iw (us n)) (iw l) (name::met) out e m' o')∧ah (Graph.left names met1≤k∧out1.length+Graph.left names met1≤999)∧ah (∀(j:Nat) (cs:Array Value),w3.heap[j]? =some (Obj.cells cs 34 (0,0))→w'.heap[j]? =w3.heap[j]?))
 case atStart=>exact ⟨0,name::met,out,v,rfl,⟨rfl⟩,HS3,⟨WF.of_below (Below.refl _ _)⟩,⟨fun _ _ _ h=>h⟩,HLL,⟨fun _ _ _=>rfl⟩⟩
 case round=>
  obtain ⟨i,met1,out1,v1,rfl,hki,hS,hFr,hWs,hLb,hK34⟩:=hrel
  have hki':=hki.out
  have hNr:ah (wr.heap[NB]? =some (.cells #[.string name] 9 (0,0))):=⟨(hFr.out.keep NB (aT HN3'.out.1) HN3'.out.2.1 HN3'.out.2.2.1 HN3'.out.2.2.2.1 HN3'.out.2.2.2.2).trans HN3'.out.1⟩
  cases gk with
  |zero=>
   have hlt:decide ((i:Int)<(L:Int))=false:=decide_eq_false (by omega)
   go_wp2
   refine leaves_cons (f:=53) (args:= #[.pointer (some ⟨I.OC,0,none⟩),.pointer (some ⟨NB,0,none⟩)]) (by simp) (by simp [go_sem]) ?_
   have hwk:Graph.Walks er (fun n=>iw (us n)) (iw (us name)) (name::met) out 0 met1 out1:=by
    rw [←HUS.out]
    refine hWs.out 0 met1 out1 ?_
    rw [List.drop_eq_nil_of_le (by rw [←HLE.out];omega)]
    exact .nil
   refine (yA name met out met1 out1 v v1 w w3 wr NB 0 hS.out hNr.out HF3.out hFr.out (by have:=hLb.out.2;omega) hwk HM.out.1 HM.out.2 .returning).mono ?_
   rintro e u' w'' ⟨rfl,rfl,met',out',v',hw,hs,hf⟩
   exact ⟨_,results_tmp rfl _ _ _,0,met',out',v',rfl,hw,hs,hf⟩
  |succ g1=>
   have hlt:decide ((i:Int)<(L:Int))=true:=decide_eq_true (by omega)
   have hii:(0:Int)≤(i:Int):=by omega
   have hLu:=HUL.out
   obtain ⟨x,hx⟩:∃x,l[i]? =some x:=⟨_,List.getElem?_eq_getElem (by rw [←HLE.out];omega)⟩
   have HUr:Kd.R kUs 34 wr w0.heap.size (fun _=>True) (.slice Au L cu) l:=Kd.fM (Kd.lJ (Kd.iJ HU3.out) (fun k ho _=>by
    obtain ⟨_,_,_,q,hq,cs,hc⟩:=ho
    obtain rfl:q=34:=by
     rcases List.mem_cons.1 hq with h|h
     · exact h
     · exact absurd (show q∈([]:List Nat) from h) (by simp)
    exact hK34.out _ _ hc)) (fun _ _=>trivial)
   obtain ⟨ad,hAd,hx0,hx1,hx2⟩:=Em (Kd.aZ HUr).2.2 i (by rw [←HLE.out];omega) x hx
   obtain rfl:=hAd
   have hdr:l.drop i=x::l.drop (i+1):=by
    obtain ⟨hl',he'⟩:=List.getElem?_eq_some_iff.1 hx
    rw [List.drop_eq_getElem_cons hl',he']
   have hxm:=List.mem_of_getElem? hx
   obtain ⟨un,uq,uf⟩:=x
   simp only at hx0 hx1 hx2
   have hB4:=aA (Below.refl wr.heap.size wr) (Obj.cells #[Value.string un,Value.bool uq,Value.string uf] 34)
   have S4:=hS.out.step hB4
   have HB4:=z0 hB4
   have k4:(wr.alloc (Obj.cells #[Value.string un,Value.bool uq,Value.string uf] 34)).cell? ⟨I.WC,0,none⟩=some (.func (.func 52) #[] #[.pointer (some ⟨I.MC,0,none⟩),.pointer (some ⟨I.PC,0,none⟩),.pointer (some ⟨I.OC,0,none⟩),.pointer (some ⟨I.WC,0,none⟩)]):=by have:=cell_of_row _ I.WC 0 _ _ _ S4.wc;simpa [KN] using this
   by_cases huf:uf.toList=[]
   · have e1:(uf.toList==([]:List UInt8))=true:=by rw [huf];rfl
     have hfs:iw (l.drop i)=iw (l.drop (i+1)):=by rw [hdr,iw,if_pos huf]
     have HFS:=z0 hfs
     clear hx hxm hdr HUr huf hB4 S4 hfs k4
     go_wp2
     obtain ⟨We,hWe⟩:∃We,We=wr.alloc (Obj.cells #[Value.string un,Value.bool uq,Value.string uf] 34):=⟨_,rfl⟩
     rw [←hWe] at HB4 ⊢
     clear hWe
     go_roundg g1
     case measure=>omega
     case rel=>exact ⟨i+1,met1,out1,v1,by (try simp),⟨by omega⟩,⟨hS.out.step HB4.out⟩,⟨hFr.out.trans (WF.of_below HB4.out)⟩,⟨by rw [←HFS.out];exact hWs.out⟩,hLb,⟨fun j cs h=>(HB4.out.block j (Nat.lt_of_lt_of_le (aT h) hFr.out.size)).trans (hK34.out j cs h)⟩⟩
   · have e1:(uf.toList==([]:List UInt8))=false:=beq_eq_false_iff_ne.mpr huf
     have hsome:=HUF.out _ hxm huf
     have hfs:iw (l.drop i)=uf::iw (l.drop (i+1)):=by rw [hdr,iw,if_neg huf]
     have H52:=HIH.out uf met1 out1 v1 _ hsome hLb.out.1 (by have:=hLb.out.2;omega) S4
     have HFS:=z0 hfs
     have HSO:=z0 hsome
     clear hx hxm hdr HUr huf hB4 S4 hfs hsome
     go_wp2_with (go_at_call 52;go_loud (refine H52.mono ?_;rintro e w5 ⟨er5,met5,out5,v5,rfl,hw5,hs5,hf5⟩;have HW5:=z0 hw5;have HS5:=z0 hs5;have HF5:=z0 hf5;clear hw5 hs5 hf5))
     · rename_i h5
       have h5':er5≠0:=by simpa using h5
       have hwk:Graph.Walks er (fun n=>iw (us n)) (iw (us name)) (name::met) out er5 met5 out5:=by
        rw [←HUS.out]
        refine hWs.out er5 met5 out5 ?_
        rw [HFS.out]
        exact .err HW5.out h5'
       have F5:WF cm I w3 v w5 v5:=(hFr.out.trans (WF.of_below HB4.out)).trans HF5.out
       have hNr5:w5.heap[NB]? =some (.cells #[.string name] 9 (0,0)):=(F5.keep NB (aT HN3'.out.1) HN3'.out.2.1 HN3'.out.2.2.1 HN3'.out.2.2.2.1 HN3'.out.2.2.2.2).trans HN3'.out.1
       have hln:=(HLEN.out _ _ _ _ _ _ HW5.out (HNM.out _ HSO.out)).2
       refine leaves_cons (f:=53) (args:= #[.pointer (some ⟨I.OC,0,none⟩),.pointer (some ⟨NB,0,none⟩)]) (by simp) (by simp [go_sem]) ?_
       refine (yA name met out met5 out5 v v5 w w3 w5 NB er5 HS5.out hNr5 HF3.out F5 (by have:=hLb.out.2;omega) hwk HM.out.1 HM.out.2 .returning).mono ?_
       rintro e u' w'' ⟨rfl,rfl,met',out',v',hw,hs,hf⟩
       exact ⟨_,results_tmp rfl _ _ _,er5,met',out',v',rfl,hw,hs,hf⟩
     · rename_i h5
       have h5':er5=0:=by simpa using h5
       subst h5'
       have hln:=HLEN.out _ _ _ _ _ _ HW5.out (HNM.out _ HSO.out)
       have hmono:=Graph.tY (names:=names) hln.1
       go_roundg g1
       case measure=>omega
       case rel=>exact ⟨i+1,met5,out5,v5,by (try simp),⟨by omega⟩,HS5,⟨(hFr.out.trans (WF.of_below HB4.out)).trans HF5.out⟩,⟨fun e m' o' h=>hWs.out e m' o' (by rw [HFS.out];exact .cons HW5.out h)⟩,⟨by have:=hLb.out;omega⟩,⟨fun j cs h=>by
        have h1:=hK34.out j cs h
        have h2:=HB4.out.block j (Nat.lt_of_lt_of_le (aT h) hFr.out.size)
        have h3:=(hS.out.step HB4.out).far HF5.out (k:=j) (t:=34) (cs:=cs) (h2.trans (h1.trans h)) (by decide) (by decide) (by decide)
        exact h3.trans (h2.trans h1)⟩⟩
end
end Go.Proofs.YtolaiebjmhieiaaGreatDoor.OScan
end
