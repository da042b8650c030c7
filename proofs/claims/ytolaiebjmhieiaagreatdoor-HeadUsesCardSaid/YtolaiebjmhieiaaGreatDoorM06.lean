/- Parts of the proof of HeadUses; no condition. -/
import Derived.Test.YtolaiebjmhieiaaGreatDoorM05
import Derived.Test.YtolaiebjmhieiaaGreatDoorM01
import Derived.Test.YtolaiebjmhieiaaGreatDoorM04
import Derived.Test.YtolaiebjmhieiaaGreatDoorProg
import Derived.Below
import Derived.Deep.Draws
import Derived.Deep.AppendLies
import Derived.Maps.AppendAt
import Derived.OwnWalk
import Derived.Laws.BytesArg
import Derived.Laws.MakeOwn
import Derived.Laws.OwnMore
import Derived.Deep.OwnRows
import Derived.Tactics
import Derived.Lib.ConvBytes
import Derived.Laws.Slices
import Derived.WalkKit
import Derived.KernelRfl
import Derived.RowKit3
import Derived.Deep.LoopGhost
import Derived.Deep.QuietTactic
import Derived.BigQuiet
import Derived.WideLaws
import Derived.Deep.DeepCutAuto
import Derived.Deep.CutBlock
import Derived.Deep.RegionHeld3
import Derived.Laws.Rows
import Derived.Lib.AppendStr
import Derived.ArgAppend
import Derived.Laws.IdiomCopy
import Derived.OrdersHeld
import Derived.Laws.BitsLemmas
import Derived.RowKit
import Derived.BigRegion
import Derived.Deep.RegionLaw
set_option maxHeartbeats 8000000
set_option maxRecDepth 100000
set_option linter.unusedVariables false
set_option linter.unusedSimpArgs false
section
namespace Go.Proofs.YtolaiebjmhieiaaGreatDoor.OScan
open Go.RowKit YtolaiebjmhieiaaGreatDoorW.PrintWords YtolaiebjmhieiaaGreatDoorW.PrintLast YtolaiebjmhieiaaGreatDoorW.PrintMore
theorem R_95 {w:World}{base:Nat}{ok:Nat→Prop}{v:Value}{xs:List Tk}(h:Kd.R ORef.k95 95 w base ok v (xs.map toS95)):Kd.R kTk 95 w base ok v xs:=by
 obtain ⟨h0,inner,ho,hr⟩:=h
 rw [List.length_map] at ho
 exact ⟨h0,inner,ho,by have:=hr.1;rwa [List.length_map] at this,fun j p hp=>hr.2 j (toS95 p) (by rw [List.getElem?_map,hp];rfl)⟩
theorem rScan_any (s:ByteArray)(w:World)(hs:s.size≤190001):Calls Tryz.prog 46 #[.string s] w fun e w'=>∃v,e= .returned (.tuple #[v,.int .i64 (scanR s).2])∧Kd.R kTk 95 w' w.heap.size (fun _=>True) v (scanR s).1∧Below w.heap.size w w':=by
 refine (ORef.smockingref02_Scan.calls (6*s.size+301) s _ _ w (r_Scan s (by omega) _ (by omega))).mono ?_
 rintro e w' ⟨v,rfl,hR,hb⟩
 exact ⟨v,rfl,R_95 hR,hb⟩
theorem rw_alloc {w4:World}{L0 L1 Y c:Nat}{A:Option Addr}{ys:List Tk}(h:Aside0 (Kd.R kTk 95 w4 L0 (fun k=>L0≤k∧k<L1) (.slice A Y c) ys∧L1≤w4.heap.size))(o:Obj):
 Aside0 (Kd.R kTk 95 (w4.alloc o) L0 (fun k=>L0≤k∧k<L1) (.slice A Y c) ys∧L1≤(w4.alloc o).heap.size):=⟨Kd.R_alloc h.out.1 o,by rw [alloc_size];exact Nat.le_succ_of_le h.out.2⟩
theorem rw_succ (i:Nat):Value.int .i64 ((i:Int)+1)=Value.int .i64 ((i+1:Nat):Int):=rfl
theorem rw_hash (o:List Tk)(kd:Int)(bf tx:ByteArray)(n po:Nat)(m2:Int)(np:Nat)(h:m2=(n:Int)+(po:Int)-1∧np=n+po):(o++[wHash po (kd,bf,tx,(n:Int))],some ((n:Int)+(po:Int)))=(o++[((6:Int),bf,(⟨#[35]⟩:ByteArray),m2)],some (np:Int)):=by
 obtain ⟨rfl,rfl⟩:=h
 rw [show ((n+po:Nat):Int)=(n:Int)+(po:Int) from by omega];rfl
theorem rw_tok (po n:Nat)(kd:Int)(bf tx:ByteArray)(m2:Int)(np:Nat)(h:m2=(n:Int)+(po:Int)-1∧np=n+po):wTok po (kd,bf,tx,(n:Int))=(kd,bf,tx,m2):=by
 obtain ⟨rfl,rfl⟩:=h;rfl
theorem rw_len {a b i Y c d n p:Nat}(h1:a+1≤b+i)(h2:b≤5000)(h3:Y=c+2∧c≤d)(h4:d=n-p)(h5:n≤4000)(h6:i<Y):a+1≤100000:=by omega
theorem rw_far {w:World}{o:Obj}{L0 L1:Nat}(h:L1≤w.heap.size):∀k,(w.alloc o).heap.size≤k→k<L0∨L1≤k:=fun k hk=>by
 rw [alloc_size] at hk;omega
theorem rw_big {a:Nat}(h:a≤100000):(a+1)*48≤140737488355328:=by omega
theorem rw_keep {w4 w6:World}{L0 L1 Y c:Nat}{A:Option Addr}{u:Value}{o:Obj}{ys:List Tk}(h:Kd.R kTk 95 w4 L0 (fun k=>L0≤k∧k<L1) (.slice A Y c) ys∧L1≤w4.heap.size)(hu:∀k,u.ownBlock=some k→k<L0∨L1≤k)(hg:World.grownBy (w4.alloc o) w6 u.ownBlock):
 Kd.R kTk 95 w6 L0 (fun k=>L0≤k∧k<L1) (.slice A Y c) ys∧L1≤w6.heap.size:=by
 refine ⟨Kd.R_grown (Kd.R_alloc h.1 o) hg (fun k hk e=> ?_),?_⟩
 · have:=hu k e.symm;omega
 · have h1:=hg.size
   rw [alloc_size] at h1
   exact Nat.le_trans h.2 (Nat.le_trans (Nat.le_succ _) h1)
theorem rWords_any (at0:Int)(bf tx:ByteArray)(wl:List Tk)(w:World)(h1:1≤tx.size)(hs:tx.size≤4001)(h35:bt tx 0=35)(hw:wordsF (tx.size+1) (tx.extract 1 tx.size) 0=some wl)(hwl:wl.length≤5000):
 Calls Tryz.prog 84 #[.agg #[.int .i64 7,.string bf,.string tx,.int .i64 at0]] w fun e w'=>∃v,e= .returned (.tuple #[v,.int .i64 0])∧Kd.R kTk 95 w' w.heap.size (fun _=>True) v wl∧Below w.heap.size w w':=by
 have hb0:=bt_at tx 0
 rw [h35] at hb0
 have hne:(tx.toList==([]:List UInt8))=false:=by
  rw [beq_eq_false_iff_ne]
  intro h
  have:tx.toList.length=tx.size:=by rw [ByteArray.toList_eq];rfl
  rw [h] at this
  simp only [List.length_nil] at this
  omega
 have hpos:(0:Int)<(tx.size:Int):=by omega
 have hposn:0<tx.size:=by omega
 have hge1:(1:Int)≤(tx.size:Int):=by omega
 have h0c:((tx[0]'hposn).toNat:Int)=35:=hb0 hposn
 have h0d:(((tx[0]'hposn).toNat:Int) !=35)=false:=by rw [h0c];rfl
 have hs1:(tx.extract 1 tx.size).size≤4000:=by rw [ByteArray.size_extract];omega
 have HS1:=z0 hs1
 obtain ⟨k0,hk0,hw0⟩:∃k0,(tx.extract 1 tx.size).size<k0∧wordsF (k0+1) (tx.extract 1 tx.size) 0=some wl:=⟨tx.size,by rw [ByteArray.size_extract];omega,hw⟩
 have HW0:=z0 hw0
 have HK0:=z0 hk0
 have HWLL:=z0 hwl
 clear hw hw0 hb0 hk0 hs1 h1 hs h35 hwl
 go_enter Tryz.func84,Tryz.ntmps84
 go_wp2_with (fail)
 obtain ⟨w2,hw2⟩:∃w2,w2=w.alloc (Obj.cells #[Value.int IntKind.i64 7,Value.string bf,Value.string tx,Value.int IntKind.i64 at0] 95):=⟨_,rfl⟩
 rw [←hw2]
 have HB2:Aside0 (Below w.heap.size w w2):=⟨by rw [hw2];exact below_alloc (Below.refl _ _) _⟩
 clear hw2
 generalize tx.extract 1 tx.size=s1 at *
 obtain ⟨n1,hn1⟩:∃n1,n1=s1.size:=⟨_,rfl⟩
 have HN1:=z0 hn1
 clear hn1
 go_loopg [5,6] n1 (fun kq v5 v6 wr=>∃(pos:Nat) (out rest:List Tk) (K:Nat),v6= .int .i64 pos∧Aside0 (kq+pos=n1)∧Aside0 (wordsF (K+1) (s1.extract pos s1.size) pos=some rest)∧Aside0 (wl=out++rest)∧Aside0 (n1-pos<K+1)∧Aside0 (Kd.R kTk 95 wr w.heap.size (fun _=>True) v5 out)∧Aside0 (Below w.heap.size w wr))
 case atStart=>exact ⟨0,[],wl,k0,rfl,⟨rfl⟩,⟨by have h:=HW0.out;rw [show s1.extract 0 s1.size=s1 from by simp];exact h⟩,⟨rfl⟩,⟨by have:=HK0.out;have:=HN1.out;omega⟩,⟨Kd.R_nil _ _ _ _ _⟩,HB2⟩
 case round=>
  obtain ⟨pos,out,rest,K,rfl,hki,HW,HWL,hK,hR,hB⟩:=hrel
  have hol:Aside0 (out.length≤5000):=⟨by have h1:=HWLL.out;rw [HWL.out,List.length_append] at h1;omega⟩
  obtain ⟨G,hGG⟩:∃G,G=gk:=⟨_,rfl⟩
  subst hGG
  have hki':=hki.out
  have hn4:n1≤4000:=by have:=HS1.out;have:=HN1.out;omega
  have hn1':=HN1.out
  obtain ⟨s',hs'⟩:∃s',s'=s1.extract pos s1.size:=⟨_,rfl⟩
  have hs's:s'.size=n1-pos:=by rw [hs',ByteArray.size_extract];omega
  have hsz:(⟨#[59]⟩++s':ByteArray).size=s'.size+1:=by rw [ByteArray.size_append];have:(⟨#[59]⟩:ByteArray).size=1:=rfl;omega
  obtain ⟨init,e,e1,e2,e3,e4⟩:=behind_end s' (by omega)
  have hbl:(behind s').length=init.length+1:=by rw [e1];simp
  obtain ⟨r1,r2,r3⟩:=words_round K s' pos out rest (by omega) (by omega) (by omega) (by omega) (by rw [hs'];exact HW.out)
  have H46:=rScan_any (⟨#[59]⟩++s') wr (by omega)
  rw [r1,r2] at H46
  obtain ⟨ys,hys⟩:∃ys,ys=((6:Int),(⟨#[]⟩:ByteArray),(⟨#[59]⟩:ByteArray),(0:Int))::behind s':=⟨_,rfl⟩
  rw [←hys] at H46
  obtain ⟨Y,hY⟩:∃Y,Y=ys.length:=⟨_,rfl⟩
  have hYn:Y=init.length+2:=by rw [hY,hys,List.length_cons,hbl]
  have HYS:=z0 hys
  have HYL:=z0 hY
  have HYN:=z0 (And.intro hYn e4)
  have HR3:=z0 r3
  have HE:=z0 (And.intro e1 (And.intro e2 e3))
  have hs59:=z0 hs'
  have HSS:=z0 hs's
  clear r1 r2 r3 e1 e2 e3 hbl hys hY hYn
  have hpn:pos≤n1:=by omega
  have hposs:(pos:Int)≤(s1.size:Int):=by omega
  have hpos0:(0:Int)≤(pos:Int):=by omega
  rw [hs'] at H46
  have q1:(9223372036854775807<1+(s1.size-pos))=False:=eq_false (by omega)
  have hY1:2≤Y:=by have:=HYN.out.1;omega
  clear hs' hsz hs's e4 hn1'
  go_wp2_with (go_at_call 46;go_loud (refine H46.mono ?_;rintro e w3 ⟨v3,rfl,hc3,hb3⟩;obtain ⟨A3,c3,rfl⟩:=Kd.R_slice hc3;rw [←HYL.out] at hc3 ⊢;have HC3:Aside0 (Kd.R kTk 95 w3 wr.heap.size (fun k=>wr.heap.size≤k∧k<w3.heap.size) (.slice A3 Y c3) ys):=⟨Kd.R_mono (Kd.R_bound hc3) (fun k hk=>⟨hk.2.1,hk.2.2.1⟩)⟩;have HB3:=z0 (below_step hB.out hb3);have HR3':Aside0 (Kd.R kTk 95 w3 w.heap.size (fun k=>k<wr.heap.size∨w3.heap.size≤k) u5 out):=⟨Kd.R_below (Kd.R_mono (Kd.R_bound hR.out) (fun k hk=> .inl hk.2.2.1)) hb3⟩;clear hc3 hb3))
  clear H46
  obtain ⟨L0,hL0⟩:∃L0,L0=wr.heap.size:=⟨_,rfl⟩
  obtain ⟨L1,hL1⟩:∃L1,L1=w3.heap.size:=⟨_,rfl⟩
  rw [←hL0,←hL1] at HC3 HR3'
  have HL1:Aside0 (L1≤w3.heap.size):=⟨by omega⟩
  clear hL0 hL1
  have hpo:=hol
  go_loopg [5,6,9,10] (Y-1) (fun kq v5 v6 v9 v10 w4=>∃(i:Nat) (ag:Bool) (po:Nat) (o:List Tk),v10= .int .i64 i∧v9= .bool ag∧v6= .int .i64 po∧Aside0 (kq+i=Y)∧Aside0 (1≤i)∧Aside0 (Kd.R kTk 95 w4 w.heap.size (fun k=>k<L0∨L1≤k) v5 o)∧Aside0 (Below w.heap.size w w4)∧Aside0 (Kd.R kTk 95 w4 L0 (fun k=>L0≤k∧k<L1) (.slice A3 Y c3) ys∧L1≤w4.heap.size)∧Aside0 (o.length≤100000)∧Aside0 (ag=true→rwGo pos (behind s') out=(o,some (po:Int)))∧Aside0 (ag=false→po=pos∧rwGo pos ((behind s').drop (i-1)) o=rwGo pos (behind s') out∧o.length+1≤out.length+i))
  case atStart=>exact ⟨1,false,pos,out,rfl,rfl,rfl,⟨by omega⟩,⟨Nat.le_refl _⟩,HR3',HB3,⟨HC3.out,HL1.out⟩,⟨by have:=hol.out;omega⟩,⟨fun h=>by cases h⟩,⟨fun _=>⟨rfl,rfl,by omega⟩⟩⟩
  case round=>
   obtain ⟨i,ag,po,o,rfl,rfl,rfl,hki2,hi1,hR4,hB4,hB34,hol4,hag,hnag⟩:=hrel
   have hki2':=hki2.out
   cases ag with
   |true=>
    have hrw:=hag.out rfl
    have hsub:Aside0 (∃(K':Nat) (r':List Tk),K=K'+1∧wordsF (K'+1) (s1.extract po s1.size) po=some r'∧out++rest=o++r'∧pos<po∧po≤n1):=⟨by
     rcases HR3.out with h|⟨o',p,r,h,hr1,hr2,hr3,hr4⟩
     · rw [hrw] at h;cases h
     · rw [hrw] at h
       simp only [Prod.mk.injEq,Option.some.injEq] at h
       obtain ⟨rfl,rfl⟩:=h
       have hss:=HSS.out
       have hn:=HN1.out
       cases K with
       |zero=>simp [wordsF] at hr1
       |succ K'=>
        refine ⟨K',r,rfl,?_,hr2,by omega,by omega⟩
        have:s'.extract ((po:Int)-pos).toNat s'.size=s1.extract po s1.size:=by
         apply Go.WideShapes.bytes_inj
         rw [Lib.extract_to_end,Lib.extract_to_end,hs59.out,Lib.extract_to_end,List.drop_drop,show pos+((po:Int)-pos).toNat=po by omega]
        rw [this] at hr1
        exact hr1⟩
    clear hrw hag hnag
    have hlo:n1-po<G:=by
     obtain ⟨_,_,_,_,_,h1,h2⟩:=hsub.out
     omega
    by_cases hlt0:i<Y
    · have hlt:decide ((i:Int)<(Y:Int))=true:=decide_eq_true (by omega)
      go_wp2_with (fail)
      go_roundg (n1-po)
      case measure=>omega
      case rel=>
       obtain ⟨K',r',h1,h2,h3,h4,h5⟩:=hsub.out
       have h6:=hK.out
       exact ⟨po,o,r',K',(by first|rfl|simp),⟨by omega⟩,⟨h2⟩,⟨by rw [HWL.out,h3]⟩,⟨by omega⟩,⟨Kd.R_mono hR4.out (fun _ _=>trivial)⟩,hB4⟩
    · have hlt:decide ((i:Int)<(Y:Int))=false:=decide_eq_false (by omega)
      go_wp2_with (fail)
      go_roundg (n1-po)
      case measure=>omega
      case rel=>
       obtain ⟨K',r',h1,h2,h3,h4,h5⟩:=hsub.out
       have h6:=hK.out
       exact ⟨po,o,r',K',(by first|rfl|simp),⟨by omega⟩,⟨h2⟩,⟨by rw [HWL.out,h3]⟩,⟨by omega⟩,⟨Kd.R_mono hR4.out (fun _ _=>trivial)⟩,hB4⟩
   |false=>
    obtain ⟨g1,g2,g3⟩:=hnag.out rfl
    subst g1
    have G23:=z0 (And.intro g2 g3)
    clear g2 g3 hag hnag
    cases gk with
    |zero=>
     have hlt:decide ((i:Int)<(Y:Int))=false:=decide_eq_false (by omega)
     have hres:Aside0 (o=wl):=⟨by
      have hd:(behind s').drop (i-1)=[]:=List.drop_eq_nil_of_le (by have:=HYN.out.1;have:=HE.out.1;rw [this];simp;omega)
      have h2:=G23.out.1
      rw [hd,rwGo] at h2
      rcases HR3.out with h|⟨o',p,r,h,_⟩
      · rw [h] at h2
        simp only [Prod.mk.injEq,and_true] at h2
        rw [HWL.out];exact h2
      · rw [h] at h2;cases h2⟩
     go_wp2_with (fail)
     go_ret2
     exact ⟨_,rfl,by rw [←hres.out];exact Kd.R_mono hR4.out (fun _ _=>trivial),hB4.out⟩
    |succ g5=>
     have hlt:decide ((i:Int)<(Y:Int))=true:=decide_eq_true (by omega)
     have hii:(0:Int)≤(i:Int):=by omega
     have hiY:i<Y:=by omega
     obtain ⟨x,hx⟩:∃x,(behind s')[i-1]? =some x:=⟨_,List.getElem?_eq_getElem (by have:=HYN.out.1;have:=HE.out.1;rw [this];simp;omega)⟩
     have hyx:ys[i]? =some x:=by
      rw [HYS.out,show i=i-1+1 by have:=hi1.out;omega,List.getElem?_cons_succ];exact hx
     have hdr:(behind s').drop (i-1)=x::(behind s').drop i:=by
      have hl:=(List.getElem?_eq_some_iff.1 hx).1
      rw [List.drop_eq_getElem_cons hl,(List.getElem?_eq_some_iff.1 hx).2,show i-1+1=i by have:=hi1.out;omega]
     have hxb:Aside0 (x.1≠0→1≤x.2.2.2∧x.2.2.2≤4000):=⟨fun hne=>by
      have hxm:=List.mem_of_getElem? hx
      rw [HE.out.1] at hxm
      rcases List.mem_append.1 hxm with h|h
      · have:=HE.out.2.2 x h
        have:=HSS.out
        omega
      · rw [List.mem_singleton.1 h] at hne
        exact absurd HE.out.2.1 hne⟩
     have hCt:Kd.C kTk wr A3 ys.length ys:=(Kd.R_reads' hB34.out.1).2.2
     obtain ⟨ad,hAd,hx0,hx1,hx2,hx3⟩:=tk_at hCt i (by have:=HYL.out;omega) x hyx
     clear hCt
     obtain rfl:=hAd
     have H:=G23.out.1
     rw [hdr,rwGo] at H
     clear hyx hdr hx
     obtain ⟨kd,bf2,tx2,a1⟩:=x
     simp only at hx0 hx1 hx2 hx3 H hxb
     have w1:wrap64 ((i:Int)+1)=((i+1:Nat):Int):=(OScan.wr (by omega) (by have h1:=HYN.out.1;have h2:=HYN.out.2;have h3:=HSS.out;omega)).trans (by omega)
     have h1i:=hi1.out
     by_cases hz:kd=0
     · rw [if_pos hz] at H
       have hz1:(kd==0)=true:=by simpa using hz
       have HN:=z0 H
       clear H hz
       go_wp2_with (fail)
       go_roundg g5
       case measure=>omega
       case rel=>exact ⟨i+1,false,po,o,(by rw [w1]),rfl,rfl,⟨by omega⟩,⟨by omega⟩,⟨Kd.R_alloc hR4.out _⟩,⟨below_alloc hB4.out _⟩,rw_alloc hB34 _,hol4,⟨fun h=>by cases h⟩,⟨fun _=>⟨rfl,HN.out,by have:=G23.out.2;omega⟩⟩⟩
     · rw [if_neg hz] at H
       have hz1:(kd==0)=false:=by simpa using hz
       obtain ⟨b1,b2⟩:=hxb.out hz
       obtain ⟨n,rfl⟩:∃n:Nat,a1=n:=⟨a1.toNat,by omega⟩
       have HM:(n:Int)+(po:Int)-1=(n:Int)+(po:Int)-1∧n+po=n+po:=⟨rfl,rfl⟩
       replace HM:=z0 HM
       by_cases hk:kd=7
       · rw [if_pos hk] at H
         have hk1:(kd==7)=true:=by simpa using hk
         have HQ:Aside0 (rwGo po (behind s') out=(o++[((6:Int),bf2,(⟨#[35]⟩:ByteArray),(n:Int)+(po:Int)-1)],some ((n+po:Nat):Int))):=⟨H.symm.trans (rw_hash o kd bf2 tx2 n po _ _ HM.out)⟩
         have HLO:Aside0 (o.length+1≤100000):=⟨rw_len G23.out.2 hol.out HYN.out HSS.out hn4 hiY⟩
         clear H hz hk
         go_wp2_with (at_builtin;go_loud (refine Kd.R_append kTk (w0:=w) w.heap.size rfl (.tmp 72) (.tmp 74) 52 95 (.agg #[(.int .i64 0),(.string ⟨#[]⟩),(.string ⟨#[]⟩),(.int .i64 0)]) 48 rfl Tryz.underlying52 info95 rfl (by decide) (by omega) u5 o (6,bf2,⟨#[35]⟩,(n:Int)+(po:Int)-1) [.int .i64 6,.string bf2,.string ⟨#[35]⟩,.int .i64 ((n:Int)+(po:Int)-1)] (fun k=>k<L0∨L1≤k) (fun _=>False) rfl (by rw [alloc_size];rfl) (kTk_mkM _ _ _ (6,bf2,⟨#[35]⟩,(n:Int)+(po:Int)-1)) (fun _ hk=>hk.elim) ?aF ?aO ?aB ?aS ?aL ?_;(case aF=>exact rw_far hB34.out.2);(case aO=>exact Kd.R_alloc hR4.out _);(case aB=>exact below_alloc hB4.out _);(case aS=>exact below_size (below_alloc hB4.out _));(case aL=>exact rw_big hol4.out);intro v1 w6 ho hb6 hg6 _;have HR6:=z0 ho;have HB6:=z0 hb6;have HT6:=z0 (rw_keep hB34.out hR4.out.1 hg6);have c6:w6.cell? ⟨wr.heap.size,3,none⟩=some (.int .i64 ((n:Int)+(po:Int)-1)):=(by have hq:=hg6.block wr.heap.size (by rw [alloc_size];exact Nat.lt_succ_self _) (fun e=>Nat.lt_irrefl _ (Kd.R_lt hR4.out _ e.symm));have:=cell_of_row w6 wr.heap.size 3 _ _ _ (hq.trans (blk_new _ _));simpa using this);clear ho hb6 hg6))
         have e9:(o++[((6:Int),bf2,(⟨#[35]⟩:ByteArray),(n:Int)+(po:Int)-1)]).length≤100000:=by rw [List.length_append,List.length_singleton];exact HLO.out
         go_roundg g5
         case measure=>omega
         case rel=>exact ⟨i+1,true,n+po,o++[((6:Int),bf2,(⟨#[35]⟩:ByteArray),(n:Int)+(po:Int)-1)],(by first|exact rw_succ i|rw [w1]),rfl,rfl,⟨by omega⟩,⟨by omega⟩,HR6,HB6,HT6,⟨e9⟩,⟨fun _=>HQ.out⟩,⟨fun h=>by cases h⟩⟩
       · rw [if_neg hk] at H
         have hk1:(kd==7)=false:=by simpa using hk
         have HQ:Aside0 (rwGo po ((behind s').drop i) (o++[(kd,bf2,tx2,(n:Int)+(po:Int)-1)])=rwGo po (behind s') out):=⟨by have h:=H;rw [rw_tok po n kd bf2 tx2 _ _ HM.out] at h;exact h⟩
         have HLO:Aside0 (o.length+1≤100000):=⟨rw_len G23.out.2 hol.out HYN.out HSS.out hn4 hiY⟩
         clear H hz hk
         go_wp2_with (at_builtin;go_loud (refine Kd.R_append kTk (w0:=w) w.heap.size rfl (.tmp 62) (.tmp 64) 52 95 (.agg #[(.int .i64 0),(.string ⟨#[]⟩),(.string ⟨#[]⟩),(.int .i64 0)]) 48 rfl Tryz.underlying52 info95 rfl (by decide) (by omega) u5 o (kd,bf2,tx2,(n:Int)+(po:Int)-1) [.int .i64 kd,.string bf2,.string tx2,.int .i64 ((n:Int)+(po:Int)-1)] (fun k=>k<L0∨L1≤k) (fun _=>False) rfl (by rw [alloc_size];rfl) (kTk_mkM _ _ _ (kd,bf2,tx2,(n:Int)+(po:Int)-1)) (fun _ hk=>hk.elim) ?aF ?aO ?aB ?aS ?aL ?_;(case aF=>exact rw_far hB34.out.2);(case aO=>exact Kd.R_alloc hR4.out _);(case aB=>exact below_alloc hB4.out _);(case aS=>exact below_size (below_alloc hB4.out _));(case aL=>exact rw_big hol4.out);intro v1 w6 ho hb6 hg6 _;have HR6:=z0 ho;have HB6:=z0 hb6;have HT6:=z0 (rw_keep hB34.out hR4.out.1 hg6);clear ho hb6 hg6))
         have e9:(o++[(kd,bf2,tx2,(n:Int)+(po:Int)-1)]).length≤100000:=by rw [List.length_append,List.length_singleton];exact HLO.out
         have e8:(o++[(kd,bf2,tx2,(n:Int)+(po:Int)-1)]).length+1≤out.length+(i+1):=by rw [List.length_append,List.length_singleton];have:=G23.out.2;omega
         go_roundg g5
         case measure=>omega
         case rel=>exact ⟨i+1,false,po,o++[(kd,bf2,tx2,(n:Int)+(po:Int)-1)],(by first|exact rw_succ i|rw [w1]),rfl,rfl,⟨by omega⟩,⟨by omega⟩,HR6,HB6,HT6,⟨e9⟩,⟨fun h=>by cases h⟩,⟨fun _=>⟨rfl,HQ.out,e8⟩⟩⟩
theorem rWords_no (at0:Int)(bf tx:ByteArray)(w:World)(h:tx.size=0∨bt tx 0≠35):
 Calls Tryz.prog 84 #[.agg #[.int .i64 7,.string bf,.string tx,.int .i64 at0]] w fun e w'=>e= .returned (.tuple #[.slice none 0 0,.int .i64 3])∧Below w.heap.size w w':=by
 have hb0:=bt_at tx 0
 have hsz:tx.toList.length=tx.size:=by rw [ByteArray.toList_eq];rfl
 rcases Nat.eq_zero_or_pos tx.size with h0|h0
 · have hne:(tx.toList==([]:List UInt8))=true:=by
    rw [beq_iff_eq];exact List.eq_nil_of_length_eq_zero (by omega)
   clear hb0 h
   go_enter Tryz.func84,Tryz.ntmps84
   go_wp2_with (fail)
   go_ret2
   exact ⟨rfl,below_alloc (Below.refl _ _) _⟩
 · have hne:(tx.toList==([]:List UInt8))=false:=by
    rw [beq_eq_false_iff_ne]
    intro hn
    rw [hn] at hsz
    simp only [List.length_nil] at hsz
    omega
   have h35:bt tx 0≠35:=h.resolve_left (by omega)
   have hpos:(0:Int)<(tx.size:Int):=by omega
   have h0c:(((tx[0]'h0).toNat:Int) !=35)=true:=by rw [bne_iff_ne,show ((tx[0]'h0).toNat:Int)=bt tx 0 from hb0 h0];exact h35
   clear hb0 h
   go_enter Tryz.func84,Tryz.ntmps84
   go_wp2_with (fail)
   go_ret2
   exact ⟨rfl,below_alloc (Below.refl _ _) _⟩
end Go.Proofs.YtolaiebjmhieiaaGreatDoor.OScan
end
section
namespace Go.Proofs.YtolaiebjmhieiaaGreatDoor.OKin
open Go.RowKit YtolaiebjmhieiaaGreatDoorW.PrintWords YtolaiebjmhieiaaGreatDoorW.PrintLast YtolaiebjmhieiaaGreatDoorW.PrintMore
attribute [local go_sem] max2_int min2_int max_two min_two max_three min_three max_four min_four
structure S95 where
 f0:Int
 f1:ByteArray
 f2:ByteArray
 f3:Int
def z95:S95:=⟨(0:Int),(⟨#[]⟩:ByteArray),(⟨#[]⟩:ByteArray),(0:Int)⟩
def k95:Kd S95:=Kd.iso (Kd.pair (Kd.int .i64) (Kd.pair Kd.string (Kd.pair Kd.string (Kd.int .i64)))) (fun x:S95=>(x.f0,x.f1,x.f2,x.f3))
theorem k95_open {w:World}{x:S95}{cs:List Value}(h:k95.K w x cs):cs=[.int .i64 x.f0,.string x.f1,.string x.f2,.int .i64 x.f3]:=by
 obtain ⟨_,_,rfl,rfl,⟨_,_,rfl,rfl,⟨_,_,rfl,rfl,rfl⟩⟩⟩:=h
 exact rfl
def rd_T95 (xs:List S95)(i:Int):S95:=xs.getD i.toNat z95
theorem at_T95 {w:World}{A:Option Addr}{n:Nat}{xs:List S95}(h:Kd.C k95 w A n xs)(i:Int)(h0:0≤i)(h1:i<n):∃ad,A=some ad∧w.cell? (ad.add (i.toNat*4))=some (.int .i64 (rd_T95 xs i).f0)∧w.cell? ⟨(ad.add (i.toNat*4)).block,(ad.add (i.toNat*4)).off+1,none⟩=some (.string (rd_T95 xs i).f1)∧w.cell? ⟨(ad.add (i.toNat*4)).block,(ad.add (i.toNat*4)).off+2,none⟩=some (.string (rd_T95 xs i).f2)∧w.cell? ⟨(ad.add (i.toNat*4)).block,(ad.add (i.toNat*4)).off+3,none⟩=some (.int .i64 (rd_T95 xs i).f3):=by
 obtain ⟨ad,c,e,_,hK,hc0⟩:=Kd.C_get h z95 i h0 h1
 have hc:∀j u,c[j]? =some u→w.cell? (ad.add (i.toNat*4+j))=some u:=hc0
 obtain rfl:=k95_open hK
 exact ⟨ad,e,hc 0 _ rfl,by rw [←add_field _ _ 1 (by omega)];exact hc 1 _ rfl,by rw [←add_field _ _ 2 (by omega)];exact hc 2 _ rfl,by rw [←add_field _ _ 3 (by omega)];exact hc 3 _ rfl⟩
def smockingref00_Has.l0:Nat→List ByteArray→ByteArray→Int→Option (Int)
 |0,_,_,_=>none
 |k+1,x0,x1,x5=>if x5<(x0.length:Int) then (if 0≤x5 then (if (rdOf ByteArray.empty x0 x5).toList=x1.toList then (some x5) else (smockingref00_Has.l0 k x0 x1 (wrap64 (x5+1)))) else (none)) else (some (-1))
def smockingref00_Has.f (k:Nat)(l0:List ByteArray)(a1:ByteArray):Option (Int):=smockingref00_Has.l0 k l0 a1 0
theorem smockingref00_Has.calls (k:Nat)(A0:Option Addr)(c0:Nat)(l0:List ByteArray)(a1:ByteArray)(r:Int)(w:World)(hr0:Kd.C Kd.string w A0 l0.length l0)(hc0:l0.length≤c0)(h:smockingref00_Has.f k l0 a1=some r):
 Calls Tryz.prog 19 #[.slice A0 l0.length c0,.string a1] w fun e w'=>e= .returned (.int .i64 r)∧Drawn0 w w':=by
 have HR0:=z0 hr0
 have HC0:=z0 hc0
 clear hr0 hc0
 have H:=h
 clear h
 unfold smockingref00_Has.f at H
 have H':=z0 H
 clear H
 go_enter Tryz.func19,Tryz.ntmps19
 go_wp2
 (try go_simp)
 go_loopg [5] k (fun kq v5 w'=>∃(x5_1:Int),v5= .int .i64 x5_1∧Aside0 (smockingref00_Has.l0 kq l0 a1 x5_1=some r)∧Aside0 (kq≤k)∧Drawn0 w w')
 case atStart=>exact ⟨(0),zr,H',⟨Nat.le_refl _⟩,zq⟩
 case round=>
  clear H'
  (try clear c1);(try clear p2)
  obtain ⟨x5_1,rfl,HA,HK1,⟨m1,rfl⟩⟩:=hrel
  cases gk with
  |zero=>exact absurd HA.out (by simp [smockingref00_Has.l0])
  |succ k1=>
   have H:=HA.out
   clear HA
   simp only [smockingref00_Has.l0] at H
   replace H:=zd H
   rcases H with ⟨c3b0,H⟩|⟨c3b0,H⟩
   · replace H:=zdn H
     obtain ⟨c4b0,H⟩:=H
     replace H:=zE H
     rcases H with ⟨c5b0,c5b1,H⟩|⟨c5b0,c5b1,H⟩
     · obtain rfl:=Option.some.inj H
       have p101:0≤(x5_1:Int):=of_decide_eq_true (by first|(with_reducible assumption)|assumption)
       have q101:x5_1<(l0.length:Int):=of_decide_eq_true (by first|(with_reducible assumption)|assumption)
       obtain ⟨ad101,e101,hx101_0⟩:=Kd.at_string HR0.out x5_1 p101 q101
       cases e101
       replace p101:=eq_true p101
       replace q101:=eq_true q101
       go_wp2
       go_ret
       exact ⟨zr,zq⟩
     · have H':=z0 H
       clear H
       have p101:0≤(x5_1:Int):=of_decide_eq_true (by first|(with_reducible assumption)|assumption)
       have q101:x5_1<(l0.length:Int):=of_decide_eq_true (by first|(with_reducible assumption)|assumption)
       obtain ⟨ad101,e101,hx101_0⟩:=Kd.at_string HR0.out x5_1 p101 q101
       cases e101
       replace p101:=eq_true p101
       replace q101:=eq_true q101
       go_wp2
       go_roundg k1
       case measure=>have:=HK1.out;omega
       case rel=>exact ⟨(wrap64 (x5_1+1)),zr,H',⟨by have:=HK1.out;omega⟩,zq⟩
   · obtain rfl:=Option.some.inj H
     go_wp2
     go_ret
     exact ⟨zr,zq⟩
def toS95 (x:OScan.Tk):S95:=⟨x.1,x.2.1,x.2.2.1,x.2.2.2⟩
theorem R_to95 {w:World}{base:Nat}{ok:Nat→Prop}{v:Value}{xs:List OScan.Tk}(h:Kd.R OScan.kTk 95 w base ok v xs):Kd.R k95 95 w base ok v (xs.map toS95):=by
 obtain ⟨h0,inner,ho,hr⟩:=h
 refine ⟨h0,inner,by rw [List.length_map];exact ho,by rw [List.length_map];exact hr.1,fun j p hp=> ?_⟩
 rw [List.getElem?_map] at hp
 obtain ⟨q,hq,rfl⟩:=Option.map_eq_some_iff.1 hp
 exact hr.2 j q hq
def smockingref03_Words.f (a0_0:Int)(a0_1:ByteArray)(a0_2:ByteArray)(a0_3:Int):Option ((List (S95)) × Int):=if a0_0=7∧a0_2.size≤4001 then (if a0_2.size=0∨bt a0_2 0≠35 then some ([],3) else (OScan.wordsF (a0_2.size+1) (a0_2.extract 1 a0_2.size) 0).map (fun r=>(r.map toS95,0))) else none
theorem smockingref03_Words.calls (a0_0:Int)(a0_1:ByteArray)(a0_2:ByteArray)(a0_3:Int)(r1:List (S95))(r2:Int)(w:World)(h:smockingref03_Words.f a0_0 a0_1 a0_2 a0_3=some (r1,r2)):
 Calls Tryz.prog 84 #[.agg #[.int .i64 a0_0,.string a0_1,.string a0_2,.int .i64 a0_3]] w fun e w'=>∃v0_:Value,e= .returned (.tuple #[v0_,.int .i64 r2])∧Kd.R k95 95 w' w.heap.size (fun _=>True) v0_ r1∧Below w.heap.size w w':=by
 unfold smockingref03_Words.f at h
 split at h
 · rename_i hc
   obtain ⟨rfl,h2⟩:=hc
   split at h
   · rename_i h1
     injection h with h
     injection h with e1 e2
     subst e1 e2
     exact (OScan.rWords_no a0_3 a0_1 a0_2 w h1).mono fun e w' ⟨he,hb⟩=>⟨_,he,Kd.R_nil _ _ _ _ _,hb⟩
   · rename_i h1
     rw [not_or,Decidable.not_not] at h1
     obtain ⟨x,hx,he⟩:=Option.map_eq_some_iff.1 h
     simp only [Prod.mk.injEq] at he
     obtain ⟨rfl,rfl⟩:=he
     obtain ⟨r,hr,hl,_⟩:=OScan.words_tot (a0_2.size+1) (a0_2.extract 1 a0_2.size) 0 (by rw [ByteArray.size_extract];omega) (by rw [ByteArray.size_extract];omega)
     obtain rfl:r=x:=by rw [hx] at hr;exact (Option.some.inj hr).symm
     exact (OScan.rWords_any a0_3 a0_1 a0_2 r w (by omega) h2 h1.2 hx (by rw [ByteArray.size_extract] at hl;omega)).mono fun e w' ⟨v,he,hr,hb⟩=>⟨v,he,R_to95 hr,hb⟩
 · cases h
def smockingref03_Kind.j0:Nat→List (S95)→Bool→Option (ByteArray)
 |0,_,_=>none
 |k+1,x3,x20=>if x20=true then (some (⟨#[111,116,104,101,114]⟩:ByteArray)) else (if 0<(x3.length:Int) then ((smockingref00_Has.f k (([(⟨#[105,102]⟩:ByteArray),(⟨#[105,102,100,101,102]⟩:ByteArray),(⟨#[105,102,110,100,101,102]⟩:ByteArray),(⟨#[101,108,105,102]⟩:ByteArray),(⟨#[101,108,115,101]⟩:ByteArray),(⟨#[101,110,100,105,102]⟩:ByteArray),(⟨#[100,101,102,105,110,101]⟩:ByteArray),(⟨#[117,110,100,101,102]⟩:ByteArray),(⟨#[105,110,99,108,117,100,101]⟩:ByteArray)]:List ByteArray)) ((rd_T95 x3 0).f2)).bind fun t111=>(if t111≥0 then (some ((rd_T95 x3 0).f2)) else (some (⟨#[111,116,104,101,114]⟩:ByteArray)))) else (none))
def smockingref03_Kind.f (k:Nat)(a0_0:Int)(a0_1:ByteArray)(a0_2:ByteArray)(a0_3:Int):Option (ByteArray):=if a0_0=7 then ((smockingref03_Words.f a0_0 a0_1 a0_2 a0_3).bind fun bt103=>(if bt103.2=0 then (smockingref03_Kind.j0 k bt103.1 ((bt103.1.length:Int)==0)) else (smockingref03_Kind.j0 k bt103.1 true))) else (some (⟨#[]⟩:ByteArray))
theorem smockingref03_Kind.calls (k:Nat)(a0_0:Int)(a0_1:ByteArray)(a0_2:ByteArray)(a0_3:Int)(r:ByteArray)(w:World)(h:smockingref03_Kind.f k a0_0 a0_1 a0_2 a0_3=some r):
 Calls Tryz.prog 83 #[.agg #[.int .i64 a0_0,.string a0_1,.string a0_2,.int .i64 a0_3]] w fun e w'=>e= .returned (.string r)∧Below w.heap.size w w':=by
 have hu95:=Tryz.underlying95
 have HB:=z0 (Below.refl w.heap.size w)
 have H:=h
 clear h
 unfold smockingref03_Kind.f at H
 replace H:=ze H
 rcases H with ⟨c2b0,c2b1,H⟩|⟨c2b0,c2b1,H⟩
 · replace H:=zo H
   obtain ⟨⟨t103,t106⟩,A3,H⟩:=H
   (try dsimp only at H)
   have HC4:=z0 H
   clear H
   go_enter Tryz.func83,Tryz.ntmps83
   go_upto_region 4 with (first|((with_reducible refine gate_dst (N:=1) rfl ?_);(try (refine gate_guard (by rfl) ?_;dsimp only));refine box_event ?hg (N:=1) ?hd (cs:= #[.int .i64 a0_0,.string a0_1,.string a0_2,.int .i64 a0_3]) (t:=95) ?hr ?_;(case hd=>rfl);(case hg=>rfl);(case hr=>first|(go_simp;done)|(go_simp;rfl));intro gb102 hg w5 hbox hb;have n0_:=z0 (below_step zw hb);have n1_:=z0 (hbox);have n2_:=z0 ((by rw [hg];exact (below_size zw):w.heap.size≤gb102));have n3_:=z0 ((by rw [hg];exact (below_size zw):w.heap.size≤gb102));revert n0_ n1_ n2_ n3_;clear HB;intro HB BK102 GW102 GE102;clear hb hbox hg;have hcz6_0:w5.cell? ⟨gb102,0,none⟩=some (.int .i64 a0_0):=(blk_cell BK102.out 0).trans rfl;have hcz6_1:w5.cell? ⟨gb102,1,none⟩=some (.string a0_1):=(blk_cell BK102.out 1).trans rfl;have hcz6_2:w5.cell? ⟨gb102,2,none⟩=some (.string a0_2):=(blk_cell BK102.out 2).trans rfl;have hcz6_3:w5.cell? ⟨gb102,3,none⟩=some (.int .i64 a0_3):=(blk_cell BK102.out 3).trans rfl;have hfz6_0:=blk_frozen BK102.out 0;have hfz6_1:=blk_frozen BK102.out 1;have hfz6_2:=blk_frozen BK102.out 2;have hfz6_3:=blk_frozen BK102.out 3)|(refine zc 11 rfl Tryz.func84 #[.agg #[.int .i64 a0_0,.string a0_1,.string a0_2,.int .i64 a0_3]] ?_;(with_reducible refine (smockingref03_Words.calls a0_0 a0_1 a0_2 a0_3 t103 t106 _ A3.out).mono ?_);rintro e w7 ⟨v104,rfl,ho0,hb⟩;refine ⟨_,rfl,?_⟩;have n0_:=z0 (Kd.R_lower (Kd.R_newB ho0 (g:=gb102) (o:= .cells #[.int .i64 a0_0,.string a0_1,.string a0_2,.int .i64 a0_3] 95 (0,0)) (by (with_reducible repeat (first|refine blk_drewN ?_ _|refine blk_drew ?_|refine blk_alloc ?_ _));exact BK102.out)) (below_size zw));have n1_:=z0 (blk_below (g:=gb102) (o:= .cells #[.int .i64 a0_0,.string a0_1,.string a0_2,.int .i64 a0_3] 95 (0,0)) (by (with_reducible repeat (first|refine blk_drewN ?_ _|refine blk_drew ?_|refine blk_alloc ?_ _));exact BK102.out) hb);have n2_:=z0 (below_step zw hb);revert n0_ n1_ n2_;clear BK102 HB;intro HO105 BK102 HB;(try clear hb);(try clear hk);(try clear hi);(try clear ho0)))
   (try simp only [Act.put,List.setIfInBounds_toArray,List.set_cons_zero,List.set_cons_succ])
   go_cut [20] (fun v20 wc=>∃(kq:Nat) (x20_3:Bool),v20= .bool x20_3∧Aside0 (smockingref03_Kind.j0 kq t103 x20_3=some r)∧Aside0 (kq≤k)∧Aside0 (Kd.R k95 95 wc w.heap.size (fun k_=>k_≠gb102) v104 t103)∧Aside0 (wc.heap[gb102]? =some (.cells #[.int .i64 a0_0,.string a0_1,.string a0_2,.int .i64 a0_3] 95 (0,0)))∧Aside0 (Below w.heap.size w wc))
   case first=>
    have H:=HC4.out
    clear HC4
    replace H:=ze H
    rcases H with ⟨c8b0,c8b1,H⟩|⟨c8b0,c8b1,H⟩
    · (first|rw [c8b0]|(simp only [i64_w,i32_w];rw [c8b0])|skip)
      have H':=z0 H
      clear H
      obtain ⟨Ao9,co9,eo9⟩:=Kd.R_slice HO105.out
      subst eo9
      go_wp2
      go_meet
      case rel=>exact ⟨_,(((t103.length:Int)==0)),zr,H',⟨by first|omega|exact Nat.le_refl _⟩,⟨by (with_reducible repeat (first|apply Kd.R_alloc|apply Kd.R_drewN|apply Kd.R_drew));exact Kd.R_mono HO105.out (fun _ hk=>hk.2)⟩,⟨by (with_reducible repeat (first|refine blk_drewN ?_ _|refine blk_drew ?_|refine blk_alloc ?_ _));exact BK102.out⟩,⟨zw⟩⟩
    · (first|rw [c8b0]|(simp only [i64_w,i32_w];rw [c8b0])|skip)
      have H':=z0 H
      clear H
      go_wp2
      go_meet
      case rel=>exact ⟨_,(true),zr,H',⟨by first|omega|exact Nat.le_refl _⟩,⟨by (with_reducible repeat (first|apply Kd.R_alloc|apply Kd.R_drewN|apply Kd.R_drew));exact Kd.R_mono HO105.out (fun _ hk=>hk.2)⟩,⟨by (with_reducible repeat (first|refine blk_drewN ?_ _|refine blk_drew ?_|refine blk_alloc ?_ _));exact BK102.out⟩,⟨zw⟩⟩
   case rest=>
    clear HC4
    (try clear c2);(try clear c2b0);(try clear c2b1);(try clear p2);(try clear c8);(try clear c8b0);(try clear c8b1);(try clear hcz6_0);(try clear hcz6_1);(try clear hcz6_2);(try clear hcz6_3);(try clear hfz6_0);(try clear hfz6_1);(try clear hfz6_2);(try clear hfz6_3)
    obtain ⟨kq,x20_3,rfl,HA,HJ3,HO_3,BK102,HB⟩:=hcut
    cases kq with
    |zero=>exact absurd HA.out (by simp [smockingref03_Kind.j0])
    |succ kj3=>
     have H:=HA.out
     clear HA
     simp only [smockingref03_Kind.j0] at H
     by_cases c10:x20_3=true
     · subst c10
       rw [if_pos rfl] at H
       obtain rfl:=Option.some.inj H
       go_wp2
       go_ret
       exact ⟨zv,zw⟩
     · replace c10:=Bool.eq_false_iff.mpr c10
       subst c10
       rw [if_neg nofun] at H
       obtain ⟨y107,hy107⟩:∃y_:List ByteArray,y_=(([(⟨#[105,102]⟩:ByteArray),(⟨#[105,102,100,101,102]⟩:ByteArray),(⟨#[105,102,110,100,101,102]⟩:ByteArray),(⟨#[101,108,105,102]⟩:ByteArray),(⟨#[101,108,115,101]⟩:ByteArray),(⟨#[101,110,100,105,102]⟩:ByteArray),(⟨#[100,101,102,105,110,101]⟩:ByteArray),(⟨#[117,110,100,101,102]⟩:ByteArray),(⟨#[105,110,99,108,117,100,101]⟩:ByteArray)]:List ByteArray)):=⟨_,rfl⟩
       replace H:(if 0<(t103.length:Int) then ((smockingref00_Has.f kj3 y107 ((rd_T95 t103 0).f2)).bind fun t111=>(if t111≥0 then (some ((rd_T95 t103 0).f2)) else (some (⟨#[111,116,104,101,114]⟩:ByteArray)))) else (none))=some r:=by first|(rw [hy107];with_reducible exact H)|(have H2_:=(Option.bind_some _ _).symm.trans H;rw [hy107];with_reducible exact H2_)|(have H2_:=(Option.bind_some _ _).symm.trans H;with_reducible exact H2_)|with_reducible exact H|(rw [hy107];exact H)|exact H
       have Ny107:=z0 hy107
       clear hy107
       by_cases c11:0<(t103.length:Int)
       · rw [if_pos c11] at H
         have c11b0:decide (0<(t103.length:Int))=true:=decide_eq_true c11
         have c11b1:decide (0<t103.length)=true:=decide_eq_true (by omega)
         clear c11
         replace H:=zo H
         obtain ⟨t111,A12,H⟩:=H
         (try dsimp only at H)
         replace H:=zg H
         rcases H with ⟨c13b0,H⟩|⟨c13b0,H⟩
         · obtain rfl:=Option.some.inj H
           go_wp2_with (first|((with_reducible refine gate_dst (N:=21) rfl ?_);(try (refine gate_guard (by rfl) ?_;dsimp only));refine Kd.R_lit Kd.string _ 9 ?hg (N:=21) ?hd (xs:=([(⟨#[105,102]⟩:ByteArray),(⟨#[105,102,100,101,102]⟩:ByteArray),(⟨#[105,102,110,100,101,102]⟩:ByteArray),(⟨#[101,108,105,102]⟩:ByteArray),(⟨#[101,108,115,101]⟩:ByteArray),(⟨#[101,110,100,105,102]⟩:ByteArray),(⟨#[100,101,102,105,110,101]⟩:ByteArray),(⟨#[117,110,100,101,102]⟩:ByteArray),(⟨#[105,110,99,108,117,100,101]⟩:ByteArray)]:List ByteArray)) (inner:=[.string (⟨#[105,102]⟩:ByteArray),.string (⟨#[105,102,100,101,102]⟩:ByteArray),.string (⟨#[105,102,110,100,101,102]⟩:ByteArray),.string (⟨#[101,108,105,102]⟩:ByteArray),.string (⟨#[101,108,115,101]⟩:ByteArray),.string (⟨#[101,110,100,105,102]⟩:ByteArray),.string (⟨#[100,101,102,105,110,101]⟩:ByteArray),.string (⟨#[117,110,100,101,102]⟩:ByteArray),.string (⟨#[105,110,99,108,117,100,101]⟩:ByteArray)]) (ok:=fun _=>True) (okp:=fun _=>True) ?hr ?hp (fun _ hk=>hk) trivial (Below.refl _ _) (Nat.le_refl _) (by simp) ?_;(case hd=>rfl);(case hg=>rfl);(case hr=>first|(go_simp;done)|(go_simp;rfl));(case hp=>exact (Reps.one (show Kd.M Kd.string _ _ _ (⟨#[105,102]⟩:ByteArray) [.string (⟨#[105,102]⟩:ByteArray)] from rfl) (Reps.one (show Kd.M Kd.string _ _ _ (⟨#[105,102,100,101,102]⟩:ByteArray) [.string (⟨#[105,102,100,101,102]⟩:ByteArray)] from rfl) (Reps.one (show Kd.M Kd.string _ _ _ (⟨#[105,102,110,100,101,102]⟩:ByteArray) [.string (⟨#[105,102,110,100,101,102]⟩:ByteArray)] from rfl) (Reps.one (show Kd.M Kd.string _ _ _ (⟨#[101,108,105,102]⟩:ByteArray) [.string (⟨#[101,108,105,102]⟩:ByteArray)] from rfl) (Reps.one (show Kd.M Kd.string _ _ _ (⟨#[101,108,115,101]⟩:ByteArray) [.string (⟨#[101,108,115,101]⟩:ByteArray)] from rfl) (Reps.one (show Kd.M Kd.string _ _ _ (⟨#[101,110,100,105,102]⟩:ByteArray) [.string (⟨#[101,110,100,105,102]⟩:ByteArray)] from rfl) (Reps.one (show Kd.M Kd.string _ _ _ (⟨#[100,101,102,105,110,101]⟩:ByteArray) [.string (⟨#[100,101,102,105,110,101]⟩:ByteArray)] from rfl) (Reps.one (show Kd.M Kd.string _ _ _ (⟨#[117,110,100,101,102]⟩:ByteArray) [.string (⟨#[117,110,100,101,102]⟩:ByteArray)] from rfl) (Reps.one (show Kd.M Kd.string _ _ _ (⟨#[105,110,99,108,117,100,101]⟩:ByteArray) [.string (⟨#[105,110,99,108,117,100,101]⟩:ByteArray)] from rfl) (Reps.none _ _)))))))))));intro v108 w14 ho15 hb hg_ hnew_;clear hg_ hnew_;(first|rw [←Ny107.out] at ho15|(simp only [Int.reduceToNat] at ho15;rw [←Ny107.out] at ho15));have n0_:=z0 (Kd.R_below (by (with_reducible repeat (first|apply Kd.R_alloc|apply Kd.R_drewN|apply Kd.R_drew));exact HO_3.out) hb);have n1_:=z0 (Kd.R_lower ho15 (below_size zw));have n2_:=z0 (blk_below (g:=gb102) (o:= .cells #[.int .i64 a0_0,.string a0_1,.string a0_2,.int .i64 a0_3] 95 (0,0)) (by (with_reducible repeat (first|refine blk_drewN ?_ _|refine blk_drew ?_|refine blk_alloc ?_ _));exact BK102.out) hb);have n3_:=z0 (below_step zw hb);revert n0_ n1_ n2_ n3_;clear HO_3 BK102 HB;intro HO_3 HO109 BK102 HB;clear hb ho15;obtain ⟨Ao16,co16,eo16⟩:=Kd.R_slice HO_3.out;subst eo16;have p110:0≤(0:Int):=(by omega);have q110:0<(t103.length:Int):=of_decide_eq_true (by first|(with_reducible assumption)|assumption);obtain ⟨ad110,e110,hx110_0,hx110_1,hx110_2,hx110_3⟩:=at_T95 (Kd.R_reads' HO_3.out).2.2 0 p110 q110;cases e110;have qi110:(0<t103.length)=True:=eq_true (by omega);(try rw [show ((0:Int)).toNat=0 from rfl] at hx110_0);(try rw [show 0*4=0 from rfl] at hx110_0);(try rw [Addr.add_zero'] at hx110_0);(try rw [show ((0:Int)).toNat=0 from rfl] at hx110_1);(try rw [show 0*4=0 from rfl] at hx110_1);(try rw [Addr.add_zero'] at hx110_1);(try rw [show ((0:Int)).toNat=0 from rfl] at hx110_2);(try rw [show 0*4=0 from rfl] at hx110_2);(try rw [Addr.add_zero'] at hx110_2);(try rw [show ((0:Int)).toNat=0 from rfl] at hx110_3);(try rw [show 0*4=0 from rfl] at hx110_3);(try rw [Addr.add_zero'] at hx110_3);replace p110:=eq_true p110;replace q110:=eq_true q110;obtain ⟨Ao17,co17,eo17⟩:=Kd.R_slice HO109.out;subst eo17)|(refine zc 27 rfl Tryz.func19 #[.slice Ao17 y107.length co17,.string ((rd_T95 t103 0).f2)] ?_;(with_reducible refine (smockingref00_Has.calls kj3 _ _ y107 ((rd_T95 t103 0).f2) t111 _ ?side1 ?side2 A12.out).mono ?_);(case side1=>repeat (first|exact (Kd.R_reads' HO109.out).2.2|(with_reducible refine Kd.C_alloc ?_ _)|(with_reducible refine Kd.C_drewN ?_ _)|(with_reducible refine Kd.C_drew ?_)));(case side2=>exact (Kd.R_reads' HO109.out).2.1);rintro e w' ⟨rfl,⟨nd,rfl⟩⟩;refine ⟨_,rfl,?_⟩;have p112:0≤(0:Int):=(by omega);have q112:0<(t103.length:Int):=of_decide_eq_true (by first|(with_reducible assumption)|assumption);obtain ⟨ad112,e112,hx112_0,hx112_1,hx112_2,hx112_3⟩:=at_T95 (Kd.R_reads' HO_3.out).2.2 0 p112 q112;obtain rfl:ad110=ad112:=(by injection e112);have qi112:(0<t103.length)=True:=eq_true (by omega);(try rw [show ((0:Int)).toNat=0 from rfl] at hx112_0);(try rw [show 0*4=0 from rfl] at hx112_0);(try rw [Addr.add_zero'] at hx112_0);(try rw [show ((0:Int)).toNat=0 from rfl] at hx112_1);(try rw [show 0*4=0 from rfl] at hx112_1);(try rw [Addr.add_zero'] at hx112_1);(try rw [show ((0:Int)).toNat=0 from rfl] at hx112_2);(try rw [show 0*4=0 from rfl] at hx112_2);(try rw [Addr.add_zero'] at hx112_2);(try rw [show ((0:Int)).toNat=0 from rfl] at hx112_3);(try rw [show 0*4=0 from rfl] at hx112_3);(try rw [Addr.add_zero'] at hx112_3);replace p112:=eq_true p112;replace q112:=eq_true q112))
           go_ret
           exact ⟨zv,zw⟩
         · obtain rfl:=Option.some.inj H
           go_wp2_with (first|((with_reducible refine gate_dst (N:=21) rfl ?_);(try (refine gate_guard (by rfl) ?_;dsimp only));refine Kd.R_lit Kd.string _ 9 ?hg (N:=21) ?hd (xs:=([(⟨#[105,102]⟩:ByteArray),(⟨#[105,102,100,101,102]⟩:ByteArray),(⟨#[105,102,110,100,101,102]⟩:ByteArray),(⟨#[101,108,105,102]⟩:ByteArray),(⟨#[101,108,115,101]⟩:ByteArray),(⟨#[101,110,100,105,102]⟩:ByteArray),(⟨#[100,101,102,105,110,101]⟩:ByteArray),(⟨#[117,110,100,101,102]⟩:ByteArray),(⟨#[105,110,99,108,117,100,101]⟩:ByteArray)]:List ByteArray)) (inner:=[.string (⟨#[105,102]⟩:ByteArray),.string (⟨#[105,102,100,101,102]⟩:ByteArray),.string (⟨#[105,102,110,100,101,102]⟩:ByteArray),.string (⟨#[101,108,105,102]⟩:ByteArray),.string (⟨#[101,108,115,101]⟩:ByteArray),.string (⟨#[101,110,100,105,102]⟩:ByteArray),.string (⟨#[100,101,102,105,110,101]⟩:ByteArray),.string (⟨#[117,110,100,101,102]⟩:ByteArray),.string (⟨#[105,110,99,108,117,100,101]⟩:ByteArray)]) (ok:=fun _=>True) (okp:=fun _=>True) ?hr ?hp (fun _ hk=>hk) trivial (Below.refl _ _) (Nat.le_refl _) (by simp) ?_;(case hd=>rfl);(case hg=>rfl);(case hr=>first|(go_simp;done)|(go_simp;rfl));(case hp=>exact (Reps.one (show Kd.M Kd.string _ _ _ (⟨#[105,102]⟩:ByteArray) [.string (⟨#[105,102]⟩:ByteArray)] from rfl) (Reps.one (show Kd.M Kd.string _ _ _ (⟨#[105,102,100,101,102]⟩:ByteArray) [.string (⟨#[105,102,100,101,102]⟩:ByteArray)] from rfl) (Reps.one (show Kd.M Kd.string _ _ _ (⟨#[105,102,110,100,101,102]⟩:ByteArray) [.string (⟨#[105,102,110,100,101,102]⟩:ByteArray)] from rfl) (Reps.one (show Kd.M Kd.string _ _ _ (⟨#[101,108,105,102]⟩:ByteArray) [.string (⟨#[101,108,105,102]⟩:ByteArray)] from rfl) (Reps.one (show Kd.M Kd.string _ _ _ (⟨#[101,108,115,101]⟩:ByteArray) [.string (⟨#[101,108,115,101]⟩:ByteArray)] from rfl) (Reps.one (show Kd.M Kd.string _ _ _ (⟨#[101,110,100,105,102]⟩:ByteArray) [.string (⟨#[101,110,100,105,102]⟩:ByteArray)] from rfl) (Reps.one (show Kd.M Kd.string _ _ _ (⟨#[100,101,102,105,110,101]⟩:ByteArray) [.string (⟨#[100,101,102,105,110,101]⟩:ByteArray)] from rfl) (Reps.one (show Kd.M Kd.string _ _ _ (⟨#[117,110,100,101,102]⟩:ByteArray) [.string (⟨#[117,110,100,101,102]⟩:ByteArray)] from rfl) (Reps.one (show Kd.M Kd.string _ _ _ (⟨#[105,110,99,108,117,100,101]⟩:ByteArray) [.string (⟨#[105,110,99,108,117,100,101]⟩:ByteArray)] from rfl) (Reps.none _ _)))))))))));intro v108 w18 ho19 hb hg_ hnew_;clear hg_ hnew_;(first|rw [←Ny107.out] at ho19|(simp only [Int.reduceToNat] at ho19;rw [←Ny107.out] at ho19));have n0_:=z0 (Kd.R_below (by (with_reducible repeat (first|apply Kd.R_alloc|apply Kd.R_drewN|apply Kd.R_drew));exact HO_3.out) hb);have n1_:=z0 (Kd.R_lower ho19 (below_size zw));have n2_:=z0 (blk_below (g:=gb102) (o:= .cells #[.int .i64 a0_0,.string a0_1,.string a0_2,.int .i64 a0_3] 95 (0,0)) (by (with_reducible repeat (first|refine blk_drewN ?_ _|refine blk_drew ?_|refine blk_alloc ?_ _));exact BK102.out) hb);have n3_:=z0 (below_step zw hb);revert n0_ n1_ n2_ n3_;clear HO_3 BK102 HB;intro HO_3 HO109 BK102 HB;clear hb ho19;obtain ⟨Ao20,co20,eo20⟩:=Kd.R_slice HO_3.out;subst eo20;have p110:0≤(0:Int):=(by omega);have q110:0<(t103.length:Int):=of_decide_eq_true (by first|(with_reducible assumption)|assumption);obtain ⟨ad110,e110,hx110_0,hx110_1,hx110_2,hx110_3⟩:=at_T95 (Kd.R_reads' HO_3.out).2.2 0 p110 q110;cases e110;have qi110:(0<t103.length)=True:=eq_true (by omega);(try rw [show ((0:Int)).toNat=0 from rfl] at hx110_0);(try rw [show 0*4=0 from rfl] at hx110_0);(try rw [Addr.add_zero'] at hx110_0);(try rw [show ((0:Int)).toNat=0 from rfl] at hx110_1);(try rw [show 0*4=0 from rfl] at hx110_1);(try rw [Addr.add_zero'] at hx110_1);(try rw [show ((0:Int)).toNat=0 from rfl] at hx110_2);(try rw [show 0*4=0 from rfl] at hx110_2);(try rw [Addr.add_zero'] at hx110_2);(try rw [show ((0:Int)).toNat=0 from rfl] at hx110_3);(try rw [show 0*4=0 from rfl] at hx110_3);(try rw [Addr.add_zero'] at hx110_3);replace p110:=eq_true p110;replace q110:=eq_true q110;obtain ⟨Ao21,co21,eo21⟩:=Kd.R_slice HO109.out;subst eo21)|(refine zc 27 rfl Tryz.func19 #[.slice Ao21 y107.length co21,.string ((rd_T95 t103 0).f2)] ?_;(with_reducible refine (smockingref00_Has.calls kj3 _ _ y107 ((rd_T95 t103 0).f2) t111 _ ?side1 ?side2 A12.out).mono ?_);(case side1=>repeat (first|exact (Kd.R_reads' HO109.out).2.2|(with_reducible refine Kd.C_alloc ?_ _)|(with_reducible refine Kd.C_drewN ?_ _)|(with_reducible refine Kd.C_drew ?_)));(case side2=>exact (Kd.R_reads' HO109.out).2.1);rintro e w' ⟨rfl,⟨nd,rfl⟩⟩;refine ⟨_,rfl,?_⟩))
           go_ret
           exact ⟨zv,zw⟩
       · rw [if_neg c11] at H
         cases H
 · obtain rfl:=Option.some.inj H
   go_enter Tryz.func83,Tryz.ntmps83
   go_wp2_with (first|((with_reducible refine gate_dst (N:=1) rfl ?_);(try (refine gate_guard (by rfl) ?_;dsimp only));refine box_event ?hg (N:=1) ?hd (cs:= #[.int .i64 a0_0,.string a0_1,.string a0_2,.int .i64 a0_3]) (t:=95) ?hr ?_;(case hd=>rfl);(case hg=>rfl);(case hr=>first|(go_simp;done)|(go_simp;rfl));intro gb102 hg w22 hbox hb;have n0_:=z0 (below_step zw hb);have n1_:=z0 (hbox);have n2_:=z0 ((by rw [hg];exact (below_size zw):w.heap.size≤gb102));have n3_:=z0 ((by rw [hg];exact (below_size zw):w.heap.size≤gb102));revert n0_ n1_ n2_ n3_;clear HB;intro HB BK102 GW102 GE102;clear hb hbox hg;have hcz23_0:w22.cell? ⟨gb102,0,none⟩=some (.int .i64 a0_0):=(blk_cell BK102.out 0).trans rfl;have hcz23_1:w22.cell? ⟨gb102,1,none⟩=some (.string a0_1):=(blk_cell BK102.out 1).trans rfl;have hcz23_2:w22.cell? ⟨gb102,2,none⟩=some (.string a0_2):=(blk_cell BK102.out 2).trans rfl;have hcz23_3:w22.cell? ⟨gb102,3,none⟩=some (.int .i64 a0_3):=(blk_cell BK102.out 3).trans rfl;have hfz23_0:=blk_frozen BK102.out 0;have hfz23_1:=blk_frozen BK102.out 1;have hfz23_2:=blk_frozen BK102.out 2;have hfz23_3:=blk_frozen BK102.out 3))
   go_ret
   exact ⟨zv,zw⟩
end Go.Proofs.YtolaiebjmhieiaaGreatDoor.OKin
end
section
namespace Go.Proofs.YtolaiebjmhieiaaGreatDoor.ORef
open Go.RowKit YtolaiebjmhieiaaGreatDoorW.PrintWords YtolaiebjmhieiaaGreatDoorW.PrintLast YtolaiebjmhieiaaGreatDoorW.PrintMore
attribute [local go_sem] max2_int min2_int max_two min_two max_three min_three max_four min_four
def smockingref03_opens.f (a0:ByteArray):Option (Bool):=if a0.toList=([105,102]:List UInt8) then (some true) else (if a0.toList=([105,102,100,101,102]:List UInt8) then (some true) else (some (a0.toList==([105,102,110,100,101,102]:List UInt8))))
theorem smockingref03_opens.calls (a0:ByteArray)(r:Bool)(w:World)(h:smockingref03_opens.f a0=some r):
 Calls Tryz.prog 82 #[.string a0] w fun e w'=>e= .returned (.bool r)∧Drawn0 w w':=by
 have H:=h
 clear h
 unfold smockingref03_opens.f at H
 replace H:=zE H
 rcases H with ⟨c2b0,c2b1,H⟩|⟨c2b0,c2b1,H⟩
 · obtain rfl:=Option.some.inj H
   go_enter Tryz.func82,Tryz.ntmps82
   go_wp2
   go_ret
   exact ⟨zr,zq⟩
 · replace H:=zE H
   rcases H with ⟨c3b0,c3b1,H⟩|⟨c3b0,c3b1,H⟩
   · obtain rfl:=Option.some.inj H
     go_enter Tryz.func82,Tryz.ntmps82
     go_wp2
     go_ret
     exact ⟨zr,zq⟩
   · obtain rfl:=Option.some.inj H
     go_enter Tryz.func82,Tryz.ntmps82
     go_wp2
     go_ret
     exact ⟨zr,zq⟩
def smockingref03_within.l0:Nat→Int→Int→List Int→Int→Int→Int→Option (Int)
 |0,_,_,_,_,_,_=>none
 |k+1,x1,x5,x215000,x215001,x215002,x215003=>if (wrap64 (x5+1))<(x215000.length:Int) then (if 0≤x5 then (if x5<(x215000.length:Int) then (if x1>(rd x215000 x5) then (if 0≤(wrap64 (x5+1)) then (if x1<(rd x215000 (wrap64 (x5+1))) then (some x5) else (smockingref03_within.l0 k x1 (wrap64 (x5+1)) x215000 x215001 x215002 x215003)) else (none)) else (smockingref03_within.l0 k x1 (wrap64 (x5+1)) x215000 x215001 x215002 x215003)) else (none)) else (none)) else (some (-1))
def smockingref03_within.f (k:Nat)(l0_0:List Int)(a0_1:Int)(a0_2:Int)(a0_3:Int)(a1:Int):Option (Int):=smockingref03_within.l0 k a1 0 l0_0 a0_1 a0_2 a0_3
theorem smockingref03_within.calls (k:Nat)(A0_0:Option Addr)(c0_0:Nat)(l0_0:List Int)(a0_1:Int)(a0_2:Int)(a0_3:Int)(a1:Int)(r:Int)(w:World)(hr0_0:Kd.C (Kd.int .i64) w A0_0 l0_0.length l0_0)(hc0_0:l0_0.length≤c0_0)(h:smockingref03_within.f k l0_0 a0_1 a0_2 a0_3 a1=some r):
 Calls Tryz.prog 85 #[.agg #[.slice A0_0 l0_0.length c0_0,.int .i64 a0_1,.int .i64 a0_2,.int .i64 a0_3],.int .i64 a1] w fun e w'=>e= .returned (.int .i64 r)∧Below w.heap.size w w':=by
 have hu146:=Tryz.underlying146
 have HR0_0:=z0 hr0_0
 have HC0_0:=z0 hc0_0
 clear hr0_0 hc0_0
 have HB:=z0 (Below.refl w.heap.size w)
 have H:=h
 clear h
 unfold smockingref03_within.f at H
 have H':=z0 H
 clear H
 go_enter Tryz.func85,Tryz.ntmps85
 go_wp2_with (first|((with_reducible refine gate_dst (N:=2) rfl ?_);refine box_event ?hg (N:=2) ?hd (cs:= #[.slice A0_0 l0_0.length c0_0,.int .i64 a0_1,.int .i64 a0_2,.int .i64 a0_3]) (t:=146) ?hr ?_;(case hd=>rfl);(case hg=>rfl);(case hr=>first|(go_simp;done)|(go_simp;rfl));intro gb214 hg w3 hbox hb;have n0_:=z0 (below_step zw hb);have n1_:=z0 (hbox);have n2_:=z0 ((by rw [hg];exact (below_size zw):w.heap.size≤gb214));have n3_:=z0 ((by rw [hg];exact (below_size zw):w.heap.size≤gb214));revert n0_ n1_ n2_ n3_;clear HB;intro HB BK214 GW214 GE214;clear hb hbox hg))
 (try go_simp)
 go_loopg [5] k (fun kq v5 w'=>∃(x5_1:Int),v5= .int .i64 x5_1∧Aside0 (smockingref03_within.l0 kq a1 x5_1 l0_0 a0_1 a0_2 a0_3=some r)∧Aside0 (kq≤k)∧Aside0 (w'.heap[gb214]? =some (.cells #[(.slice A0_0 l0_0.length c0_0),.int .i64 a0_1,.int .i64 a0_2,.int .i64 a0_3] 146 (0,0)))∧Aside0 (Below w.heap.size w w'))
 case atStart=>exact ⟨(0),zr,H',⟨Nat.le_refl _⟩,⟨by (with_reducible repeat (first|refine blk_drewN ?_ _|refine blk_drew ?_|refine blk_alloc ?_ _));exact BK214.out⟩,⟨zw⟩⟩
 case round=>
  clear H'
  (try clear p2)
  obtain ⟨x5_1,rfl,HA,HK1,BK214,HB⟩:=hrel
  cases gk with
  |zero=>exact absurd HA.out (by simp [smockingref03_within.l0])
  |succ k1=>
   have H:=HA.out
   clear HA
   simp only [smockingref03_within.l0] at H
   replace H:=zd H
   rcases H with ⟨c4b0,H⟩|⟨c4b0,H⟩
   · replace H:=zdn H
     obtain ⟨c5b0,H⟩:=H
     replace H:=zdn H
     obtain ⟨c6b0,H⟩:=H
     replace H:=zt H
     rcases H with ⟨c7b0,H⟩|⟨c7b0,H⟩
     · generalize hji8:(wrap64 (x5_1+1))=ji8 at H
       (try rw [hji8] at c4b0)
       have hji8w:(IntKind.i64.wrap (x5_1+1))=ji8:=(i64_w _).trans hji8
       replace H:=zdn H
       obtain ⟨c9b0,H⟩:=H
       replace H:=zd H
       rcases H with ⟨c10b0,H⟩|⟨c10b0,H⟩
       · obtain rfl:=Option.some.inj H
         have hcz11_0:wr.cell? ⟨gb214,0,none⟩=some (.slice A0_0 l0_0.length c0_0):=(blk_cell BK214.out 0).trans rfl
         have hcz11_1:wr.cell? ⟨gb214,1,none⟩=some (.int .i64 a0_1):=(blk_cell BK214.out 1).trans rfl
         have hcz11_2:wr.cell? ⟨gb214,2,none⟩=some (.int .i64 a0_2):=(blk_cell BK214.out 2).trans rfl
         have hcz11_3:wr.cell? ⟨gb214,3,none⟩=some (.int .i64 a0_3):=(blk_cell BK214.out 3).trans rfl
         have hfz11_0:=blk_frozen BK214.out 0
         have hfz11_1:=blk_frozen BK214.out 1
         have hfz11_2:=blk_frozen BK214.out 2
         have hfz11_3:=blk_frozen BK214.out 3
         have p215:0≤(x5_1:Int):=of_decide_eq_true (by first|(with_reducible assumption)|assumption)
         have q215:x5_1<(l0_0.length:Int):=of_decide_eq_true (by first|(with_reducible assumption)|assumption)
         obtain ⟨ad215,e215,hx215_0⟩:=Kd.at_int HR0_0.out x5_1 p215 q215
         cases e215
         replace hx215_0:=(HB.out.cell (World.block_lt_of_cell? w _ hx215_0)).trans hx215_0
         replace p215:=eq_true p215
         replace q215:=eq_true q215
         have p216:0≤((ji8):Int):=of_decide_eq_true (by first|(with_reducible assumption)|assumption)
         have q216:(ji8)<(l0_0.length:Int):=of_decide_eq_true (by first|(with_reducible assumption)|assumption)
         obtain ⟨ad216,e216,hx216_0⟩:=Kd.at_int HR0_0.out (ji8) p216 q216
         obtain rfl:ad215=ad216:=(by injection e216)
         replace hx216_0:=(HB.out.cell (World.block_lt_of_cell? w _ hx216_0)).trans hx216_0
         replace p216:=eq_true p216
         replace q216:=eq_true q216
         go_wp2
         go_ret
         exact ⟨by first|rfl|(simp [errW_none,errW_some]<;>rfl)|(simp only [←hji8];first|rfl|(simp [errW_none,errW_some]<;>rfl))|(simp [*,errW_none,errW_some]<;>rfl),zw⟩
       · have H':=z0 H
         clear H
         have hcz12_0:wr.cell? ⟨gb214,0,none⟩=some (.slice A0_0 l0_0.length c0_0):=(blk_cell BK214.out 0).trans rfl
         have hcz12_1:wr.cell? ⟨gb214,1,none⟩=some (.int .i64 a0_1):=(blk_cell BK214.out 1).trans rfl
         have hcz12_2:wr.cell? ⟨gb214,2,none⟩=some (.int .i64 a0_2):=(blk_cell BK214.out 2).trans rfl
         have hcz12_3:wr.cell? ⟨gb214,3,none⟩=some (.int .i64 a0_3):=(blk_cell BK214.out 3).trans rfl
         have hfz12_0:=blk_frozen BK214.out 0
         have hfz12_1:=blk_frozen BK214.out 1
         have hfz12_2:=blk_frozen BK214.out 2
         have hfz12_3:=blk_frozen BK214.out 3
         have p215:0≤(x5_1:Int):=of_decide_eq_true (by first|(with_reducible assumption)|assumption)
         have q215:x5_1<(l0_0.length:Int):=of_decide_eq_true (by first|(with_reducible assumption)|assumption)
         obtain ⟨ad215,e215,hx215_0⟩:=Kd.at_int HR0_0.out x5_1 p215 q215
         cases e215
         replace hx215_0:=(HB.out.cell (World.block_lt_of_cell? w _ hx215_0)).trans hx215_0
         replace p215:=eq_true p215
         replace q215:=eq_true q215
         have p216:0≤((ji8):Int):=of_decide_eq_true (by first|(with_reducible assumption)|assumption)
         have q216:(ji8)<(l0_0.length:Int):=of_decide_eq_true (by first|(with_reducible assumption)|assumption)
         obtain ⟨ad216,e216,hx216_0⟩:=Kd.at_int HR0_0.out (ji8) p216 q216
         obtain rfl:ad215=ad216:=(by injection e216)
         replace hx216_0:=(HB.out.cell (World.block_lt_of_cell? w _ hx216_0)).trans hx216_0
         replace p216:=eq_true p216
         replace q216:=eq_true q216
         go_wp2
         go_roundg k1
         case measure=>have:=HK1.out;omega
         case rel=>exact ⟨(ji8),(by first|rfl|(simp;done)|(simp only [←hji8]<;>(first|rfl|simp))|(simp [*];done)),H',⟨by have:=HK1.out;omega⟩,⟨by (with_reducible repeat (first|refine blk_drewN ?_ _|refine blk_drew ?_|refine blk_alloc ?_ _));exact BK214.out⟩,⟨zw⟩⟩
     · have H':=z0 H
       clear H
       have hcz13_0:wr.cell? ⟨gb214,0,none⟩=some (.slice A0_0 l0_0.length c0_0):=(blk_cell BK214.out 0).trans rfl
       have hcz13_1:wr.cell? ⟨gb214,1,none⟩=some (.int .i64 a0_1):=(blk_cell BK214.out 1).trans rfl
       have hcz13_2:wr.cell? ⟨gb214,2,none⟩=some (.int .i64 a0_2):=(blk_cell BK214.out 2).trans rfl
       have hcz13_3:wr.cell? ⟨gb214,3,none⟩=some (.int .i64 a0_3):=(blk_cell BK214.out 3).trans rfl
       have hfz13_0:=blk_frozen BK214.out 0
       have hfz13_1:=blk_frozen BK214.out 1
       have hfz13_2:=blk_frozen BK214.out 2
       have hfz13_3:=blk_frozen BK214.out 3
       have p215:0≤(x5_1:Int):=of_decide_eq_true (by first|(with_reducible assumption)|assumption)
       have q215:x5_1<(l0_0.length:Int):=of_decide_eq_true (by first|(with_reducible assumption)|assumption)
       obtain ⟨ad215,e215,hx215_0⟩:=Kd.at_int HR0_0.out x5_1 p215 q215
       cases e215
       replace hx215_0:=(HB.out.cell (World.block_lt_of_cell? w _ hx215_0)).trans hx215_0
       replace p215:=eq_true p215
       replace q215:=eq_true q215
       go_wp2
       go_roundg k1
       case measure=>have:=HK1.out;omega
       case rel=>exact ⟨(wrap64 (x5_1+1)),zr,H',⟨by have:=HK1.out;omega⟩,⟨by (with_reducible repeat (first|refine blk_drewN ?_ _|refine blk_drew ?_|refine blk_alloc ?_ _));exact BK214.out⟩,⟨zw⟩⟩
   · obtain rfl:=Option.some.inj H
     have hcz14_0:wr.cell? ⟨gb214,0,none⟩=some (.slice A0_0 l0_0.length c0_0):=(blk_cell BK214.out 0).trans rfl
     have hcz14_1:wr.cell? ⟨gb214,1,none⟩=some (.int .i64 a0_1):=(blk_cell BK214.out 1).trans rfl
     have hcz14_2:wr.cell? ⟨gb214,2,none⟩=some (.int .i64 a0_2):=(blk_cell BK214.out 2).trans rfl
     have hcz14_3:wr.cell? ⟨gb214,3,none⟩=some (.int .i64 a0_3):=(blk_cell BK214.out 3).trans rfl
     have hfz14_0:=blk_frozen BK214.out 0
     have hfz14_1:=blk_frozen BK214.out 1
     have hfz14_2:=blk_frozen BK214.out 2
     have hfz14_3:=blk_frozen BK214.out 3
     go_wp2
     go_ret
     exact ⟨zv,zw⟩
end Go.Proofs.YtolaiebjmhieiaaGreatDoor.ORef
end
section
namespace Go.Proofs.YtolaiebjmhieiaaGreatDoor.OCond
open Go.RowKit YtolaiebjmhieiaaGreatDoorW.PrintWords YtolaiebjmhieiaaGreatDoorW.PrintLast YtolaiebjmhieiaaGreatDoorW.PrintMore
attribute [local go_sem] max2_int min2_int max_two min_two max_three min_three max_four min_four
structure S95 where
 f0:Int
 f1:ByteArray
 f2:ByteArray
 f3:Int
def z95:S95:=⟨(0:Int),(⟨#[]⟩:ByteArray),(⟨#[]⟩:ByteArray),(0:Int)⟩
def k95:Kd S95:=Kd.iso (Kd.pair (Kd.int .i64) (Kd.pair Kd.string (Kd.pair Kd.string (Kd.int .i64)))) (fun x:S95=>(x.f0,x.f1,x.f2,x.f3))
theorem k95_open {w:World}{x:S95}{cs:List Value}(h:k95.K w x cs):cs=[.int .i64 x.f0,.string x.f1,.string x.f2,.int .i64 x.f3]:=by
 obtain ⟨_,_,rfl,rfl,⟨_,_,rfl,rfl,⟨_,_,rfl,rfl,rfl⟩⟩⟩:=h
 exact rfl
def rd_T95 (xs:List S95)(i:Int):S95:=xs.getD i.toNat z95
theorem at_T95 {w:World}{A:Option Addr}{n:Nat}{xs:List S95}(h:Kd.C k95 w A n xs)(i:Int)(h0:0≤i)(h1:i<n):∃ad,A=some ad∧w.cell? (ad.add (i.toNat*4))=some (.int .i64 (rd_T95 xs i).f0)∧w.cell? ⟨(ad.add (i.toNat*4)).block,(ad.add (i.toNat*4)).off+1,none⟩=some (.string (rd_T95 xs i).f1)∧w.cell? ⟨(ad.add (i.toNat*4)).block,(ad.add (i.toNat*4)).off+2,none⟩=some (.string (rd_T95 xs i).f2)∧w.cell? ⟨(ad.add (i.toNat*4)).block,(ad.add (i.toNat*4)).off+3,none⟩=some (.int .i64 (rd_T95 xs i).f3):=by
 obtain ⟨ad,c,e,_,hK,hc0⟩:=Kd.C_get h z95 i h0 h1
 have hc:∀j u,c[j]? =some u→w.cell? (ad.add (i.toNat*4+j))=some u:=hc0
 obtain rfl:=k95_open hK
 exact ⟨ad,e,hc 0 _ rfl,by rw [←add_field _ _ 1 (by omega)];exact hc 1 _ rfl,by rw [←add_field _ _ 2 (by omega)];exact hc 2 _ rfl,by rw [←add_field _ _ 3 (by omega)];exact hc 3 _ rfl⟩
def stringslite_HasPrefix.f (a0:ByteArray)(a1:ByteArray):Option (Bool):=if (a0.size:Int)≥(a1.size:Int) then (if 0≤(a1.size:Int) then (if (a1.size:Int)≤(a0.size:Int) then (some ((a0.extract 0 ((a1.size:Int):Int).toNat).toList==a1.toList)) else (none)) else (none)) else (some false)
theorem stringslite_HasPrefix.calls (a0:ByteArray)(a1:ByteArray)(r:Bool)(w:World)(h:stringslite_HasPrefix.f a0 a1=some r):
 Calls Tryz.prog 131 #[.string a0,.string a1] w fun e w'=>e= .returned (.bool r)∧Drawn0 w w':=by
 have H:=h
 clear h
 unfold stringslite_HasPrefix.f at H
 by_cases c3:(a0.size:Int)≥(a1.size:Int)
 · rw [if_pos c3] at H
   have c3b0:decide ((a1.size:Int)≤(a0.size:Int))=true:=decide_eq_true c3
   have c3b1:decide (a1.size≤a0.size)=true:=decide_eq_true (Int.ofNat_le.mp c3)
   clear c3
   replace H:=zyn H
   obtain ⟨c4b0,c4b1,H⟩:=H
   replace H:=zyn H
   obtain ⟨c5b0,c5b1,H⟩:=H
   obtain rfl:=Option.some.inj H
   go_enter Tryz.func131,Tryz.ntmps131
   go_wp2
   go_ret
   exact ⟨zr,zq⟩
 · rw [if_neg c3] at H
   have c3b0:decide ((a1.size:Int)≤(a0.size:Int))=false:=decide_eq_false c3
   have c3b1:decide (a1.size≤a0.size)=false:=decide_eq_false (fun h=>c3 (Int.ofNat_le.mpr h))
   clear c3
   obtain rfl:=Option.some.inj H
   go_enter Tryz.func131,Tryz.ntmps131
   go_wp2
   go_ret
   exact ⟨zr,zq⟩
def strings_HasPrefix.f (a0:ByteArray)(a1:ByteArray):Option (Bool):=(stringslite_HasPrefix.f a0 a1).bind fun t101=>(some t101)
theorem strings_HasPrefix.calls (a0:ByteArray)(a1:ByteArray)(r:Bool)(w:World)(h:strings_HasPrefix.f a0 a1=some r):
 Calls Tryz.prog 72 #[.string a0,.string a1] w fun e w'=>e= .returned (.bool r)∧Drawn0 w w':=by
 have H:=h
 clear h
 unfold strings_HasPrefix.f at H
 replace H:=zo H
 obtain ⟨t101,A3,H⟩:=H
 (try dsimp only at H)
 obtain rfl:=Option.some.inj H
 go_enter Tryz.func72,Tryz.ntmps72
 go_wp2_with (first|(refine zc 7 rfl Tryz.func131 #[.string a0,.string a1] ?_;refine za (stringslite_HasPrefix.calls a0 a1 t101 _ A3.out) fun nd=> ?_))
 go_ret
 exact ⟨zr,zq⟩
def toS95 (x:OScan.Tk):S95:=⟨x.1,x.2.1,x.2.2.1,x.2.2.2⟩
theorem R_iso {α β:Type}{d:Kd α}{f:β→α}{g:α→β}(hfg:∀x,f (g x)=x){e:Nat}{w:World}{base:Nat}{ok:Nat→Prop}{v:Value}{xs:List α}(h:Kd.R d e w base ok v xs):Kd.R (Kd.iso d f) e w base ok v (xs.map g):=by
 obtain ⟨h0,inner,ho,hr⟩:=h
 refine ⟨h0,inner,by rw [List.length_map];exact ho,by rw [List.length_map];exact hr.1,fun j p hp=> ?_⟩
 rw [List.getElem?_map] at hp
 obtain ⟨q,hq,rfl⟩:=Option.map_eq_some_iff.1 hp
 have h1:=hr.2 j q hq
 show d.M _ _ _ (f (g q)) _
 rw [hfg];exact h1
def cond_words.f (a0:ByteArray)(a1:Int):Option (List (S95)):=if a0.size≤140737488355000 then (OScan.wordsF (a0.size+2) a0 a1).map (List.map toS95) else none
theorem cond_words.calls (a0:ByteArray)(a1:Int)(r1:List (S95))(w:World)(h:cond_words.f a0 a1=some r1)(hG_:OScan.Glob2 w):
 Calls Tryz.prog 126 #[.string a0,.int .i64 a1] w fun e w'=>∃v0_:Value,e= .returned (v0_)∧Kd.R k95 95 w' w.heap.size (fun _=>True) v0_ r1∧Below w.heap.size w w':=by
 unfold cond_words.f at h
 split at h
 · rename_i hs
   obtain ⟨x,hx,rfl⟩:=Option.map_eq_some_iff.1 h
   exact (OScan.words_any _ a0 a1 x w hG_ hs hx).mono fun e w' ⟨v,he,hr,hb⟩=>⟨v,he,R_iso (fun _=>rfl) hr,hb⟩
 · cases h
def cond_Words.f (a0_0:Int)(a0_1:ByteArray)(a0_2:ByteArray)(a0_3:Int):Option ((List (S95)) × Int):=if a0_0=7 then ((strings_HasPrefix.f a0_2 (⟨#[35]⟩:ByteArray)).bind fun t103=>(if t103=true then (if 1≤(a0_2.size:Int) then ((cond_words.f (a0_2.extract 1 a0_2.size) 0).bind fun t104=>(some (t104,0))) else (none)) else (some (([]:List (S95)),3)))) else (some (([]:List (S95)),3))
theorem cond_Words.calls (a0_0:Int)(a0_1:ByteArray)(a0_2:ByteArray)(a0_3:Int)(r1:List (S95))(r2:Int)(w:World)(h:cond_Words.f a0_0 a0_1 a0_2 a0_3=some (r1,r2))(hG_:OScan.Glob2 w):
 Calls Tryz.prog 70 #[.agg #[.int .i64 a0_0,.string a0_1,.string a0_2,.int .i64 a0_3]] w fun e w'=>∃v0_:Value,e= .returned (.tuple #[v0_,.int .i64 r2])∧Kd.R k95 95 w' w.heap.size (fun _=>True) v0_ r1∧Below w.heap.size w w':=by
 have hu95:=Tryz.underlying95
 have HB:=z0 (Below.refl w.heap.size w)
 have H:=h
 clear h
 unfold cond_Words.f at H
 replace H:=ze H
 rcases H with ⟨c2b0,c2b1,H⟩|⟨c2b0,c2b1,H⟩
 · replace H:=zo H
   obtain ⟨t103,A3,H⟩:=H
   (try dsimp only at H)
   by_cases c4:t103=true
   · subst c4
     rw [if_pos rfl] at H
     replace H:=zyn H
     obtain ⟨c5b0,c5b1,H⟩:=H
     replace H:=zo H
     obtain ⟨t104,A6,H⟩:=H
     (try dsimp only at H)
     simp only [Option.some.injEq,Prod.mk.injEq] at H
     obtain ⟨rfl,rfl⟩:=H
     go_enter Tryz.func70,Tryz.ntmps70
     go_wp2_with (first|((with_reducible refine gate_dst (N:=1) rfl ?_);refine box_event ?hg (N:=1) ?hd (cs:= #[.int .i64 a0_0,.string a0_1,.string a0_2,.int .i64 a0_3]) (t:=95) ?hr ?_;(case hd=>rfl);(case hg=>rfl);(case hr=>first|(go_simp;done)|(go_simp;rfl));intro gb102 hg w7 hbox hb;have n0_:=z0 (below_step zw hb);have n1_:=z0 (hbox);have n2_:=z0 ((by rw [hg];exact (below_size zw):w.heap.size≤gb102));have n3_:=z0 ((by rw [hg];exact (below_size zw):w.heap.size≤gb102));revert n0_ n1_ n2_ n3_;clear HB;intro HB BK102 GW102 GE102;clear hb hbox hg;have hcz8_0:w7.cell? ⟨gb102,0,none⟩=some (.int .i64 a0_0):=(blk_cell BK102.out 0).trans rfl;have hcz8_1:w7.cell? ⟨gb102,1,none⟩=some (.string a0_1):=(blk_cell BK102.out 1).trans rfl;have hcz8_2:w7.cell? ⟨gb102,2,none⟩=some (.string a0_2):=(blk_cell BK102.out 2).trans rfl;have hcz8_3:w7.cell? ⟨gb102,3,none⟩=some (.int .i64 a0_3):=(blk_cell BK102.out 3).trans rfl;have hfz8_0:=blk_frozen BK102.out 0;have hfz8_1:=blk_frozen BK102.out 1;have hfz8_2:=blk_frozen BK102.out 2;have hfz8_3:=blk_frozen BK102.out 3)|(go_at_call 72;(with_reducible refine (strings_HasPrefix.calls a0_2 (⟨#[35]⟩:ByteArray) true _ A3.out).mono ?_);rintro e w' ⟨rfl,⟨nd,rfl⟩⟩)|(refine zc 16 rfl Tryz.func126 #[.string (a0_2.extract 1 a0_2.size),.int .i64 0] ?_;(with_reducible refine (cond_words.calls (a0_2.extract 1 a0_2.size) 0 t104 _ A6.out (by first|exact hG_|exact hG_.below zw)).mono ?_);rintro e w9 ⟨v105,rfl,ho0,hb⟩;refine ⟨_,rfl,?_⟩;have n0_:=z0 (Kd.R_lower (Kd.R_newB ho0 (g:=gb102) (o:= .cells #[.int .i64 a0_0,.string a0_1,.string a0_2,.int .i64 a0_3] 95 (0,0)) (by (with_reducible repeat (first|refine blk_drewN ?_ _|refine blk_drew ?_|refine blk_alloc ?_ _));exact BK102.out)) (below_size zw));have n1_:=z0 (blk_below (g:=gb102) (o:= .cells #[.int .i64 a0_0,.string a0_1,.string a0_2,.int .i64 a0_3] 95 (0,0)) (by (with_reducible repeat (first|refine blk_drewN ?_ _|refine blk_drew ?_|refine blk_alloc ?_ _));exact BK102.out) hb);have n2_:=z0 (below_step zw hb);revert n0_ n1_ n2_;clear BK102 HB;intro HO106 BK102 HB;(try clear hb);(try clear hk);(try clear hi);(try clear ho0)))
     go_ret2
     exact ⟨_,zv,by (with_reducible repeat (first|apply Kd.R_alloc|apply Kd.R_drewN|apply Kd.R_drew));exact Kd.R_mono HO106.out (fun _ hk=>trivial),zw⟩
   · replace c4:=Bool.eq_false_iff.mpr c4
     subst c4
     rw [if_neg nofun] at H
     simp only [Option.some.injEq,Prod.mk.injEq] at H
     obtain ⟨rfl,rfl⟩:=H
     go_enter Tryz.func70,Tryz.ntmps70
     go_wp2_with (first|((with_reducible refine gate_dst (N:=1) rfl ?_);refine box_event ?hg (N:=1) ?hd (cs:= #[.int .i64 a0_0,.string a0_1,.string a0_2,.int .i64 a0_3]) (t:=95) ?hr ?_;(case hd=>rfl);(case hg=>rfl);(case hr=>first|(go_simp;done)|(go_simp;rfl));intro gb102 hg w10 hbox hb;have n0_:=z0 (below_step zw hb);have n1_:=z0 (hbox);have n2_:=z0 ((by rw [hg];exact (below_size zw):w.heap.size≤gb102));have n3_:=z0 ((by rw [hg];exact (below_size zw):w.heap.size≤gb102));revert n0_ n1_ n2_ n3_;clear HB;intro HB BK102 GW102 GE102;clear hb hbox hg;have hcz11_0:w10.cell? ⟨gb102,0,none⟩=some (.int .i64 a0_0):=(blk_cell BK102.out 0).trans rfl;have hcz11_1:w10.cell? ⟨gb102,1,none⟩=some (.string a0_1):=(blk_cell BK102.out 1).trans rfl;have hcz11_2:w10.cell? ⟨gb102,2,none⟩=some (.string a0_2):=(blk_cell BK102.out 2).trans rfl;have hcz11_3:w10.cell? ⟨gb102,3,none⟩=some (.int .i64 a0_3):=(blk_cell BK102.out 3).trans rfl;have hfz11_0:=blk_frozen BK102.out 0;have hfz11_1:=blk_frozen BK102.out 1;have hfz11_2:=blk_frozen BK102.out 2;have hfz11_3:=blk_frozen BK102.out 3)|(go_at_call 72;(with_reducible refine (strings_HasPrefix.calls a0_2 (⟨#[35]⟩:ByteArray) false _ A3.out).mono ?_);rintro e w' ⟨rfl,⟨nd,rfl⟩⟩))
     go_ret2
     exact ⟨_,zv,by first|exact Kd.R_nil _ _ _ _ _|exact Kd.N_nil _ _ _ _ _|exact Kd.V_nil _ _ _ _ _|exact Kd.Q_nil _ _ _ _ _|exact Kd.S_nil _ _ _ _ _,zw⟩
 · simp only [Option.some.injEq,Prod.mk.injEq] at H
   obtain ⟨rfl,rfl⟩:=H
   go_enter Tryz.func70,Tryz.ntmps70
   go_wp2_with (first|((with_reducible refine gate_dst (N:=1) rfl ?_);refine box_event ?hg (N:=1) ?hd (cs:= #[.int .i64 a0_0,.string a0_1,.string a0_2,.int .i64 a0_3]) (t:=95) ?hr ?_;(case hd=>rfl);(case hg=>rfl);(case hr=>first|(go_simp;done)|(go_simp;rfl));intro gb102 hg w12 hbox hb;have n0_:=z0 (below_step zw hb);have n1_:=z0 (hbox);have n2_:=z0 ((by rw [hg];exact (below_size zw):w.heap.size≤gb102));have n3_:=z0 ((by rw [hg];exact (below_size zw):w.heap.size≤gb102));revert n0_ n1_ n2_ n3_;clear HB;intro HB BK102 GW102 GE102;clear hb hbox hg;have hcz13_0:w12.cell? ⟨gb102,0,none⟩=some (.int .i64 a0_0):=(blk_cell BK102.out 0).trans rfl;have hcz13_1:w12.cell? ⟨gb102,1,none⟩=some (.string a0_1):=(blk_cell BK102.out 1).trans rfl;have hcz13_2:w12.cell? ⟨gb102,2,none⟩=some (.string a0_2):=(blk_cell BK102.out 2).trans rfl;have hcz13_3:w12.cell? ⟨gb102,3,none⟩=some (.int .i64 a0_3):=(blk_cell BK102.out 3).trans rfl;have hfz13_0:=blk_frozen BK102.out 0;have hfz13_1:=blk_frozen BK102.out 1;have hfz13_2:=blk_frozen BK102.out 2;have hfz13_3:=blk_frozen BK102.out 3))
   go_ret2
   exact ⟨_,zv,by first|exact Kd.R_nil _ _ _ _ _|exact Kd.N_nil _ _ _ _ _|exact Kd.V_nil _ _ _ _ _|exact Kd.Q_nil _ _ _ _ _|exact Kd.S_nil _ _ _ _ _,zw⟩
def slices_Index_string_string.l0:Nat→List ByteArray→ByteArray→Int→Int→Option (Int)
 |0,_,_,_,_=>none
 |k+1,x0,x1,x7,x8=>if x8<x7 then (if 0≤x8 then (if x8<(x0.length:Int) then (if x1.toList=(rdOf ByteArray.empty x0 x8).toList then (some x8) else (slices_Index_string_string.l0 k x0 x1 x7 (wrap64 (x8+1)))) else (none)) else (none)) else (some (-1))
def slices_Index_string_string.f (k:Nat)(l0:List ByteArray)(a1:ByteArray):Option (Int):=slices_Index_string_string.l0 k l0 a1 (l0.length:Int) 0
theorem slices_Index_string_string.calls (k:Nat)(A0:Option Addr)(c0:Nat)(l0:List ByteArray)(a1:ByteArray)(r:Int)(w:World)(hr0:Kd.C Kd.string w A0 l0.length l0)(hc0:l0.length≤c0)(h:slices_Index_string_string.f k l0 a1=some r):
 Calls Tryz.prog 54 #[.slice A0 l0.length c0,.string a1] w fun e w'=>e= .returned (.int .i64 r)∧Drawn0 w w':=by
 have HR0:=z0 hr0
 have HC0:=z0 hc0
 clear hr0 hc0
 have H:=h
 clear h
 unfold slices_Index_string_string.f at H
 have H':=z0 H
 clear H
 go_enter Tryz.func54,Tryz.ntmps54
 go_wp2
 go_loopg [8] k (fun kq v8 w'=>∃(x8_1:Int),v8= .int .i64 x8_1∧Aside0 (slices_Index_string_string.l0 kq l0 a1 (l0.length:Int) x8_1=some r)∧Aside0 (kq≤k)∧Drawn0 w w')
 case atStart=>exact ⟨(0),zr,H',⟨Nat.le_refl _⟩,zq⟩
 case round=>
  clear H'
  (try clear p2)
  obtain ⟨x8_1,rfl,HA,HK1,⟨m1,rfl⟩⟩:=hrel
  cases gk with
  |zero=>exact absurd HA.out (by simp [slices_Index_string_string.l0])
  |succ k1=>
   have H:=HA.out
   clear HA
   simp only [slices_Index_string_string.l0] at H
   replace H:=zd H
   rcases H with ⟨c3b0,H⟩|⟨c3b0,H⟩
   · replace H:=zdn H
     obtain ⟨c4b0,H⟩:=H
     replace H:=zdn H
     obtain ⟨c5b0,H⟩:=H
     replace H:=zE H
     rcases H with ⟨c6b0,c6b1,H⟩|⟨c6b0,c6b1,H⟩
     · obtain rfl:=Option.some.inj H
       have p107:0≤(x8_1:Int):=of_decide_eq_true (by first|(with_reducible assumption)|assumption)
       have q107:x8_1<(l0.length:Int):=of_decide_eq_true (by first|(with_reducible assumption)|assumption)
       obtain ⟨ad107,e107,hx107_0⟩:=Kd.at_string HR0.out x8_1 p107 q107
       cases e107
       replace p107:=eq_true p107
       replace q107:=eq_true q107
       go_wp2
       go_ret
       exact ⟨zr,zq⟩
     · have H':=z0 H
       clear H
       have p107:0≤(x8_1:Int):=of_decide_eq_true (by first|(with_reducible assumption)|assumption)
       have q107:x8_1<(l0.length:Int):=of_decide_eq_true (by first|(with_reducible assumption)|assumption)
       obtain ⟨ad107,e107,hx107_0⟩:=Kd.at_string HR0.out x8_1 p107 q107
       cases e107
       replace p107:=eq_true p107
       replace q107:=eq_true q107
       go_wp2
       go_roundg k1
       case measure=>have:=HK1.out;omega
       case rel=>exact ⟨(wrap64 (x8_1+1)),zr,H',⟨by have:=HK1.out;omega⟩,zq⟩
   · obtain rfl:=Option.some.inj H
     go_wp2
     go_ret
     exact ⟨zr,zq⟩
def slices_Contains_string_string.f (k:Nat)(l0:List ByteArray)(a1:ByteArray):Option (Bool):=(slices_Index_string_string.f k l0 a1).bind fun t108=>(some (decide (t108≥0)))
theorem slices_Contains_string_string.calls (k:Nat)(A0:Option Addr)(c0:Nat)(l0:List ByteArray)(a1:ByteArray)(r:Bool)(w:World)(hr0:Kd.C Kd.string w A0 l0.length l0)(hc0:l0.length≤c0)(h:slices_Contains_string_string.f k l0 a1=some r):
 Calls Tryz.prog 28 #[.slice A0 l0.length c0,.string a1] w fun e w'=>e= .returned (.bool r)∧Drawn0 w w':=by
 have HR0:=z0 hr0
 have HC0:=z0 hc0
 clear hr0 hc0
 have H:=h
 clear h
 unfold slices_Contains_string_string.f at H
 replace H:=zo H
 obtain ⟨t108,A3,H⟩:=H
 (try dsimp only at H)
 obtain rfl:=Option.some.inj H
 go_enter Tryz.func28,Tryz.ntmps28
 go_wp2_with (first|(refine zc 7 rfl Tryz.func54 #[.slice A0 l0.length c0,.string a1] ?_;(with_reducible refine (slices_Index_string_string.calls k _ _ l0 a1 t108 _ ?side1 ?side2 A3.out).mono ?_);(case side1=>repeat (first|exact HR0.out|(with_reducible refine Kd.C_alloc ?_ _)|(with_reducible refine Kd.C_drewN ?_ _)|(with_reducible refine Kd.C_drew ?_)));(case side2=>exact HC0.out);rintro e w' ⟨rfl,⟨nd,rfl⟩⟩;refine ⟨_,rfl,?_⟩))
 go_ret
 exact ⟨zr,zq⟩
def cond_Kind.f (k:Nat)(a0_0:Int)(a0_1:ByteArray)(a0_2:ByteArray)(a0_3:Int):Option (ByteArray):=if a0_0=7 then ((cond_Words.f a0_0 a0_1 a0_2 a0_3).bind fun bt110=>(if (bt110.1.length:Int)>0 then (if 0<(bt110.1.length:Int) then ((slices_Contains_string_string.f k (([(⟨#[105,102]⟩:ByteArray),(⟨#[105,102,100,101,102]⟩:ByteArray),(⟨#[105,102,110,100,101,102]⟩:ByteArray),(⟨#[101,108,105,102]⟩:ByteArray),(⟨#[101,108,115,101]⟩:ByteArray),(⟨#[101,110,100,105,102]⟩:ByteArray),(⟨#[100,101,102,105,110,101]⟩:ByteArray),(⟨#[117,110,100,101,102]⟩:ByteArray),(⟨#[105,110,99,108,117,100,101]⟩:ByteArray)]:List ByteArray)) ((rd_T95 bt110.1 0).f2)).bind fun t118=>(if t118=true then (some ((rd_T95 bt110.1 0).f2)) else (some (⟨#[111,116,104,101,114]⟩:ByteArray)))) else (none)) else (some (⟨#[111,116,104,101,114]⟩:ByteArray)))) else (some (⟨#[]⟩:ByteArray))
theorem cond_Kind.calls (k:Nat)(a0_0:Int)(a0_1:ByteArray)(a0_2:ByteArray)(a0_3:Int)(r:ByteArray)(w:World)(h:cond_Kind.f k a0_0 a0_1 a0_2 a0_3=some r)(hG_:OScan.Glob2 w):
 Calls Tryz.prog 67 #[.agg #[.int .i64 a0_0,.string a0_1,.string a0_2,.int .i64 a0_3]] w fun e w'=>e= .returned (.string r)∧Below w.heap.size w w':=by
 have hu95:=Tryz.underlying95
 have HB:=z0 (Below.refl w.heap.size w)
 have H:=h
 clear h
 unfold cond_Kind.f at H
 replace H:=ze H
 rcases H with ⟨c2b0,c2b1,H⟩|⟨c2b0,c2b1,H⟩
 · replace H:=zo H
   obtain ⟨⟨t110,t113⟩,A3,H⟩:=H
   (try dsimp only at H)
   by_cases c4:(t110.length:Int)>0
   · rw [if_pos c4] at H
     have c4b0:decide (0<(t110.length:Int))=true:=decide_eq_true c4
     have c4b1:decide (0<t110.length)=true:=decide_eq_true (by omega)
     clear c4
     obtain ⟨y114,hy114⟩:∃y_:List ByteArray,y_=(([(⟨#[105,102]⟩:ByteArray),(⟨#[105,102,100,101,102]⟩:ByteArray),(⟨#[105,102,110,100,101,102]⟩:ByteArray),(⟨#[101,108,105,102]⟩:ByteArray),(⟨#[101,108,115,101]⟩:ByteArray),(⟨#[101,110,100,105,102]⟩:ByteArray),(⟨#[100,101,102,105,110,101]⟩:ByteArray),(⟨#[117,110,100,101,102]⟩:ByteArray),(⟨#[105,110,99,108,117,100,101]⟩:ByteArray)]:List ByteArray)):=⟨_,rfl⟩
     replace H:(if 0<(t110.length:Int) then ((slices_Contains_string_string.f k y114 ((rd_T95 t110 0).f2)).bind fun t118=>(if t118=true then (some ((rd_T95 t110 0).f2)) else (some (⟨#[111,116,104,101,114]⟩:ByteArray)))) else (none))=some r:=by first|(rw [hy114];with_reducible exact H)|(have H2_:=(Option.bind_some _ _).symm.trans H;rw [hy114];with_reducible exact H2_)|(have H2_:=(Option.bind_some _ _).symm.trans H;with_reducible exact H2_)|with_reducible exact H|(rw [hy114];exact H)|exact H
     have Ny114:=z0 hy114
     clear hy114
     by_cases c5:0<(t110.length:Int)
     · rw [if_pos c5] at H
       have c5b0:decide (0<(t110.length:Int))=true:=decide_eq_true c5
       have c5b1:decide (0<t110.length)=true:=decide_eq_true (by omega)
       clear c5
       replace H:=zo H
       obtain ⟨t118,A6,H⟩:=H
       (try dsimp only at H)
       by_cases c7:t118=true
       · subst c7
         rw [if_pos rfl] at H
         obtain rfl:=Option.some.inj H
         go_enter Tryz.func67,Tryz.ntmps67
         go_wp2_with (first|((with_reducible refine gate_dst (N:=1) rfl ?_);(try (refine gate_guard (by rfl) ?_;dsimp only));refine box_event ?hg (N:=1) ?hd (cs:= #[.int .i64 a0_0,.string a0_1,.string a0_2,.int .i64 a0_3]) (t:=95) ?hr ?_;(case hd=>rfl);(case hg=>rfl);(case hr=>first|(go_simp;done)|(go_simp;rfl));intro gb109 hg w8 hbox hb;have n0_:=z0 (below_step zw hb);have n1_:=z0 (hbox);have n2_:=z0 ((by rw [hg];exact (below_size zw):w.heap.size≤gb109));have n3_:=z0 ((by rw [hg];exact (below_size zw):w.heap.size≤gb109));revert n0_ n1_ n2_ n3_;clear HB;intro HB BK109 GW109 GE109;clear hb hbox hg;have hcz9_0:w8.cell? ⟨gb109,0,none⟩=some (.int .i64 a0_0):=(blk_cell BK109.out 0).trans rfl;have hcz9_1:w8.cell? ⟨gb109,1,none⟩=some (.string a0_1):=(blk_cell BK109.out 1).trans rfl;have hcz9_2:w8.cell? ⟨gb109,2,none⟩=some (.string a0_2):=(blk_cell BK109.out 2).trans rfl;have hcz9_3:w8.cell? ⟨gb109,3,none⟩=some (.int .i64 a0_3):=(blk_cell BK109.out 3).trans rfl;have hfz9_0:=blk_frozen BK109.out 0;have hfz9_1:=blk_frozen BK109.out 1;have hfz9_2:=blk_frozen BK109.out 2;have hfz9_3:=blk_frozen BK109.out 3)|(refine zc 10 rfl Tryz.func70 #[.agg #[.int .i64 a0_0,.string a0_1,.string a0_2,.int .i64 a0_3]] ?_;(with_reducible refine (cond_Words.calls a0_0 a0_1 a0_2 a0_3 t110 t113 _ A3.out (by first|exact hG_|exact hG_.below zw)).mono ?_);rintro e w10 ⟨v111,rfl,ho0,hb⟩;refine ⟨_,rfl,?_⟩;have n0_:=z0 (Kd.R_lower (Kd.R_newB ho0 (g:=gb109) (o:= .cells #[.int .i64 a0_0,.string a0_1,.string a0_2,.int .i64 a0_3] 95 (0,0)) (by (with_reducible repeat (first|refine blk_drewN ?_ _|refine blk_drew ?_|refine blk_alloc ?_ _));exact BK109.out)) (below_size zw));have n1_:=z0 (blk_below (g:=gb109) (o:= .cells #[.int .i64 a0_0,.string a0_1,.string a0_2,.int .i64 a0_3] 95 (0,0)) (by (with_reducible repeat (first|refine blk_drewN ?_ _|refine blk_drew ?_|refine blk_alloc ?_ _));exact BK109.out) hb);have n2_:=z0 (below_step zw hb);revert n0_ n1_ n2_;clear BK109 HB;intro HO112 BK109 HB;(try clear hb);(try clear hk);(try clear hi);(try clear ho0);obtain ⟨Ao11,co11,eo11⟩:=Kd.R_slice HO112.out;subst eo11)|((with_reducible refine gate_dst (N:=17) rfl ?_);(try (refine gate_guard (by rfl) ?_;dsimp only));refine Kd.R_lit Kd.string _ 9 ?hg (N:=17) ?hd (xs:=([(⟨#[105,102]⟩:ByteArray),(⟨#[105,102,100,101,102]⟩:ByteArray),(⟨#[105,102,110,100,101,102]⟩:ByteArray),(⟨#[101,108,105,102]⟩:ByteArray),(⟨#[101,108,115,101]⟩:ByteArray),(⟨#[101,110,100,105,102]⟩:ByteArray),(⟨#[100,101,102,105,110,101]⟩:ByteArray),(⟨#[117,110,100,101,102]⟩:ByteArray),(⟨#[105,110,99,108,117,100,101]⟩:ByteArray)]:List ByteArray)) (inner:=[.string (⟨#[105,102]⟩:ByteArray),.string (⟨#[105,102,100,101,102]⟩:ByteArray),.string (⟨#[105,102,110,100,101,102]⟩:ByteArray),.string (⟨#[101,108,105,102]⟩:ByteArray),.string (⟨#[101,108,115,101]⟩:ByteArray),.string (⟨#[101,110,100,105,102]⟩:ByteArray),.string (⟨#[100,101,102,105,110,101]⟩:ByteArray),.string (⟨#[117,110,100,101,102]⟩:ByteArray),.string (⟨#[105,110,99,108,117,100,101]⟩:ByteArray)]) (ok:=fun _=>True) (okp:=fun _=>True) ?hr ?hp (fun _ hk=>hk) trivial (Below.refl _ _) (Nat.le_refl _) (by simp) ?_;(case hd=>rfl);(case hg=>rfl);(case hr=>first|(go_simp;done)|(go_simp;rfl));(case hp=>exact (Reps.one (show Kd.M Kd.string _ _ _ (⟨#[105,102]⟩:ByteArray) [.string (⟨#[105,102]⟩:ByteArray)] from rfl) (Reps.one (show Kd.M Kd.string _ _ _ (⟨#[105,102,100,101,102]⟩:ByteArray) [.string (⟨#[105,102,100,101,102]⟩:ByteArray)] from rfl) (Reps.one (show Kd.M Kd.string _ _ _ (⟨#[105,102,110,100,101,102]⟩:ByteArray) [.string (⟨#[105,102,110,100,101,102]⟩:ByteArray)] from rfl) (Reps.one (show Kd.M Kd.string _ _ _ (⟨#[101,108,105,102]⟩:ByteArray) [.string (⟨#[101,108,105,102]⟩:ByteArray)] from rfl) (Reps.one (show Kd.M Kd.string _ _ _ (⟨#[101,108,115,101]⟩:ByteArray) [.string (⟨#[101,108,115,101]⟩:ByteArray)] from rfl) (Reps.one (show Kd.M Kd.string _ _ _ (⟨#[101,110,100,105,102]⟩:ByteArray) [.string (⟨#[101,110,100,105,102]⟩:ByteArray)] from rfl) (Reps.one (show Kd.M Kd.string _ _ _ (⟨#[100,101,102,105,110,101]⟩:ByteArray) [.string (⟨#[100,101,102,105,110,101]⟩:ByteArray)] from rfl) (Reps.one (show Kd.M Kd.string _ _ _ (⟨#[117,110,100,101,102]⟩:ByteArray) [.string (⟨#[117,110,100,101,102]⟩:ByteArray)] from rfl) (Reps.one (show Kd.M Kd.string _ _ _ (⟨#[105,110,99,108,117,100,101]⟩:ByteArray) [.string (⟨#[105,110,99,108,117,100,101]⟩:ByteArray)] from rfl) (Reps.none _ _)))))))))));intro v115 w12 ho13 hb hg_ hnew_;clear hg_ hnew_;(first|rw [←Ny114.out] at ho13|(simp only [Int.reduceToNat] at ho13;rw [←Ny114.out] at ho13));have n0_:=z0 (Kd.R_below (by (with_reducible repeat (first|apply Kd.R_alloc|apply Kd.R_drewN|apply Kd.R_drew));exact HO112.out) hb);have n1_:=z0 (Kd.R_lower ho13 (below_size zw));have n2_:=z0 (blk_below (g:=gb109) (o:= .cells #[.int .i64 a0_0,.string a0_1,.string a0_2,.int .i64 a0_3] 95 (0,0)) (by (with_reducible repeat (first|refine blk_drewN ?_ _|refine blk_drew ?_|refine blk_alloc ?_ _));exact BK109.out) hb);have n3_:=z0 (below_step zw hb);revert n0_ n1_ n2_ n3_;clear HO112 BK109 HB;intro HO112 HO116 BK109 HB;clear hb ho13;have p117:0≤(0:Int):=(by omega);have q117:0<(t110.length:Int):=of_decide_eq_true (by first|(with_reducible assumption)|assumption);obtain ⟨ad117,e117,hx117_0,hx117_1,hx117_2,hx117_3⟩:=at_T95 (Kd.R_reads' HO112.out).2.2 0 p117 q117;cases e117;have qi117:(0<t110.length)=True:=eq_true (by omega);(try rw [show ((0:Int)).toNat=0 from rfl] at hx117_0);(try rw [show 0*4=0 from rfl] at hx117_0);(try rw [Addr.add_zero'] at hx117_0);(try rw [show ((0:Int)).toNat=0 from rfl] at hx117_1);(try rw [show 0*4=0 from rfl] at hx117_1);(try rw [Addr.add_zero'] at hx117_1);(try rw [show ((0:Int)).toNat=0 from rfl] at hx117_2);(try rw [show 0*4=0 from rfl] at hx117_2);(try rw [Addr.add_zero'] at hx117_2);(try rw [show ((0:Int)).toNat=0 from rfl] at hx117_3);(try rw [show 0*4=0 from rfl] at hx117_3);(try rw [Addr.add_zero'] at hx117_3);replace p117:=eq_true p117;replace q117:=eq_true q117;obtain ⟨Ao14,co14,eo14⟩:=Kd.R_slice HO116.out;subst eo14)|(go_at_call 28;(with_reducible refine (slices_Contains_string_string.calls k _ _ y114 ((rd_T95 t110 0).f2) true _ ?side1 ?side2 A6.out).mono ?_);(case side1=>repeat (first|exact (Kd.R_reads' HO116.out).2.2|(with_reducible refine Kd.C_alloc ?_ _)|(with_reducible refine Kd.C_drewN ?_ _)|(with_reducible refine Kd.C_drew ?_)));(case side2=>exact (Kd.R_reads' HO116.out).2.1);rintro e w' ⟨rfl,⟨nd,rfl⟩⟩;have p119:0≤(0:Int):=(by omega);have q119:0<(t110.length:Int):=of_decide_eq_true (by first|(with_reducible assumption)|assumption);obtain ⟨ad119,e119,hx119_0,hx119_1,hx119_2,hx119_3⟩:=at_T95 (Kd.R_reads' HO112.out).2.2 0 p119 q119;obtain rfl:ad117=ad119:=(by injection e119);have qi119:(0<t110.length)=True:=eq_true (by omega);(try rw [show ((0:Int)).toNat=0 from rfl] at hx119_0);(try rw [show 0*4=0 from rfl] at hx119_0);(try rw [Addr.add_zero'] at hx119_0);(try rw [show ((0:Int)).toNat=0 from rfl] at hx119_1);(try rw [show 0*4=0 from rfl] at hx119_1);(try rw [Addr.add_zero'] at hx119_1);(try rw [show ((0:Int)).toNat=0 from rfl] at hx119_2);(try rw [show 0*4=0 from rfl] at hx119_2);(try rw [Addr.add_zero'] at hx119_2);(try rw [show ((0:Int)).toNat=0 from rfl] at hx119_3);(try rw [show 0*4=0 from rfl] at hx119_3);(try rw [Addr.add_zero'] at hx119_3);replace p119:=eq_true p119;replace q119:=eq_true q119))
         go_ret
         exact ⟨zv,zw⟩
       · replace c7:=Bool.eq_false_iff.mpr c7
         subst c7
         rw [if_neg nofun] at H
         obtain rfl:=Option.some.inj H
         go_enter Tryz.func67,Tryz.ntmps67
         go_wp2_with (first|((with_reducible refine gate_dst (N:=1) rfl ?_);(try (refine gate_guard (by rfl) ?_;dsimp only));refine box_event ?hg (N:=1) ?hd (cs:= #[.int .i64 a0_0,.string a0_1,.string a0_2,.int .i64 a0_3]) (t:=95) ?hr ?_;(case hd=>rfl);(case hg=>rfl);(case hr=>first|(go_simp;done)|(go_simp;rfl));intro gb109 hg w15 hbox hb;have n0_:=z0 (below_step zw hb);have n1_:=z0 (hbox);have n2_:=z0 ((by rw [hg];exact (below_size zw):w.heap.size≤gb109));have n3_:=z0 ((by rw [hg];exact (below_size zw):w.heap.size≤gb109));revert n0_ n1_ n2_ n3_;clear HB;intro HB BK109 GW109 GE109;clear hb hbox hg;have hcz16_0:w15.cell? ⟨gb109,0,none⟩=some (.int .i64 a0_0):=(blk_cell BK109.out 0).trans rfl;have hcz16_1:w15.cell? ⟨gb109,1,none⟩=some (.string a0_1):=(blk_cell BK109.out 1).trans rfl;have hcz16_2:w15.cell? ⟨gb109,2,none⟩=some (.string a0_2):=(blk_cell BK109.out 2).trans rfl;have hcz16_3:w15.cell? ⟨gb109,3,none⟩=some (.int .i64 a0_3):=(blk_cell BK109.out 3).trans rfl;have hfz16_0:=blk_frozen BK109.out 0;have hfz16_1:=blk_frozen BK109.out 1;have hfz16_2:=blk_frozen BK109.out 2;have hfz16_3:=blk_frozen BK109.out 3)|(refine zc 10 rfl Tryz.func70 #[.agg #[.int .i64 a0_0,.string a0_1,.string a0_2,.int .i64 a0_3]] ?_;(with_reducible refine (cond_Words.calls a0_0 a0_1 a0_2 a0_3 t110 t113 _ A3.out (by first|exact hG_|exact hG_.below zw)).mono ?_);rintro e w17 ⟨v111,rfl,ho0,hb⟩;refine ⟨_,rfl,?_⟩;have n0_:=z0 (Kd.R_lower (Kd.R_newB ho0 (g:=gb109) (o:= .cells #[.int .i64 a0_0,.string a0_1,.string a0_2,.int .i64 a0_3] 95 (0,0)) (by (with_reducible repeat (first|refine blk_drewN ?_ _|refine blk_drew ?_|refine blk_alloc ?_ _));exact BK109.out)) (below_size zw));have n1_:=z0 (blk_below (g:=gb109) (o:= .cells #[.int .i64 a0_0,.string a0_1,.string a0_2,.int .i64 a0_3] 95 (0,0)) (by (with_reducible repeat (first|refine blk_drewN ?_ _|refine blk_drew ?_|refine blk_alloc ?_ _));exact BK109.out) hb);have n2_:=z0 (below_step zw hb);revert n0_ n1_ n2_;clear BK109 HB;intro HO112 BK109 HB;(try clear hb);(try clear hk);(try clear hi);(try clear ho0);obtain ⟨Ao18,co18,eo18⟩:=Kd.R_slice HO112.out;subst eo18)|((with_reducible refine gate_dst (N:=17) rfl ?_);(try (refine gate_guard (by rfl) ?_;dsimp only));refine Kd.R_lit Kd.string _ 9 ?hg (N:=17) ?hd (xs:=([(⟨#[105,102]⟩:ByteArray),(⟨#[105,102,100,101,102]⟩:ByteArray),(⟨#[105,102,110,100,101,102]⟩:ByteArray),(⟨#[101,108,105,102]⟩:ByteArray),(⟨#[101,108,115,101]⟩:ByteArray),(⟨#[101,110,100,105,102]⟩:ByteArray),(⟨#[100,101,102,105,110,101]⟩:ByteArray),(⟨#[117,110,100,101,102]⟩:ByteArray),(⟨#[105,110,99,108,117,100,101]⟩:ByteArray)]:List ByteArray)) (inner:=[.string (⟨#[105,102]⟩:ByteArray),.string (⟨#[105,102,100,101,102]⟩:ByteArray),.string (⟨#[105,102,110,100,101,102]⟩:ByteArray),.string (⟨#[101,108,105,102]⟩:ByteArray),.string (⟨#[101,108,115,101]⟩:ByteArray),.string (⟨#[101,110,100,105,102]⟩:ByteArray),.string (⟨#[100,101,102,105,110,101]⟩:ByteArray),.string (⟨#[117,110,100,101,102]⟩:ByteArray),.string (⟨#[105,110,99,108,117,100,101]⟩:ByteArray)]) (ok:=fun _=>True) (okp:=fun _=>True) ?hr ?hp (fun _ hk=>hk) trivial (Below.refl _ _) (Nat.le_refl _) (by simp) ?_;(case hd=>rfl);(case hg=>rfl);(case hr=>first|(go_simp;done)|(go_simp;rfl));(case hp=>exact (Reps.one (show Kd.M Kd.string _ _ _ (⟨#[105,102]⟩:ByteArray) [.string (⟨#[105,102]⟩:ByteArray)] from rfl) (Reps.one (show Kd.M Kd.string _ _ _ (⟨#[105,102,100,101,102]⟩:ByteArray) [.string (⟨#[105,102,100,101,102]⟩:ByteArray)] from rfl) (Reps.one (show Kd.M Kd.string _ _ _ (⟨#[105,102,110,100,101,102]⟩:ByteArray) [.string (⟨#[105,102,110,100,101,102]⟩:ByteArray)] from rfl) (Reps.one (show Kd.M Kd.string _ _ _ (⟨#[101,108,105,102]⟩:ByteArray) [.string (⟨#[101,108,105,102]⟩:ByteArray)] from rfl) (Reps.one (show Kd.M Kd.string _ _ _ (⟨#[101,108,115,101]⟩:ByteArray) [.string (⟨#[101,108,115,101]⟩:ByteArray)] from rfl) (Reps.one (show Kd.M Kd.string _ _ _ (⟨#[101,110,100,105,102]⟩:ByteArray) [.string (⟨#[101,110,100,105,102]⟩:ByteArray)] from rfl) (Reps.one (show Kd.M Kd.string _ _ _ (⟨#[100,101,102,105,110,101]⟩:ByteArray) [.string (⟨#[100,101,102,105,110,101]⟩:ByteArray)] from rfl) (Reps.one (show Kd.M Kd.string _ _ _ (⟨#[117,110,100,101,102]⟩:ByteArray) [.string (⟨#[117,110,100,101,102]⟩:ByteArray)] from rfl) (Reps.one (show Kd.M Kd.string _ _ _ (⟨#[105,110,99,108,117,100,101]⟩:ByteArray) [.string (⟨#[105,110,99,108,117,100,101]⟩:ByteArray)] from rfl) (Reps.none _ _)))))))))));intro v115 w19 ho20 hb hg_ hnew_;clear hg_ hnew_;(first|rw [←Ny114.out] at ho20|(simp only [Int.reduceToNat] at ho20;rw [←Ny114.out] at ho20));have n0_:=z0 (Kd.R_below (by (with_reducible repeat (first|apply Kd.R_alloc|apply Kd.R_drewN|apply Kd.R_drew));exact HO112.out) hb);have n1_:=z0 (Kd.R_lower ho20 (below_size zw));have n2_:=z0 (blk_below (g:=gb109) (o:= .cells #[.int .i64 a0_0,.string a0_1,.string a0_2,.int .i64 a0_3] 95 (0,0)) (by (with_reducible repeat (first|refine blk_drewN ?_ _|refine blk_drew ?_|refine blk_alloc ?_ _));exact BK109.out) hb);have n3_:=z0 (below_step zw hb);revert n0_ n1_ n2_ n3_;clear HO112 BK109 HB;intro HO112 HO116 BK109 HB;clear hb ho20;have p117:0≤(0:Int):=(by omega);have q117:0<(t110.length:Int):=of_decide_eq_true (by first|(with_reducible assumption)|assumption);obtain ⟨ad117,e117,hx117_0,hx117_1,hx117_2,hx117_3⟩:=at_T95 (Kd.R_reads' HO112.out).2.2 0 p117 q117;cases e117;have qi117:(0<t110.length)=True:=eq_true (by omega);(try rw [show ((0:Int)).toNat=0 from rfl] at hx117_0);(try rw [show 0*4=0 from rfl] at hx117_0);(try rw [Addr.add_zero'] at hx117_0);(try rw [show ((0:Int)).toNat=0 from rfl] at hx117_1);(try rw [show 0*4=0 from rfl] at hx117_1);(try rw [Addr.add_zero'] at hx117_1);(try rw [show ((0:Int)).toNat=0 from rfl] at hx117_2);(try rw [show 0*4=0 from rfl] at hx117_2);(try rw [Addr.add_zero'] at hx117_2);(try rw [show ((0:Int)).toNat=0 from rfl] at hx117_3);(try rw [show 0*4=0 from rfl] at hx117_3);(try rw [Addr.add_zero'] at hx117_3);replace p117:=eq_true p117;replace q117:=eq_true q117;obtain ⟨Ao21,co21,eo21⟩:=Kd.R_slice HO116.out;subst eo21)|(go_at_call 28;(with_reducible refine (slices_Contains_string_string.calls k _ _ y114 ((rd_T95 t110 0).f2) false _ ?side1 ?side2 A6.out).mono ?_);(case side1=>repeat (first|exact (Kd.R_reads' HO116.out).2.2|(with_reducible refine Kd.C_alloc ?_ _)|(with_reducible refine Kd.C_drewN ?_ _)|(with_reducible refine Kd.C_drew ?_)));(case side2=>exact (Kd.R_reads' HO116.out).2.1);rintro e w' ⟨rfl,⟨nd,rfl⟩⟩))
         go_ret
         exact ⟨zv,zw⟩
     · rw [if_neg c5] at H
       cases H
   · rw [if_neg c4] at H
     have c4b0:decide (0<(t110.length:Int))=false:=decide_eq_false c4
     have c4b1:decide (0<t110.length)=false:=decide_eq_false (by omega)
     clear c4
     obtain rfl:=Option.some.inj H
     go_enter Tryz.func67,Tryz.ntmps67
     go_wp2_with (first|((with_reducible refine gate_dst (N:=1) rfl ?_);(try (refine gate_guard (by rfl) ?_;dsimp only));refine box_event ?hg (N:=1) ?hd (cs:= #[.int .i64 a0_0,.string a0_1,.string a0_2,.int .i64 a0_3]) (t:=95) ?hr ?_;(case hd=>rfl);(case hg=>rfl);(case hr=>first|(go_simp;done)|(go_simp;rfl));intro gb109 hg w22 hbox hb;have n0_:=z0 (below_step zw hb);have n1_:=z0 (hbox);have n2_:=z0 ((by rw [hg];exact (below_size zw):w.heap.size≤gb109));have n3_:=z0 ((by rw [hg];exact (below_size zw):w.heap.size≤gb109));revert n0_ n1_ n2_ n3_;clear HB;intro HB BK109 GW109 GE109;clear hb hbox hg;have hcz23_0:w22.cell? ⟨gb109,0,none⟩=some (.int .i64 a0_0):=(blk_cell BK109.out 0).trans rfl;have hcz23_1:w22.cell? ⟨gb109,1,none⟩=some (.string a0_1):=(blk_cell BK109.out 1).trans rfl;have hcz23_2:w22.cell? ⟨gb109,2,none⟩=some (.string a0_2):=(blk_cell BK109.out 2).trans rfl;have hcz23_3:w22.cell? ⟨gb109,3,none⟩=some (.int .i64 a0_3):=(blk_cell BK109.out 3).trans rfl;have hfz23_0:=blk_frozen BK109.out 0;have hfz23_1:=blk_frozen BK109.out 1;have hfz23_2:=blk_frozen BK109.out 2;have hfz23_3:=blk_frozen BK109.out 3)|(refine zc 10 rfl Tryz.func70 #[.agg #[.int .i64 a0_0,.string a0_1,.string a0_2,.int .i64 a0_3]] ?_;(with_reducible refine (cond_Words.calls a0_0 a0_1 a0_2 a0_3 t110 t113 _ A3.out (by first|exact hG_|exact hG_.below zw)).mono ?_);rintro e w24 ⟨v111,rfl,ho0,hb⟩;refine ⟨_,rfl,?_⟩;have n0_:=z0 (Kd.R_lower (Kd.R_newB ho0 (g:=gb109) (o:= .cells #[.int .i64 a0_0,.string a0_1,.string a0_2,.int .i64 a0_3] 95 (0,0)) (by (with_reducible repeat (first|refine blk_drewN ?_ _|refine blk_drew ?_|refine blk_alloc ?_ _));exact BK109.out)) (below_size zw));have n1_:=z0 (blk_below (g:=gb109) (o:= .cells #[.int .i64 a0_0,.string a0_1,.string a0_2,.int .i64 a0_3] 95 (0,0)) (by (with_reducible repeat (first|refine blk_drewN ?_ _|refine blk_drew ?_|refine blk_alloc ?_ _));exact BK109.out) hb);have n2_:=z0 (below_step zw hb);revert n0_ n1_ n2_;clear BK109 HB;intro HO112 BK109 HB;(try clear hb);(try clear hk);(try clear hi);(try clear ho0);obtain ⟨Ao25,co25,eo25⟩:=Kd.R_slice HO112.out;subst eo25))
     go_ret
     exact ⟨zv,zw⟩
 · obtain rfl:=Option.some.inj H
   go_enter Tryz.func67,Tryz.ntmps67
   go_wp2_with (first|((with_reducible refine gate_dst (N:=1) rfl ?_);(try (refine gate_guard (by rfl) ?_;dsimp only));refine box_event ?hg (N:=1) ?hd (cs:= #[.int .i64 a0_0,.string a0_1,.string a0_2,.int .i64 a0_3]) (t:=95) ?hr ?_;(case hd=>rfl);(case hg=>rfl);(case hr=>first|(go_simp;done)|(go_simp;rfl));intro gb109 hg w26 hbox hb;have n0_:=z0 (below_step zw hb);have n1_:=z0 (hbox);have n2_:=z0 ((by rw [hg];exact (below_size zw):w.heap.size≤gb109));have n3_:=z0 ((by rw [hg];exact (below_size zw):w.heap.size≤gb109));revert n0_ n1_ n2_ n3_;clear HB;intro HB BK109 GW109 GE109;clear hb hbox hg;have hcz27_0:w26.cell? ⟨gb109,0,none⟩=some (.int .i64 a0_0):=(blk_cell BK109.out 0).trans rfl;have hcz27_1:w26.cell? ⟨gb109,1,none⟩=some (.string a0_1):=(blk_cell BK109.out 1).trans rfl;have hcz27_2:w26.cell? ⟨gb109,2,none⟩=some (.string a0_2):=(blk_cell BK109.out 2).trans rfl;have hcz27_3:w26.cell? ⟨gb109,3,none⟩=some (.int .i64 a0_3):=(blk_cell BK109.out 3).trans rfl;have hfz27_0:=blk_frozen BK109.out 0;have hfz27_1:=blk_frozen BK109.out 1;have hfz27_2:=blk_frozen BK109.out 2;have hfz27_3:=blk_frozen BK109.out 3))
   go_ret
   exact ⟨zv,zw⟩
def cond_opens.f (a0:ByteArray):Option (Bool):=if a0.toList=([105,102]:List UInt8) then (some true) else (if a0.toList=([105,102,100,101,102]:List UInt8) then (some true) else (some (a0.toList==([105,102,110,100,101,102]:List UInt8))))
theorem cond_opens.calls (a0:ByteArray)(r:Bool)(w:World)(h:cond_opens.f a0=some r):
 Calls Tryz.prog 68 #[.string a0] w fun e w'=>e= .returned (.bool r)∧Drawn0 w w':=by
 have H:=h
 clear h
 unfold cond_opens.f at H
 replace H:=zE H
 rcases H with ⟨c2b0,c2b1,H⟩|⟨c2b0,c2b1,H⟩
 · obtain rfl:=Option.some.inj H
   go_enter Tryz.func68,Tryz.ntmps68
   go_wp2
   go_ret
   exact ⟨zr,zq⟩
 · replace H:=zE H
   rcases H with ⟨c3b0,c3b1,H⟩|⟨c3b0,c3b1,H⟩
   · obtain rfl:=Option.some.inj H
     go_enter Tryz.func68,Tryz.ntmps68
     go_wp2
     go_ret
     exact ⟨zr,zq⟩
   · obtain rfl:=Option.some.inj H
     go_enter Tryz.func68,Tryz.ntmps68
     go_wp2
     go_ret
     exact ⟨zr,zq⟩
end Go.Proofs.YtolaiebjmhieiaaGreatDoor.OCond
end
section
namespace Go.Proofs.YtolaiebjmhieiaaGreatDoor.OScan
open Go.RowKit YtolaiebjmhieiaaGreatDoorW.PrintWords YtolaiebjmhieiaaGreatDoorW.PrintLast YtolaiebjmhieiaaGreatDoorW.PrintMore
abbrev Gr:=List Int × Int × Int × Int
abbrev Ope:=Nat × Int × Bool
abbrev kGr:Kd Gr:=Kd.pair (Kd.slice 3 (Kd.int .i64)) (Kd.pair (Kd.int .i64) (Kd.pair (Kd.int .i64) (Kd.int .i64)))
def Chain (w:World)(base:Nat):Nat→Value→List Ope→Prop
 |_,p,[]=>p= .pointer none
 |N,p,x::st=>∃g q,p= .pointer (some ⟨g,0,none⟩)∧base≤g∧g<N∧w.heap[g]? =some (.cells #[.int .i64 x.1,.int .i64 x.2.1,.bool x.2.2,q] 136 (0,0))∧Chain w base g q st
theorem Chain.step {w w1:World}{base:Nat}:∀{st:List Ope} {N N':Nat} {p:Value},Chain w base N p st→N≤N'→(∀k,base≤k→k<N→(∃c,w.heap[k]? =some (.cells c 136 (0,0)))→w1.heap[k]? =w.heap[k]?)→Chain w1 base N' p st
 |[],_,_,_,h,_,_=>h
 |x::st,N,N',p,⟨g,q,e,h1,h2,h3,h4⟩,hN,hk=>⟨g,q,e,h1,by omega,(hk g h1 h2 ⟨_,h3⟩).trans h3,h4.step (Nat.le_refl _) (fun k a b c=>hk k a (by omega) c)⟩
structure FS (base F:Nat)(w:World)(v p:Value)(gs:List Gr)(st:List Ope):Prop where
 hF:base≤F
 hc:w.heap[F]? =some (.cells #[v,p] 131 (0,0))
 hgs:Kd.S kGr 134 w base (fun _=>True) v gs
 hst:Chain w base w.heap.size p st
 wf:∀x∈st,x.1<gs.length
def beginF (at_:Int)(gs:List Gr)(st:List Ope):List Gr × List Ope:=
 (gs++[([at_],0,(match st with|[]=> -1|x::_=>(x.1:Int)),(match st with|[]=>0|x::_=>x.2.1))],(gs.length,0,false)::st)
theorem line_own {w:World}{base L:Nat}{a:Int}(h:w.heap[L]? =some (.cells #[Value.int IntKind.i64 a] 3 (0,0)))(hb:base≤L):
 Kd.R (Kd.int .i64) 3 w base (fun k=>k=L) (.slice (some ⟨L,0,none⟩) 1 1) [a]:=by
 exact Kd.R_of_own (enc:=Value.int .i64) (h1:=fun _=>rfl) ⟨rfl,.inr ⟨L,1,#[Value.int IntKind.i64 a],rfl,hb,h,Nat.le_refl _,by decide,rfl,rfl⟩⟩ (fun k hk=>by simpa [Value.ownBlock] using hk.symm)
theorem begin_end {base F O:Nat}{w W3 w6:World}{v p v1:Value}{gs:List Gr}{st:List Ope}{x:Gr}(HF:FS base F w v p gs st)
 (hF3:W3.heap[F]? =some (.cells #[v,.pointer (some ⟨O,0,none⟩)] 131 (0,0))) (hO3:W3.heap[O]? =some (.cells #[.int .i64 gs.length,.int .i64 0,.bool false,p] 136 (0,0)))
 (hO:w.heap.size≤O) (hk3:∀k,k<w.heap.size→k≠F→W3.heap[k]? =w.heap[k]?) (hs3:w.heap.size≤W3.heap.size)
 (ho:Kd.S kGr 134 w6 base (fun _=>True) v1 (gs++[x])) (hg:World.grownBy W3.drew w6 v.ownBlock):
 FS base F (w6.setCell ⟨F,0,none⟩ v1) v1 (.pointer (some ⟨O,0,none⟩)) (gs++[x]) ((gs.length,0,false)::st):=by
 have hFF:=HF.hc
 have hFl:=blk_lt hFF
 have hnF:some F≠v.ownBlock:=Kd.S_ne HF.hgs hFF (by decide)
 have hF6:w6.heap[F]? =some (.cells #[v,.pointer (some ⟨O,0,none⟩)] 131 (0,0)):=(hg.block F (blk_lt hF3) hnF).trans hF3
 have hlt:∀k,v.ownBlock=some k→k<w.heap.size:=Kd.S_lt HF.hgs
 have hty:∀k,v.ownBlock=some k→∃cells,w.heap[k]? =some (.cells cells 134 (0,0)):=Kd.S_typed HF.hgs
 have hO6:w6.heap[O]? =some (.cells #[.int .i64 gs.length,.int .i64 0,.bool false,p] 136 (0,0)):=(hg.block O (blk_lt hO3) (fun e=>by have:=hlt O e.symm;omega)).trans hO3
 refine ⟨HF.hF,blk_put hF6 0 _ rfl,Kd.S_set ho hF6 (by decide) 0 _,⟨O,p,rfl,by have:=HF.hF;omega,by have:=blk_lt hO6;simpa using this,blk_far hO6 (by show O≠F;omega) _,?_⟩,?_⟩
 · refine HF.hst.step hO (fun k h1 h2 h3=> ?_)
   obtain ⟨c,h3⟩:=h3
   have hkF:k≠F:=by
    rintro rfl
    rw [hFF] at h3
    injection h3 with h3
    injection h3 with _ h3
    exact absurd h3 (by decide)
   have hkv:some k≠v.ownBlock:=fun e=>by
    obtain ⟨c',h4⟩:=hty k e.symm
    rw [h4] at h3
    injection h3 with h3
    injection h3 with _ h3
    exact absurd h3 (by decide)
   exact (Below.heap_setCell w6 ⟨F,0,none⟩ _ k hkF).trans ((hg.block k (show k<W3.heap.size by omega) hkv).trans (hk3 k h2 hkF))
 · intro y hy
   rw [List.length_append,List.length_singleton]
   rcases List.mem_cons.1 hy with rfl|hy
   · show gs.length<_;omega
   · have:=HF.wf y hy;omega
theorem begin_nil (at_:Int)(base F:Nat)(w0 w:World)(v:Value)(gs:List Gr)(HF:FS base F w v (.pointer none) gs [])(HB:Below base w0 w)(hl:gs.length≤1000000):
 Calls Tryz.prog 125 #[.pointer (some ⟨F,0,none⟩),.int .i64 at_] w fun e w'=>e= .returned (.tuple #[])∧∃v' p',FS base F w' v' p' (beginF at_ gs []).1 (beginF at_ gs []).2∧Below base w0 w':=by
 have hFF:=HF.hc
 have hFl:=blk_lt hFF
 have hg0:w.cell? ⟨F,0,none⟩=some v:=by have:=cell_of_row w F 0 _ _ _ hFF;simpa using this
 have hg1:w.cell? ⟨F,1,none⟩=some (.pointer none):=by have:=cell_of_row w F 1 _ _ _ hFF;simpa using this
 obtain ⟨A0,c0,rfl⟩:=Kd.S_slice HF.hgs
 go_enter Tryz.func125,Tryz.ntmps125
 go_wp2
 obtain ⟨W1,hW1⟩:∃W1,W1=((w.alloc (Obj.cells #[Value.int IntKind.i64 at_] 3)).alloc (Obj.cells #[Value.slice (some {block:=w.heap.size,off:=0}) 1 1,Value.int IntKind.i64 0,Value.int IntKind.i64 (-1),Value.int IntKind.i64 0] 134)):=⟨_,rfl⟩
 rw [←hW1]
 have hB1:Below w.heap.size w W1:=by rw [hW1];exact below_alloc (below_alloc (Below.refl _ _) _) _
 have hs1:W1.heap.size=w.heap.size+2:=by rw [hW1,alloc_size,alloc_size]
 obtain ⟨G,hG⟩:∃G,G=w.heap.size+1:=⟨_,rfl⟩
 rw [←hG]
 have hGc:W1.heap[G]? =some (.cells #[Value.slice (some {block:=w.heap.size,off:=0}) 1 1,Value.int IntKind.i64 0,Value.int IntKind.i64 (-1),Value.int IntKind.i64 0] 134 (0,0)):=by
  rw [hW1,hG,←alloc_size w (Obj.cells #[Value.int IntKind.i64 at_] 3)]
  exact blk_new _ _
 have hLc:W1.heap[w.heap.size]? =some (.cells #[Value.int IntKind.i64 at_] 3 (0,0)):=by
  rw [hW1,Below.heap_alloc _ _ _ (by rw [alloc_size];omega)]
  exact blk_new _ _
 clear hW1
 have HG_:=z0 hG
 have HS1:=z0 hs1
 clear hG
 have k0:W1.cell? ⟨F,0,none⟩=some (.slice A0 gs.length c0):=(hB1.cell hFl).trans hg0
 have k1:W1.cell? ⟨F,1,none⟩=some (.pointer none):=(hB1.cell hFl).trans hg1
 have o1:(W1.alloc (Obj.cells #[Value.int IntKind.i64 (gs.length:Int),Value.int IntKind.i64 0,Value.bool false,Value.pointer none] 136)).heap[F]? =some (.cells #[.slice A0 gs.length c0,.pointer none] 131 (0,0)):=blk_alloc ((hB1.block F hFl).trans hFF) _
 have q1:(W1.alloc (Obj.cells #[Value.int IntKind.i64 (gs.length:Int),Value.int IntKind.i64 0,Value.bool false,Value.pointer none] 136)).cell? ⟨F,1,none⟩=some (.pointer none):=by have:=cell_of_row _ F 1 _ _ _ o1;simpa using this
 have q2:=blk_frozen o1 1
 go_region
 obtain ⟨W2,hW2⟩:∃W2,W2=W1.alloc (Obj.cells #[Value.int IntKind.i64 (gs.length:Int),Value.int IntKind.i64 0,Value.bool false,Value.pointer none] 136):=⟨_,rfl⟩
 rw [←hW2]
 have hO2:W2.heap[w.heap.size+2]? =some (.cells #[Value.int IntKind.i64 (gs.length:Int),Value.int IntKind.i64 0,Value.bool false,Value.pointer none] 136 (0,0)):=by rw [hW2,←hs1];exact blk_new _ _
 obtain ⟨O,hO⟩:∃O,O=w.heap.size+2:=⟨_,rfl⟩
 rw [←hO] at hO2 ⊢
 have HO_:=z0 hO
 clear hO
 have hF2:W2.heap[F]? =some (.cells #[.slice A0 gs.length c0,.pointer none] 131 (0,0)):=by rw [hW2];exact o1
 have hG2:=blk_alloc hGc (Obj.cells #[Value.int IntKind.i64 (gs.length:Int),Value.int IntKind.i64 0,Value.bool false,Value.pointer none] 136)
 have hL2:=blk_alloc hLc (Obj.cells #[Value.int IntKind.i64 (gs.length:Int),Value.int IntKind.i64 0,Value.bool false,Value.pointer none] 136)
 rw [←hW2] at hG2 hL2
 have hB2:Below w.heap.size w W2:=by rw [hW2];exact below_alloc hB1 _
 have hs2:W2.heap.size=w.heap.size+3:=by rw [hW2,alloc_size,hs1]
 have hS2:Kd.S kGr 134 W2 base (fun k=>True∧¬k=w.heap.size) (.slice A0 gs.length c0) gs:=Kd.S_below (Kd.S_mono (Kd.S_bound HF.hgs) (fun k hk=>⟨trivial,by have:=hk.2.2.1;omega⟩)) hB2
 clear o1 q1 q2 hW2 k0 k1
 obtain ⟨W3,hW3⟩:∃W3,W3=(W2.setCell ⟨F,1,none⟩ (.pointer (some ⟨O,0,none⟩))).drew:=⟨_,rfl⟩
 rw [←hW3]
 have hF3:W3.heap[F]? =some (.cells #[.slice A0 gs.length c0,.pointer (some ⟨O,0,none⟩)] 131 (0,0)):=by rw [hW3];exact blk_drew (blk_put hF2 1 _ rfl)
 have hO3:W3.heap[O]? =some (.cells #[Value.int IntKind.i64 (gs.length:Int),Value.int IntKind.i64 0,Value.bool false,Value.pointer none] 136 (0,0)):=by rw [hW3];exact blk_drew (blk_far hO2 (by show O≠F;have:=HO_.out;omega) _)
 have hG3:=blk_drew (blk_far (p:=⟨F,1,none⟩) hG2 (by show G≠F;have:=HG_.out;omega) (.pointer (some ⟨O,0,none⟩)))
 have hL3:=blk_drew (blk_far (p:=⟨F,1,none⟩) hL2 (by show w.heap.size≠F;omega) (.pointer (some ⟨O,0,none⟩)))
 rw [←hW3] at hG3 hL3
 have hS3:Kd.S kGr 134 W3 base (fun k=>True∧¬k=w.heap.size) (.slice A0 gs.length c0) gs:=by
  rw [hW3];exact Kd.S_drew (Kd.S_set hS2 hF2 (by decide) 1 _)
 have hs3:W3.heap.size=w.heap.size+3:=by rw [hW3];show (W2.setCell _ _).heap.size=_;simp;exact hs2
 have hB3:Below base w0 W3:=by rw [hW3];exact below_drew ((HB.trans ⟨hB2.os,hB2.tape,hB2.output,hB2.size,fun k hk=>hB2.block k (by have:=HF.hF;omega)⟩).setCell HF.hF _)
 have hk3:∀k,k<w.heap.size→k≠F→W3.heap[k]? =w.heap[k]? :=fun k hk hn=>by rw [hW3];exact (Below.heap_setCell W2 ⟨F,1,none⟩ _ k hn).trans (hB2.block k hk)
 have HS3:=z0 hs3
 have HS_3:=z0 hS3
 have HK3:=z0 hk3
 have HB3:=z0 hB3
 clear hW3 hs3 hs1 HS1 hS3 hk3 hB3 hS2 hL2 hG2 hO2 hF2 hB2 hs2
 have g0:W3.drew.cell? ⟨F,0,none⟩=some (.slice A0 gs.length c0):=by have:=cell_of_row _ F 0 _ _ _ (blk_drew hF3);simpa using this
 have g2:W3.drew.cell? ⟨G,0,none⟩=some (Value.slice (some {block:=w.heap.size,off:=0}) 1 1):=by have:=cell_of_row _ G 0 _ _ _ (blk_drew hG3);simpa using this
 have g3:W3.drew.cell? ⟨G,1,none⟩=some (.int .i64 0):=by have:=cell_of_row _ G 1 _ _ _ (blk_drew hG3);simpa using this
 have g4:W3.drew.cell? ⟨G,2,none⟩=some (.int .i64 (-1)):=by have:=cell_of_row _ G 2 _ _ _ (blk_drew hG3);simpa using this
 have g5:W3.drew.cell? ⟨G,3,none⟩=some (.int .i64 0):=by have:=cell_of_row _ G 3 _ _ _ (blk_drew hG3);simpa using this
 have g6:(W3.alloc (Obj.cells #[Value.slice (some {block:=w.heap.size,off:=0}) 1 1,Value.int IntKind.i64 0,Value.int IntKind.i64 (-1),Value.int IntKind.i64 0] 134)).cell? ⟨F,0,none⟩=some (.slice A0 gs.length c0):=by have:=cell_of_row _ F 0 _ _ _ (blk_alloc hF3 (Obj.cells #[Value.slice (some {block:=w.heap.size,off:=0}) 1 1,Value.int IntKind.i64 0,Value.int IntKind.i64 (-1),Value.int IntKind.i64 0] 134));simpa using this
 have HNE:Aside0 ((Value.slice A0 gs.length c0).ownBlock≠some w.heap.size):=⟨fun e=>by have:=Kd.S_lt HF.hgs _ e;omega⟩
 have hty:∀k,(Value.slice A0 gs.length c0).ownBlock=some k→∃cells,w.heap[k]? =some (.cells cells 134 (0,0)):=Kd.S_typed HF.hgs
 have hnF:some F≠(Value.slice A0 gs.length c0).ownBlock:=Kd.S_ne HF.hgs hFF (by decide)
 have HCF:Aside0 (∀w6,World.grownBy W3.drew w6 (Value.slice A0 gs.length c0).ownBlock→w6.cell? ⟨F,0,none⟩=some (.slice A0 gs.length c0)∧w6.frozen? ⟨F,0,none⟩=false):=⟨fun w6 hg=>by
  have h6:w6.heap[F]? =some (.cells #[.slice A0 gs.length c0,.pointer (some ⟨O,0,none⟩)] 131 (0,0)):=(hg.block F (blk_lt hF3) hnF).trans hF3
  exact ⟨by have:=cell_of_row _ F 0 _ _ _ h6;simpa using this,blk_frozen h6 0⟩⟩
 have HSZ:Aside0 (base≤W3.drew.heap.size):=⟨by show base≤W3.heap.size;rw [HS3.out];have:=HF.hF;omega⟩
 have HP:Aside0 (kGr.M W3.drew base (fun k=>k=w.heap.size) ([at_],0, -1,0) [Value.slice (some {block:=w.heap.size,off:=0}) 1 1,.int .i64 0,.int .i64 (-1),.int .i64 0]):=
  ⟨⟨[Value.slice (some {block:=w.heap.size,off:=0}) 1 1],_,rfl,⟨_,rfl,line_own (blk_drew hL3) (by have:=HF.hF;omega)⟩,⟨[.int .i64 0],_,rfl,rfl,⟨[.int .i64 (-1)],_,rfl,rfl,rfl⟩⟩⟩⟩
 go_wp2
 go_region_law ((first|refine Kd.S_append_step kGr (w0:=w0) (W:=W3.drew) base (by rfl) (.tmp 47) (.tmp 49) 91 134 (.agg #[(.slice none 0 0),(.int .i64 0),(.int .i64 0),(.int .i64 0)]) 48 ?aH Tryz.underlying91 (by kernel_rfl) rfl (by decide) (by omega) (.slice A0 gs.length c0) gs ([at_],0, -1,0) [Value.slice (some {block:=w.heap.size,off:=0}) 1 1,.int .i64 0,.int .i64 (-1),.int .i64 0] (fun _=>True) (fun k=>k=w.heap.size) ?aV ?aX ?aP ?aK (fun _ _=>trivial) ?aO ?aB ?aS ?aL ?_);(case aH=>rfl);(case aV=>rfl);(case aX=>rfl);(case aO=>exact Kd.S_drew HS_3.out);(case aB=>exact below_drew1 HB3.out);(case aL=>show (gs.length+1)*48≤_;omega);(case aS=>exact HSZ.out);(case aK=>rintro k rfl;exact ⟨trivial,fun e=>HNE.out e.symm⟩);(case aP=>exact HP.out);intro v1 w6 ho hb hg hat;obtain ⟨A1,c1,rfl⟩:=Kd.S_slice ho;clear HS_3 HB3 HP;have r0:w6.cell? ⟨F,0,none⟩=some (.slice A0 gs.length c0):=(HCF.out w6 hg).1;have r1:=(HCF.out w6 hg).2;have HO6:=z0 ho;have HB6:=z0 hb;have HG6:=z0 hg;clear ho hb hg hat)
 all_goals go_end0
 all_goals
  have h6:Kd.S kGr 134 w6 base (fun _=>True) (.slice A1 (gs.length+1) c1) (gs++[([at_],0, -1,0)]):=by have:=HO6.out;rwa [List.length_append,List.length_singleton] at this
  exact ⟨rfl,_,_,begin_end HF hF3 hO3 (by have:=HO_.out;omega) HK3.out (by have:=HS3.out;omega) h6 HG6.out,HB6.out.setCell HF.hF _⟩
theorem begin_cons (at_:Int)(base F:Nat)(w0 w:World)(v p:Value)(gs:List Gr)(n:Nat)(br:Int)(hs_:Bool)(st:List Ope)(HF:FS base F w v p gs ((n,br,hs_)::st))(HB:Below base w0 w)(hl:gs.length≤1000000):
 Calls Tryz.prog 125 #[.pointer (some ⟨F,0,none⟩),.int .i64 at_] w fun e w'=>e= .returned (.tuple #[])∧∃v' p',FS base F w' v' p' (beginF at_ gs ((n,br,hs_)::st)).1 (beginF at_ gs ((n,br,hs_)::st)).2∧Below base w0 w':=by
 have hFF:=HF.hc
 have hFl:=blk_lt hFF
 have hg0:w.cell? ⟨F,0,none⟩=some v:=by have:=cell_of_row w F 0 _ _ _ hFF;simpa using this
 obtain ⟨P,q0,rfl,hP0,hP1,hP2,hP3⟩:=HF.hst
 simp only at hP2
 have hg1:w.cell? ⟨F,1,none⟩=some (.pointer (some ⟨P,0,none⟩)):=by have:=cell_of_row w F 1 _ _ _ hFF;simpa using this
 obtain ⟨A0,c0,rfl⟩:=Kd.S_slice HF.hgs
 go_enter Tryz.func125,Tryz.ntmps125
 go_wp2
 obtain ⟨Wa,hWa⟩:∃Wa,Wa=((w.alloc (Obj.cells #[Value.int IntKind.i64 at_] 3)).alloc (Obj.cells #[Value.slice (some {block:=w.heap.size,off:=0}) 1 1,Value.int IntKind.i64 0,Value.int IntKind.i64 (-1),Value.int IntKind.i64 0] 134)):=⟨_,rfl⟩
 rw [←hWa]
 have hBa:Below w.heap.size w Wa:=by rw [hWa];exact below_alloc (below_alloc (Below.refl _ _) _) _
 have hsa:Wa.heap.size=w.heap.size+2:=by rw [hWa,alloc_size,alloc_size]
 obtain ⟨G,hG⟩:∃G,G=w.heap.size+1:=⟨_,rfl⟩
 rw [←hG]
 have hGa:Wa.heap[G]? =some (.cells #[Value.slice (some {block:=w.heap.size,off:=0}) 1 1,Value.int IntKind.i64 0,Value.int IntKind.i64 (-1),Value.int IntKind.i64 0] 134 (0,0)):=by
  rw [hWa,hG,←alloc_size w (Obj.cells #[Value.int IntKind.i64 at_] 3)]
  exact blk_new _ _
 have hLa:Wa.heap[w.heap.size]? =some (.cells #[Value.int IntKind.i64 at_] 3 (0,0)):=by
  rw [hWa,Below.heap_alloc _ _ _ (by rw [alloc_size];omega)]
  exact blk_new _ _
 clear hWa
 have HG_:=z0 hG
 have HSa:=z0 hsa
 clear hG
 have z1:Wa.cell? ⟨F,1,none⟩=some (.pointer (some ⟨P,0,none⟩)):=(hBa.cell hFl).trans hg1
 have z2:Wa.cell? ⟨P,0,none⟩=some (.int .i64 n):=(hBa.cell hP1).trans (by have:=cell_of_row w P 0 _ _ _ hP2;simpa using this)
 have z3:Wa.cell? ⟨P,1,none⟩=some (.int .i64 br):=(hBa.cell hP1).trans (by have:=cell_of_row w P 1 _ _ _ hP2;simpa using this)
 have z4:Wa.cell? ⟨G,2,none⟩=some (.int .i64 (-1)):=by have:=cell_of_row Wa G 2 _ _ _ hGa;simpa using this
 have z5:Wa.cell? ⟨G,3,none⟩=some (.int .i64 0):=by have:=cell_of_row Wa G 3 _ _ _ hGa;simpa using this
 have z6:=blk_frozen hGa 2
 have z7:=blk_frozen hGa 3
 go_region
 obtain ⟨W1,hW1⟩:∃W1,W1=((Wa.setCell ⟨G,2,none⟩ (.int .i64 n)).setCell ⟨G,3,none⟩ (.int .i64 br)).drew:=⟨_,rfl⟩
 rw [←hW1]
 have hwG:w.heap.size≤G:=by have:=HG_.out;omega
 have hB1:Below w.heap.size w W1:=by rw [hW1];exact below_drew1 ((hBa.setCell hwG _).setCell hwG _)
 have hs1:W1.heap.size=w.heap.size+2:=by rw [hW1];show ((Wa.setCell _ _).setCell _ _).heap.size=_;simp;exact HSa.out
 have hGc:W1.heap[G]? =some (.cells #[Value.slice (some {block:=w.heap.size,off:=0}) 1 1,Value.int IntKind.i64 0,Value.int IntKind.i64 n,Value.int IntKind.i64 br] 134 (0,0)):=by rw [hW1];exact blk_drew (blk_put (blk_put hGa 2 _ rfl) 3 _ rfl)
 have hLc:W1.heap[w.heap.size]? =some (.cells #[Value.int IntKind.i64 at_] 3 (0,0)):=by rw [hW1];exact blk_drew (blk_far (blk_far hLa (by show w.heap.size≠G;have:=HG_.out;omega) _) (by show w.heap.size≠G;have:=HG_.out;omega) _)
 have HS1:=z0 hs1
 clear hW1 z1 z2 z3 z4 z5 z6 z7 hsa HSa
 go_wp2
 have k0:W1.cell? ⟨F,0,none⟩=some (.slice A0 gs.length c0):=(hB1.cell hFl).trans hg0
 have k1:W1.cell? ⟨F,1,none⟩=some (.pointer (some ⟨P,0,none⟩)):=(hB1.cell hFl).trans hg1
 have o1:(W1.alloc (Obj.cells #[Value.int IntKind.i64 (gs.length:Int),Value.int IntKind.i64 0,Value.bool false,Value.pointer (some ⟨P,0,none⟩)] 136)).heap[F]? =some (.cells #[.slice A0 gs.length c0,.pointer (some ⟨P,0,none⟩)] 131 (0,0)):=blk_alloc ((hB1.block F hFl).trans hFF) _
 have q1:(W1.alloc (Obj.cells #[Value.int IntKind.i64 (gs.length:Int),Value.int IntKind.i64 0,Value.bool false,Value.pointer (some ⟨P,0,none⟩)] 136)).cell? ⟨F,1,none⟩=some (.pointer (some ⟨P,0,none⟩)):=by have:=cell_of_row _ F 1 _ _ _ o1;simpa using this
 have q2:=blk_frozen o1 1
 go_region
 obtain ⟨W2,hW2⟩:∃W2,W2=W1.alloc (Obj.cells #[Value.int IntKind.i64 (gs.length:Int),Value.int IntKind.i64 0,Value.bool false,Value.pointer (some ⟨P,0,none⟩)] 136):=⟨_,rfl⟩
 rw [←hW2]
 have hO2:W2.heap[w.heap.size+2]? =some (.cells #[Value.int IntKind.i64 (gs.length:Int),Value.int IntKind.i64 0,Value.bool false,Value.pointer (some ⟨P,0,none⟩)] 136 (0,0)):=by rw [hW2,←hs1];exact blk_new _ _
 obtain ⟨O,hO⟩:∃O,O=w.heap.size+2:=⟨_,rfl⟩
 rw [←hO] at hO2 ⊢
 have HO_:=z0 hO
 clear hO
 have hF2:W2.heap[F]? =some (.cells #[.slice A0 gs.length c0,.pointer (some ⟨P,0,none⟩)] 131 (0,0)):=by rw [hW2];exact o1
 have hG2:=blk_alloc hGc (Obj.cells #[Value.int IntKind.i64 (gs.length:Int),Value.int IntKind.i64 0,Value.bool false,Value.pointer (some ⟨P,0,none⟩)] 136)
 have hL2:=blk_alloc hLc (Obj.cells #[Value.int IntKind.i64 (gs.length:Int),Value.int IntKind.i64 0,Value.bool false,Value.pointer (some ⟨P,0,none⟩)] 136)
 rw [←hW2] at hG2 hL2
 have hB2:Below w.heap.size w W2:=by rw [hW2];exact below_alloc hB1 _
 have hs2:W2.heap.size=w.heap.size+3:=by rw [hW2,alloc_size,hs1]
 have hS2:Kd.S kGr 134 W2 base (fun k=>True∧¬k=w.heap.size) (.slice A0 gs.length c0) gs:=Kd.S_below (Kd.S_mono (Kd.S_bound HF.hgs) (fun k hk=>⟨trivial,by have:=hk.2.2.1;omega⟩)) hB2
 clear o1 q1 q2 hW2 k0 k1
 obtain ⟨W3,hW3⟩:∃W3,W3=(W2.setCell ⟨F,1,none⟩ (.pointer (some ⟨O,0,none⟩))).drew:=⟨_,rfl⟩
 rw [←hW3]
 have hF3:W3.heap[F]? =some (.cells #[.slice A0 gs.length c0,.pointer (some ⟨O,0,none⟩)] 131 (0,0)):=by rw [hW3];exact blk_drew (blk_put hF2 1 _ rfl)
 have hO3:W3.heap[O]? =some (.cells #[Value.int IntKind.i64 (gs.length:Int),Value.int IntKind.i64 0,Value.bool false,Value.pointer (some ⟨P,0,none⟩)] 136 (0,0)):=by rw [hW3];exact blk_drew (blk_far hO2 (by show O≠F;have:=HO_.out;omega) _)
 have hG3:=blk_drew (blk_far (p:=⟨F,1,none⟩) hG2 (by show G≠F;have:=HG_.out;omega) (.pointer (some ⟨O,0,none⟩)))
 have hL3:=blk_drew (blk_far (p:=⟨F,1,none⟩) hL2 (by show w.heap.size≠F;omega) (.pointer (some ⟨O,0,none⟩)))
 rw [←hW3] at hG3 hL3
 have hS3:Kd.S kGr 134 W3 base (fun k=>True∧¬k=w.heap.size) (.slice A0 gs.length c0) gs:=by
  rw [hW3];exact Kd.S_drew (Kd.S_set hS2 hF2 (by decide) 1 _)
 have hs3:W3.heap.size=w.heap.size+3:=by rw [hW3];show (W2.setCell _ _).heap.size=_;simp;exact hs2
 have hB3:Below base w0 W3:=by rw [hW3];exact below_drew ((HB.trans ⟨hB2.os,hB2.tape,hB2.output,hB2.size,fun k hk=>hB2.block k (by have:=HF.hF;omega)⟩).setCell HF.hF _)
 have hk3:∀k,k<w.heap.size→k≠F→W3.heap[k]? =w.heap[k]? :=fun k hk hn=>by rw [hW3];exact (Below.heap_setCell W2 ⟨F,1,none⟩ _ k hn).trans (hB2.block k hk)
 have HS3:=z0 hs3
 have HS_3:=z0 hS3
 have HK3:=z0 hk3
 have HB3:=z0 hB3
 clear hW3 hs3 hs1 HS1 hS3 hk3 hB3 hS2 hL2 hG2 hO2 hF2 hB2 hs2
 have g0:W3.drew.cell? ⟨F,0,none⟩=some (.slice A0 gs.length c0):=by have:=cell_of_row _ F 0 _ _ _ (blk_drew hF3);simpa using this
 have g2:W3.drew.cell? ⟨G,0,none⟩=some (Value.slice (some {block:=w.heap.size,off:=0}) 1 1):=by have:=cell_of_row _ G 0 _ _ _ (blk_drew hG3);simpa using this
 have g3:W3.drew.cell? ⟨G,1,none⟩=some (.int .i64 0):=by have:=cell_of_row _ G 1 _ _ _ (blk_drew hG3);simpa using this
 have g4:W3.drew.cell? ⟨G,2,none⟩=some (.int .i64 n):=by have:=cell_of_row _ G 2 _ _ _ (blk_drew hG3);simpa using this
 have g5:W3.drew.cell? ⟨G,3,none⟩=some (.int .i64 br):=by have:=cell_of_row _ G 3 _ _ _ (blk_drew hG3);simpa using this
 have g6:(W3.alloc (Obj.cells #[Value.slice (some {block:=w.heap.size,off:=0}) 1 1,Value.int IntKind.i64 0,Value.int IntKind.i64 n,Value.int IntKind.i64 br] 134)).cell? ⟨F,0,none⟩=some (.slice A0 gs.length c0):=by have:=cell_of_row _ F 0 _ _ _ (blk_alloc hF3 (Obj.cells #[Value.slice (some {block:=w.heap.size,off:=0}) 1 1,Value.int IntKind.i64 0,Value.int IntKind.i64 n,Value.int IntKind.i64 br] 134));simpa using this
 have HNE:Aside0 ((Value.slice A0 gs.length c0).ownBlock≠some w.heap.size):=⟨fun e=>by have:=Kd.S_lt HF.hgs _ e;omega⟩
 have hty:∀k,(Value.slice A0 gs.length c0).ownBlock=some k→∃cells,w.heap[k]? =some (.cells cells 134 (0,0)):=Kd.S_typed HF.hgs
 have hnF:some F≠(Value.slice A0 gs.length c0).ownBlock:=Kd.S_ne HF.hgs hFF (by decide)
 have HCF:Aside0 (∀w6,World.grownBy W3.drew w6 (Value.slice A0 gs.length c0).ownBlock→w6.cell? ⟨F,0,none⟩=some (.slice A0 gs.length c0)∧w6.frozen? ⟨F,0,none⟩=false):=⟨fun w6 hg=>by
  have h6:w6.heap[F]? =some (.cells #[.slice A0 gs.length c0,.pointer (some ⟨O,0,none⟩)] 131 (0,0)):=(hg.block F (blk_lt hF3) hnF).trans hF3
  exact ⟨by have:=cell_of_row _ F 0 _ _ _ h6;simpa using this,blk_frozen h6 0⟩⟩
 have HSZ:Aside0 (base≤W3.drew.heap.size):=⟨by show base≤W3.heap.size;rw [HS3.out];have:=HF.hF;omega⟩
 have HP:Aside0 (kGr.M W3.drew base (fun k=>k=w.heap.size) ([at_],0,(n:Int),br) [Value.slice (some {block:=w.heap.size,off:=0}) 1 1,.int .i64 0,.int .i64 n,.int .i64 br]):=
  ⟨⟨[Value.slice (some {block:=w.heap.size,off:=0}) 1 1],_,rfl,⟨_,rfl,line_own (blk_drew hL3) (by have:=HF.hF;omega)⟩,⟨[.int .i64 0],_,rfl,rfl,⟨[.int .i64 n],_,rfl,rfl,rfl⟩⟩⟩⟩
 go_wp2
 go_region_law ((first|refine Kd.S_append_step kGr (w0:=w0) (W:=W3.drew) base (by rfl) (.tmp 47) (.tmp 49) 91 134 (.agg #[(.slice none 0 0),(.int .i64 0),(.int .i64 0),(.int .i64 0)]) 48 ?aH Tryz.underlying91 (by kernel_rfl) rfl (by decide) (by omega) (.slice A0 gs.length c0) gs ([at_],0,(n:Int),br) [Value.slice (some {block:=w.heap.size,off:=0}) 1 1,.int .i64 0,.int .i64 n,.int .i64 br] (fun _=>True) (fun k=>k=w.heap.size) ?aV ?aX ?aP ?aK (fun _ _=>trivial) ?aO ?aB ?aS ?aL ?_);(case aH=>rfl);(case aV=>rfl);(case aX=>rfl);(case aO=>exact Kd.S_drew HS_3.out);(case aB=>exact below_drew1 HB3.out);(case aL=>show (gs.length+1)*48≤_;omega);(case aS=>exact HSZ.out);(case aK=>rintro k rfl;exact ⟨trivial,fun e=>HNE.out e.symm⟩);(case aP=>exact HP.out);intro v1 w6 ho hb hg hat;obtain ⟨A1,c1,rfl⟩:=Kd.S_slice ho;clear HS_3 HB3 HP;have r0:w6.cell? ⟨F,0,none⟩=some (.slice A0 gs.length c0):=(HCF.out w6 hg).1;have r1:=(HCF.out w6 hg).2;have HO6:=z0 ho;have HB6:=z0 hb;have HG6:=z0 hg;clear ho hb hg hat)
 all_goals go_end0
 all_goals
  have h6:Kd.S kGr 134 w6 base (fun _=>True) (.slice A1 (gs.length+1) c1) (gs++[([at_],0,(n:Int),br)]):=by have:=HO6.out;rwa [List.length_append,List.length_singleton] at this
  exact ⟨rfl,_,_,begin_end HF hF3 hO3 (by have:=HO_.out;omega) HK3.out (by have:=HS3.out;omega) h6 HG6.out,HB6.out.setCell HF.hF _⟩
theorem begin_any (at_:Int)(base F:Nat)(w0 w:World)(v p:Value)(gs:List Gr)(st:List Ope)(HF:FS base F w v p gs st)(HB:Below base w0 w)(hl:gs.length≤1000000):
 Calls Tryz.prog 125 #[.pointer (some ⟨F,0,none⟩),.int .i64 at_] w fun e w'=>e= .returned (.tuple #[])∧∃v' p',FS base F w' v' p' (beginF at_ gs st).1 (beginF at_ gs st).2∧Below base w0 w':=by
 cases st with
 |nil=>
  obtain rfl:p= .pointer none:=HF.hst
  exact begin_nil at_ base F w0 w v gs HF HB hl
 |cons x st=>exact begin_cons at_ base F w0 w v p gs x.1 x.2.1 x.2.2 st HF HB hl
end Go.Proofs.YtolaiebjmhieiaaGreatDoor.OScan
end
