/- Parts of the proof of HeadUsers; no condition. -/
import Derived.Test.YtolaiebjmhieiaaGreatDoorM01
import Derived.Test.YtolaiebjmhieiaaGreatDoorM07
import Derived.Test.YtolaiebjmhieiaaGreatDoorM08
import Derived.Test.YtolaiebjmhieiaaGreatDoorM06
import Derived.Test.YtolaiebjmhieiaaGreatDoorM04
set_option maxHeartbeats 8000000
set_option maxRecDepth 100000
set_option linter.unusedVariables false
set_option linter.unusedSimpArgs false
section
namespace Go.Proofs.YtolaiebjmhieiaaGreatDoor.ORef
open Go.RowKit YtolaiebjmhieiaaGreatDoorW.PrintWords YtolaiebjmhieiaaGreatDoorW.PrintLast YtolaiebjmhieiaaGreatDoorW.PrintMore
attribute [local go_sem] jF jD ku jZ jc iZ jE jC
def iH.f (a0:ByteArray):Option (Bool):=if a0.toList=([105,102]:List UInt8) then (some true) else (if a0.toList=([105,102,100,101,102]:List UInt8) then (some true) else (some (a0.toList==([105,102,110,100,101,102]:List UInt8))))
theorem iH.calls (a0:ByteArray)(r:Bool)(w:World)(h:iH.f a0=some r):
 Calls Tryz.prog 82 #[.string a0] w fun e w'=>e= .returned (.bool r)∧dM w w':=by
 have H:=h
 clear h
 unfold iH.f at H
 replace H:=zE H
 rcases H with ⟨c2b0,c2b1,H⟩|⟨c2b0,c2b1,H⟩
 · obtain rfl:=Option.some.inj H
   go_enter Tryz.func82,Tryz.ntmps82
   go_wp2
   go_ret
   exact ⟨zr,zq⟩
 · replace H:=zE H
   rcases H with ⟨c3b0,c3b1,H⟩|⟨c3b0,c3b1,H⟩
   · obtain rfl:=Option.some.inj H
     go_enter Tryz.func82,Tryz.ntmps82
     go_wp2
     go_ret
     exact ⟨zr,zq⟩
   · obtain rfl:=Option.some.inj H
     go_enter Tryz.func82,Tryz.ntmps82
     go_wp2
     go_ret
     exact ⟨zr,zq⟩
def dL.l0:Nat→Int→Int→List Int→Int→Int→Int→Option (Int)
 |0,_,_,_,_,_,_=>none
 |k+1,x1,x5,x215000,x215001,x215002,x215003=>if (wrap64 (x5+1))<(x215000.length:Int) then (if 0≤x5 then (if x5<(x215000.length:Int) then (if x1>(rd x215000 x5) then (if 0≤(wrap64 (x5+1)) then (if x1<(rd x215000 (wrap64 (x5+1))) then (some x5) else (dL.l0 k x1 (wrap64 (x5+1)) x215000 x215001 x215002 x215003)) else (none)) else (dL.l0 k x1 (wrap64 (x5+1)) x215000 x215001 x215002 x215003)) else (none)) else (none)) else (some (-1))
def dL.f (k:Nat)(l0_0:List Int)(a0_1:Int)(a0_2:Int)(a0_3:Int)(a1:Int):Option (Int):=dL.l0 k a1 0 l0_0 a0_1 a0_2 a0_3
theorem dL.calls (k:Nat)(A0_0:Option Addr)(c0_0:Nat)(l0_0:List Int)(a0_1:Int)(a0_2:Int)(a0_3:Int)(a1:Int)(r:Int)(w:World)(hr0_0:Kd.C (Kd.int .i64) w A0_0 l0_0.length l0_0)(hc0_0:l0_0.length≤c0_0)(h:dL.f k l0_0 a0_1 a0_2 a0_3 a1=some r):
 Calls Tryz.prog 85 #[.agg #[.slice A0_0 l0_0.length c0_0,.int .i64 a0_1,.int .i64 a0_2,.int .i64 a0_3],.int .i64 a1] w fun e w'=>e= .returned (.int .i64 r)∧Below w.heap.size w w':=by
 have hu146:=Tryz.underlying146
 have HR0_0:=z0 hr0_0
 have HC0_0:=z0 hc0_0
 clear hr0_0 hc0_0
 have HB:=z0 (Below.refl w.heap.size w)
 have H:=h
 clear h
 unfold dL.f at H
 have H':=z0 H
 clear H
 go_enter Tryz.func85,Tryz.ntmps85
 go_wp2_with (first|((with_reducible refine iP (N:=2) rfl ?_);refine jP ?hg (N:=2) ?hd (cs:= #[.slice A0_0 l0_0.length c0_0,.int .i64 a0_1,.int .i64 a0_2,.int .i64 a0_3]) (t:=146) ?hr ?_;(case hd=>rfl);(case hg=>rfl);(case hr=>first|(go_simp;done)|(go_simp;rfl));intro gb214 hg w3 hbox hb;have n0_:=z0 (ak zw hb);have n1_:=z0 (hbox);have n2_:=z0 ((by rw [hg];exact (aQ zw):w.heap.size≤gb214));have n3_:=z0 ((by rw [hg];exact (aQ zw):w.heap.size≤gb214));revert n0_ n1_ n2_ n3_;clear HB;intro HB BK214 GW214 GE214;clear hb hbox hg))
 (try go_simp)
 go_loopg [5] k (fun kq v5 w'=>∃(x5_1:Int),v5= .int .i64 x5_1∧ah (dL.l0 kq a1 x5_1 l0_0 a0_1 a0_2 a0_3=some r)∧ah (kq≤k)∧ah (w'.heap[gb214]? =some (.cells #[(.slice A0_0 l0_0.length c0_0),.int .i64 a0_1,.int .i64 a0_2,.int .i64 a0_3] 146 (0,0)))∧ah (Below w.heap.size w w'))
 case atStart=>exact ⟨(0),zr,H',⟨Nat.le_refl _⟩,⟨by (with_reducible repeat (first|refine gV ?_ _|refine dF ?_|refine dN ?_ _));exact BK214.out⟩,⟨zw⟩⟩
 case round=>
  clear H'
  obtain ⟨x5_1,rfl,HA,HK1,BK214,HB⟩:=hrel
  cases gk with
  |zero=>exact absurd HA.out (by simp [dL.l0])
  |succ k1=>
   have H:=HA.out
   clear HA
   simp only [dL.l0] at H
   replace H:=zd H
   rcases H with ⟨c4b0,H⟩|⟨c4b0,H⟩
   · replace H:=zdn H
     obtain ⟨c5b0,H⟩:=H
     replace H:=zdn H
     obtain ⟨c6b0,H⟩:=H
     replace H:=zt H
     rcases H with ⟨c7b0,H⟩|⟨c7b0,H⟩
     · generalize hji8:(wrap64 (x5_1+1))=ji8 at H
       (try rw [hji8] at c4b0)
       have hji8w:(IntKind.i64.wrap (x5_1+1))=ji8:=(dZ _).trans hji8
       replace H:=zdn H
       obtain ⟨c9b0,H⟩:=H
       replace H:=zd H
       rcases H with ⟨c10b0,H⟩|⟨c10b0,H⟩
       · obtain rfl:=Option.some.inj H
         have hcz11_0:wr.cell? ⟨gb214,0,none⟩=some (.slice A0_0 l0_0.length c0_0):=(aC BK214.out 0).trans rfl
         have hcz11_1:wr.cell? ⟨gb214,1,none⟩=some (.int .i64 a0_1):=(aC BK214.out 1).trans rfl
         have hcz11_2:wr.cell? ⟨gb214,2,none⟩=some (.int .i64 a0_2):=(aC BK214.out 2).trans rfl
         have hcz11_3:wr.cell? ⟨gb214,3,none⟩=some (.int .i64 a0_3):=(aC BK214.out 3).trans rfl
         have hfz11_0:=aj BK214.out 0
         have hfz11_1:=aj BK214.out 1
         have hfz11_2:=aj BK214.out 2
         have hfz11_3:=aj BK214.out 3
         have p215:0≤(x5_1:Int):=of_decide_eq_true (by first|(with_reducible assumption)|assumption)
         have q215:x5_1<(l0_0.length:Int):=of_decide_eq_true (by first|(with_reducible assumption)|assumption)
         obtain ⟨ad215,e215,hx215_0⟩:=Kd.xE HR0_0.out x5_1 p215 q215
         cases e215
         replace hx215_0:=(HB.out.cell (World.block_lt_of_cell? w _ hx215_0)).trans hx215_0
         replace p215:=eq_true p215
         replace q215:=eq_true q215
         have p216:0≤((ji8):Int):=of_decide_eq_true (by first|(with_reducible assumption)|assumption)
         have q216:(ji8)<(l0_0.length:Int):=of_decide_eq_true (by first|(with_reducible assumption)|assumption)
         obtain ⟨ad216,e216,hx216_0⟩:=Kd.xE HR0_0.out (ji8) p216 q216
         obtain rfl:ad215=ad216:=(by injection e216)
         replace hx216_0:=(HB.out.cell (World.block_lt_of_cell? w _ hx216_0)).trans hx216_0
         replace p216:=eq_true p216
         replace q216:=eq_true q216
         go_wp2
         go_ret
         exact ⟨by first|rfl|(simp [errW_none,errW_some]<;>rfl)|(simp only [←hji8];first|rfl|(simp [errW_none,errW_some]<;>rfl))|(simp [*,errW_none,errW_some]<;>rfl),zw⟩
       · have H':=z0 H
         clear H
         have hcz12_0:wr.cell? ⟨gb214,0,none⟩=some (.slice A0_0 l0_0.length c0_0):=(aC BK214.out 0).trans rfl
         have hcz12_1:wr.cell? ⟨gb214,1,none⟩=some (.int .i64 a0_1):=(aC BK214.out 1).trans rfl
         have hcz12_2:wr.cell? ⟨gb214,2,none⟩=some (.int .i64 a0_2):=(aC BK214.out 2).trans rfl
         have hcz12_3:wr.cell? ⟨gb214,3,none⟩=some (.int .i64 a0_3):=(aC BK214.out 3).trans rfl
         have hfz12_0:=aj BK214.out 0
         have hfz12_1:=aj BK214.out 1
         have hfz12_2:=aj BK214.out 2
         have hfz12_3:=aj BK214.out 3
         have p215:0≤(x5_1:Int):=of_decide_eq_true (by first|(with_reducible assumption)|assumption)
         have q215:x5_1<(l0_0.length:Int):=of_decide_eq_true (by first|(with_reducible assumption)|assumption)
         obtain ⟨ad215,e215,hx215_0⟩:=Kd.xE HR0_0.out x5_1 p215 q215
         cases e215
         replace hx215_0:=(HB.out.cell (World.block_lt_of_cell? w _ hx215_0)).trans hx215_0
         replace p215:=eq_true p215
         replace q215:=eq_true q215
         have p216:0≤((ji8):Int):=of_decide_eq_true (by first|(with_reducible assumption)|assumption)
         have q216:(ji8)<(l0_0.length:Int):=of_decide_eq_true (by first|(with_reducible assumption)|assumption)
         obtain ⟨ad216,e216,hx216_0⟩:=Kd.xE HR0_0.out (ji8) p216 q216
         obtain rfl:ad215=ad216:=(by injection e216)
         replace hx216_0:=(HB.out.cell (World.block_lt_of_cell? w _ hx216_0)).trans hx216_0
         replace p216:=eq_true p216
         replace q216:=eq_true q216
         go_wp2
         go_roundg k1
         case measure=>have:=HK1.out;omega
         case rel=>exact ⟨(ji8),(by first|rfl|(simp;done)|(simp only [←hji8]<;>(first|rfl|simp))|(simp [*];done)),H',⟨by have:=HK1.out;omega⟩,⟨by (with_reducible repeat (first|refine gV ?_ _|refine dF ?_|refine dN ?_ _));exact BK214.out⟩,⟨zw⟩⟩
     · have H':=z0 H
       clear H
       have hcz13_0:wr.cell? ⟨gb214,0,none⟩=some (.slice A0_0 l0_0.length c0_0):=(aC BK214.out 0).trans rfl
       have hcz13_1:wr.cell? ⟨gb214,1,none⟩=some (.int .i64 a0_1):=(aC BK214.out 1).trans rfl
       have hcz13_2:wr.cell? ⟨gb214,2,none⟩=some (.int .i64 a0_2):=(aC BK214.out 2).trans rfl
       have hcz13_3:wr.cell? ⟨gb214,3,none⟩=some (.int .i64 a0_3):=(aC BK214.out 3).trans rfl
       have hfz13_0:=aj BK214.out 0
       have hfz13_1:=aj BK214.out 1
       have hfz13_2:=aj BK214.out 2
       have hfz13_3:=aj BK214.out 3
       have p215:0≤(x5_1:Int):=of_decide_eq_true (by first|(with_reducible assumption)|assumption)
       have q215:x5_1<(l0_0.length:Int):=of_decide_eq_true (by first|(with_reducible assumption)|assumption)
       obtain ⟨ad215,e215,hx215_0⟩:=Kd.xE HR0_0.out x5_1 p215 q215
       cases e215
       replace hx215_0:=(HB.out.cell (World.block_lt_of_cell? w _ hx215_0)).trans hx215_0
       replace p215:=eq_true p215
       replace q215:=eq_true q215
       go_wp2
       go_roundg k1
       case measure=>have:=HK1.out;omega
       case rel=>exact ⟨(wrap64 (x5_1+1)),zr,H',⟨by have:=HK1.out;omega⟩,⟨by (with_reducible repeat (first|refine gV ?_ _|refine dF ?_|refine dN ?_ _));exact BK214.out⟩,⟨zw⟩⟩
   · obtain rfl:=Option.some.inj H
     have hcz14_0:wr.cell? ⟨gb214,0,none⟩=some (.slice A0_0 l0_0.length c0_0):=(aC BK214.out 0).trans rfl
     have hcz14_1:wr.cell? ⟨gb214,1,none⟩=some (.int .i64 a0_1):=(aC BK214.out 1).trans rfl
     have hcz14_2:wr.cell? ⟨gb214,2,none⟩=some (.int .i64 a0_2):=(aC BK214.out 2).trans rfl
     have hcz14_3:wr.cell? ⟨gb214,3,none⟩=some (.int .i64 a0_3):=(aC BK214.out 3).trans rfl
     have hfz14_0:=aj BK214.out 0
     have hfz14_1:=aj BK214.out 1
     have hfz14_2:=aj BK214.out 2
     have hfz14_3:=aj BK214.out 3
     go_wp2
     go_ret
     exact ⟨zv,zw⟩
end Go.Proofs.YtolaiebjmhieiaaGreatDoor.ORef
end
section
namespace Go.Proofs.YtolaiebjmhieiaaGreatDoor.OScan
open Go.RowKit YtolaiebjmhieiaaGreatDoorW.PrintWords YtolaiebjmhieiaaGreatDoorW.PrintLast YtolaiebjmhieiaaGreatDoorW.PrintMore
theorem JH (a:ByteArray):ORef.iH.f a=some (je a):=by
 unfold ORef.iH.f je
 by_cases h1:a.toList=([105,102]:List UInt8)
 · simp [h1]
 · by_cases h2:a.toList=([105,102,100,101,102]:List UInt8)
   · simp [h2]
   · rw [if_neg h1,if_neg h2,beq_eq_false_iff_ne.2 h1,beq_eq_false_iff_ne.2 h2];rfl
def stO (st:List Ope):List Int:=st.reverse.map fun x=>(x.1:Int)
def stE (st:List Ope):List Bool:=st.reverse.map fun x=>x.2.2
theorem vg (st:List Ope):(stO st).length=st.length:=by simp [stO]
theorem vk (st:List Ope):(stE st).length=st.length:=by simp [stE]
theorem rF {w:World}{base:Nat}{ok:Nat→Prop}{v:Value}{x:Ope}{st:List Ope}(h:Kd.R (Kd.int .i64) 3 w base ok v (stO (x::st))):
 ∃g c,v= .slice (some ⟨g,0,none⟩) (st.length+1) c∧w.cell? ⟨g,st.length,none⟩=some (.int .i64 x.1)∧g<w.heap.size∧base≤g:=by
 have hl:(stO (x::st)).length=st.length+1:=by simp [stO]
 obtain ⟨g,c,rfl,h1,h2,_⟩:=Kd.rC h (by omega)
 obtain ⟨cx,_,hMx,hcx,_⟩:=Kd.kZ h 0 (st.length:Int) (by omega) (by omega)
 obtain rfl:=hMx
 refine ⟨g,c,by rw [hl],?_,h2,h1⟩
 have:=hcx 0 _ rfl
 simpa [Kd.int,Kd.scalar,stO] using this
theorem BH {w:World}{base:Nat}{ok:Nat→Prop}{v:Value}{x:Ope}{st:List Ope}(h:Kd.R Kd.bool 4 w base ok v (stE (x::st))):
 ∃g c,v= .slice (some ⟨g,0,none⟩) (st.length+1) c∧w.cell? ⟨g,st.length,none⟩=some (.bool x.2.2)∧g<w.heap.size∧base≤g:=by
 have hl:(stE (x::st)).length=st.length+1:=by simp [stE]
 obtain ⟨g,c,rfl,h1,h2,_⟩:=Kd.rC h (by omega)
 obtain ⟨cx,_,hMx,hcx,_⟩:=Kd.kZ h false (st.length:Int) (by omega) (by omega)
 obtain rfl:=hMx
 refine ⟨g,c,by rw [hl],?_,h2,h1⟩
 have:=hcx 0 _ rfl
 simpa [Kd.bool,Kd.scalar,stE] using this
theorem oH {og gs:List Gr}(h:og.map (·.1)=gs.map (·.1)){n:Nat}(hn:n<og.length):(fV og n).1=(fV gs n).1:=by
 have hl:og.length=gs.length:=by have:=congrArg List.length h;simpa using this
 have h1:(og.map (·.1))[n]? =(gs.map (·.1))[n]? :=by rw [h]
 rw [List.getElem?_map,List.getElem?_map,List.getElem?_eq_getElem hn,List.getElem?_eq_getElem (hl▸hn)] at h1
 simp only [Option.map_some,Option.some.injEq] at h1
 simp only [fV,List.getD_eq_getElem?_getD,List.getElem?_eq_getElem hn,List.getElem?_eq_getElem (hl▸hn),Option.getD_some]
 exact h1
structure GQ (base:Nat)(w:World)(v7 v8 v9:Value)(og gs:List Gr)(st:List Ope):Prop where
 lines:og.map (·.1)=gs.map (·.1)
 g:Kd.S kGr 146 w base (fun k=>True∧some k≠v8.ownBlock) v7 og
 o:Kd.R (Kd.int .i64) 3 w base (fun _=>True) v8 (stO st)
 e:Kd.R Kd.bool 4 w base (fun _=>True) v9 (stE st)
 wf:∀x∈st,x.1<gs.length
 cnt:st.length≤gs.length
theorem GQ.len {base:Nat}{w:World}{v7 v8 v9:Value}{og gs:List Gr}{st:List Ope}(h:GQ base w v7 v8 v9 og gs st):og.length=gs.length:=by
 have:=congrArg List.length h.lines;simpa using this
theorem GQ.below {base:Nat}{w w1:World}{v7 v8 v9:Value}{og gs:List Gr}{st:List Ope}(h:GQ base w v7 v8 v9 og gs st)(hb:Below w.heap.size w w1):GQ base w1 v7 v8 v9 og gs st:=
 ⟨h.lines,Kd.qj h.g hb,Kd.dn h.o hb,Kd.dn h.e hb,h.wf,h.cnt⟩
theorem GQ.nil (base:Nat)(w:World):GQ base w (.slice none 0 0) (.slice none 0 0) (.slice none 0 0) [] [] []:=
 ⟨rfl,Kd.uS _ _ _ _ _,Kd.gQ _ _ _ _ _,Kd.gQ _ _ _ _ _,fun x hx=>(by cases hx),Nat.le_refl _⟩
theorem GQ.lend {base B n cap j:Nat}{w:World}{v8 v9:Value}{og gs:List Gr}{nn:Nat}{br:Int}{hs:Bool}{st':List Ope}(h:GQ base w (.slice (some ⟨B,0,none⟩) n cap) v8 v9 og gs ((nn,br,hs)::st'))(hI:GInv j gs):
 ∃(oki:Nat→Prop) (ls:List Int) (b2 b3 b4:Int) (Al:Option Addr) (cl:Nat),ah (fV og nn=(ls,b2,b3,b4)∧ls.length≤j)∧w.cell? ⟨B,nn*4,none⟩=some (.slice Al ls.length cl)∧ah (Kd.R (Kd.int .i64) 3 w base oki (.slice Al ls.length cl) ls)∧
  ah (Kd.H kGr 146 w base (fun k=>True∧some k≠v8.ownBlock) (.slice (some ⟨B,0,none⟩) n cap) og nn oki [.slice Al ls.length cl,.int .i64 b2,.int .i64 b3,.int .i64 b4])∧
  ah ((∀k,w.heap.size≤k→oki k)∧∀k,oki k→some k≠v8.ownBlock∧k≠B):=by
 have hn:=(Kd.sO h.g).1
 have hnl:nn<og.length:=by rw [h.len];exact h.wf _ List.mem_cons_self
 obtain ⟨oki,cc,hcl,hM,hcc,hfr,hoki,hH⟩:=Kd.lX h.g ([],0,0,0) nn (by omega) (by omega)
 rw [Int.toNat_natCast] at hM hcc hfr
 change kGr.M w base oki (fV og nn) cc at hM
 have hfst:=oH h.lines hnl
 have hgm:fV gs nn∈gs:=by
  have e:fV gs nn=gs[nn]'(by rw [←h.len];exact hnl):=by simp [fV,show nn<gs.length by rw [←h.len];exact hnl]
  rw [e];exact List.getElem_mem _
 have hll:=(hI.2 _ hgm).1
 rw [←hfst] at hll
 generalize hg:fV og nn=gg at *
 obtain ⟨ls,b2,b3,b4⟩:=gg
 obtain ⟨_,_,rfl,⟨vl,rfl,hR⟩,⟨_,_,rfl,rfl,⟨_,_,rfl,rfl,rfl⟩⟩⟩:=hM
 simp only at hR hll
 obtain ⟨Al,cl,rfl⟩:=Kd.bF hR
 have h8:∀k,v8.ownBlock=some k→k<w.heap.size:=Kd.xJ h.o
 have hB:B<w.heap.size:=Kd.Ja h.g B rfl
 refine ⟨fun k=>oki k∨(True∧some k≠v8.ownBlock)∧w.heap.size≤k,ls,b2,b3,b4,Al,cl,⟨rfl,hll⟩,hcc 0 _ rfl,⟨Kd.fM hR (fun k hk=> .inl hk)⟩,⟨Kd.Bd hH⟩,⟨fun k hk=> .inr ⟨⟨trivial,fun e=>by have:=h8 k e.symm;omega⟩,hk⟩,fun k hk=> ?_⟩⟩
 rcases hk with hk|⟨hk,hk2⟩
 · exact ⟨(hoki k hk).1.2,(hoki k hk).2⟩
 · exact ⟨hk.2,by omega⟩
theorem Jz {og gs:List Gr}(h:og.map (·.1)=gs.map (·.1))(n:Nat)(a b:Gr)(hab:a.1=b.1):(og.set n a).map (·.1)=(gs.set n b).map (·.1):=by
 rw [List.map_set,List.map_set,h,hab]
theorem GQ.lined {base B n cap:Nat}{w9 w10 w11:World}{v8 v9 u:Value}{og gs:List Gr}{nn:Nat}{br:Int}{hs:Bool}{st':List Ope}{oki:Nat→Prop}{ls:List Int}{b2 b3 b4 a:Int}{y:Int × Int × Int}(h:GQ base w9 (.slice (some ⟨B,0,none⟩) n cap) v8 v9 og gs ((nn,br,hs)::st'))
 (hgg:fV og nn=(ls,b2,b3,b4)) (HR:Kd.R (Kd.int .i64) 3 w9 base oki u ls) (HOK:∀k,oki k→some k≠v8.ownBlock∧k≠B) (HG10:World.grownBy w9 w10 u.ownBlock) (HG11:World.grownBy w10 w11 (some B))
 (HS:Kd.S kGr 146 w11 base (fun k=>True∧some k≠v8.ownBlock) (.slice (some ⟨B,0,none⟩) n cap) (og.set (nn:Int).toNat (ls++[a],b2,b3,b4))):
 GQ base w11 (.slice (some ⟨B,0,none⟩) n cap) v8 v9 (og.set nn (ls++[a],b2,b3,b4)) (gs.set nn ((fV gs nn).1++[a],y)) ((nn,br,hs)::st'):=by
 have hnl:nn<og.length:=by rw [h.len];exact h.wf _ List.mem_cons_self
 have hfst:=oH h.lines hnl
 rw [hgg] at hfst
 have ne_ty:∀{W:World} {k:Nat} {c c':Array Value} {t t':TypeId},W.heap[k]? =some (.cells c t (0,0))→W.heap[k]? =some (.cells c' t' (0,0))→t=t':=fun h1 h2=>by
  rw [h1] at h2;injection h2 with h2;injection h2
 have hBt:∃cells,w9.heap[B]? =some (.cells cells 146 (0,0)):=Kd.kE h.g B rfl
 have h8:∀k,u.ownBlock=some k→some k≠v8.ownBlock:=fun k hk=>(HOK k (HR.1 k hk)).1
 have h9:∀k,u.ownBlock=some k→some k≠v9.ownBlock:=fun k hk e=>by
  obtain ⟨c1,e1⟩:=Kd.fQ HR k hk
  obtain ⟨c2,e2⟩:=Kd.fQ h.e k e.symm
  exact absurd (ne_ty e1 e2) (by decide)
 have b8:∀k,some B=some k→some k≠v8.ownBlock:=fun k hk e=>by
  injection hk with hk;subst hk
  obtain ⟨c1,e1⟩:=hBt
  obtain ⟨c2,e2⟩:=Kd.fQ h.o B e.symm
  exact absurd (ne_ty e1 e2) (by decide)
 have b9:∀k,some B=some k→some k≠v9.ownBlock:=fun k hk e=>by
  injection hk with hk;subst hk
  obtain ⟨c1,e1⟩:=hBt
  obtain ⟨c2,e2⟩:=Kd.fQ h.e B e.symm
  exact absurd (ne_ty e1 e2) (by decide)
 refine ⟨Jz h.lines nn _ _ (by rw [←hfst]),?_,Kd.jO (Kd.jO h.o rfl HG10 h8) rfl HG11 b8,Kd.jO (Kd.jO h.e rfl HG10 h9) rfl HG11 b9,fun x hx=>by rw [List.length_set];exact h.wf x hx,by rw [List.length_set];exact h.cnt⟩
 rw [Int.toNat_natCast] at HS
 exact HS
theorem GZ (nn:Nat)(br br':Int)(hs hs':Bool)(st':List Ope):stO ((nn,br,hs)::st')=stO ((nn,br',hs')::st'):=by simp [stO]
theorem Lj (nn:Nat)(br br':Int)(hs:Bool)(st':List Ope):stE ((nn,br,hs)::st')=stE ((nn,br',hs)::st'):=by simp [stE]
theorem GQ.NM {base:Nat}{w:World}{v7 v8 v9:Value}{og gs:List Gr}{nn:Nat}{br br':Int}{hs:Bool}{st':List Ope}(h:GQ base w v7 v8 v9 og gs ((nn,br,hs)::st')):GQ base w v7 v8 v9 og gs ((nn,br',hs)::st'):=
 ⟨h.lines,h.g,GZ nn br br' hs hs st'▸h.o,Lj nn br br' hs st'▸h.e,fun x hx=>by
  rcases List.mem_cons.1 hx with rfl|hx
  · exact h.wf (nn,br,hs) List.mem_cons_self
  · exact h.wf x (List.mem_cons_of_mem _ hx),h.cnt⟩
theorem GQ.ET {base g9 c9 M:Nat}{w:World}{v7 v8:Value}{og gs:List Gr}{nn:Nat}{br br':Int}{hs:Bool}{st':List Ope}(h:GQ base w v7 v8 (.slice (some ⟨g9,0,none⟩) M c9) og gs ((nn,br,hs)::st')):
 GQ base (w.setCell ⟨g9,st'.length,none⟩ (.bool true)) v7 v8 (.slice (some ⟨g9,0,none⟩) M c9) og gs ((nn,br',true)::st'):=by
 obtain ⟨c9',hc9⟩:=Kd.fQ h.e g9 rfl
 have he:=(Kd.xH h.e (st'.length:Int) true).1
 refine ⟨h.lines,Kd.xG h.g hc9 (by decide) _ _,GZ nn br br' hs true st'▸Kd.lV h.o hc9 (by decide) _ _,?_,fun x hx=> ?_,h.cnt⟩
 · have e:(stE ((nn,br,hs)::st')).set (st'.length:Int).toNat true=stE ((nn,br',true)::st'):=by
    simp [stE]
   rw [←e];exact he
 · rcases List.mem_cons.1 hx with rfl|hx
   · exact h.wf (nn,br,hs) List.mem_cons_self
   · exact h.wf x (List.mem_cons_of_mem _ hx)
theorem GQ.branches {base B n cap:Nat}{w:World}{v8 v9:Value}{og gs:List Gr}{st:List Ope}(h:GQ base w (.slice (some ⟨B,0,none⟩) n cap) v8 v9 og gs st)(nn:Nat)(hn:nn<og.length)(b:Int):
 GQ base (w.setCell ⟨B,nn*4+1,none⟩ (.int .i64 b)) (.slice (some ⟨B,0,none⟩) n cap) v8 v9 (og.set nn ((fV og nn).1,b,(fV og nn).2.2)) gs st:=by
 obtain ⟨cB,hB⟩:=Kd.kE h.g B rfl
 refine ⟨?_,?_,Kd.lV h.o hB (by decide) _ _,Kd.lV h.e hB (by decide) _ _,h.wf,h.cnt⟩
 · rw [←h.lines,List.map_set]
   apply List.ext_getElem?
   intro j
   rw [List.getElem?_set]
   split
   · rename_i e
     subst e
     simp [fV,hn]
   · rfl
 · have hn2:=(Kd.sO h.g).1
   obtain ⟨oki,cc,hcl,hM,hcc,hfr,hoki,hH⟩:=Kd.lX h.g ([],0,0,0) nn (by omega) (by omega)
   rw [Int.toNat_natCast] at hM
   change kGr.M w base oki (fV og nn) cc at hM
   generalize hg:fV og nn=gg at *
   obtain ⟨ls,b2,b3,b4⟩:=gg
   obtain ⟨_,_,rfl,⟨vl,rfl,hR⟩,⟨_,_,rfl,rfl,⟨_,_,rfl,rfl,rfl⟩⟩⟩:=hM
   have:=Kd.Nv (okg:=fun _=>False) (seg:=[.int .i64 b]) (j:=1) (x':=(ls,b,b3,b4)) (okp:=oki) (Kd.MP hH (fun k hk=>⟨hk,fun h=>h⟩)) (by omega) (by omega) (show 1+1≤4 by omega) ⟨[vl],_,rfl,⟨_,rfl,hR⟩,⟨_,_,rfl,rfl,⟨_,_,rfl,rfl,rfl⟩⟩⟩ (fun k hk=> .inl hk) (fun k hk=>hk.elim)
   exact this.1
theorem GQ.popped {base g8 c8 g9 c9 M m:Nat}{w:World}{v7:Value}{og gs:List Gr}{x:Ope}{st':List Ope}(h:GQ base w v7 (.slice (some ⟨g8,0,none⟩) M c8) (.slice (some ⟨g9,0,none⟩) M c9) og gs (x::st'))(hm:m=st'.length):
 GQ base w v7 (.slice (some ⟨g8,0,none⟩) m c8) (.slice (some ⟨g9,0,none⟩) m c9) og gs st':=by
 have h8:=Kd.Jc h.o (m:=m) (by rw [vg,List.length_cons];omega)
 have h9:=Kd.Jc h.e (m:=m) (by rw [vk,List.length_cons];omega)
 refine ⟨h.lines,h.g,?_,?_,fun y hy=>h.wf y (List.mem_cons_of_mem _ hy),by have:=h.cnt;rw [List.length_cons] at this;omega⟩
 · have e:(stO (x::st')).take m=stO st':=by simp [stO,hm]
   rw [←e];exact h8
 · have e:(stE (x::st')).take m=stE st':=by simp [stE,hm]
   rw [←e];exact h9
theorem GQ.Iw {base g9 c9 M m:Nat}{w:World}{v7 v8:Value}{og gs:List Gr}{x:Ope}{st':List Ope}(h:GQ base w v7 v8 (.slice (some ⟨g9,0,none⟩) M c9) og gs (x::st'))(hm:m=st'.length):
 w.cell? ⟨g9,m,none⟩=some (.bool x.2.2)∧w.frozen? ⟨g9,m,none⟩=false:=by
 subst hm
 obtain ⟨g,c,e,h1,_,_⟩:=BH h.e
 simp only [Value.slice.injEq] at e
 obtain ⟨e, -, -⟩:=e
 injection e with e
 injection e with e
 subst e
 obtain ⟨c9',hc9⟩:=Kd.fQ h.e _ rfl
 exact ⟨h1,aj hc9 _⟩
theorem GQ.at_ {base B n cap:Nat}{w:World}{v8 v9:Value}{og gs:List Gr}{nn:Nat}{x:Ope}{st':List Ope}{ls:List Int}{b2 b3 b4:Int}(h:GQ base w (.slice (some ⟨B,0,none⟩) n cap) v8 v9 og gs (x::st'))(hn:nn<og.length)(hgg:fV og nn=(ls,b2,b3,b4)):
 ∃(A:Option Addr) (cl:Nat),w.cell? ⟨B,nn*4,none⟩=some (.slice A ls.length cl)∧w.cell? ⟨B,nn*4+1,none⟩=some (.int .i64 b2)∧w.frozen? ⟨B,nn*4+1,none⟩=false:=by
 have hn2:=(Kd.sO h.g).1
 obtain ⟨oki,cc,hcl,hM,hcc,hfr,hoki,hH⟩:=Kd.lX h.g ([],0,0,0) nn (by omega) (by omega)
 rw [Int.toNat_natCast] at hM hcc hfr
 change kGr.M w base oki (fV og nn) cc at hM
 rw [hgg] at hM
 obtain ⟨_,_,rfl,⟨vl,rfl,hR⟩,⟨_,_,rfl,rfl,⟨_,_,rfl,rfl,rfl⟩⟩⟩:=hM
 obtain ⟨Al,cl,e⟩:=Kd.bF hR
 rw [e] at hcc
 exact ⟨Al,cl,hcc 0 _ rfl,hcc 1 _ rfl,hfr 1⟩
theorem GQ.yX {base B n cap g9 M c9 m:Nat}{w:World}{v8:Value}{og gs:List Gr}{nn:Nat}{x:Ope}{st':List Ope}{ls:List Int}{b2 b3 b4:Int}(h:GQ base w (.slice (some ⟨B,0,none⟩) n cap) v8 (.slice (some ⟨g9,0,none⟩) M c9) og gs (x::st'))(hm:m=st'.length)(hn:nn<og.length)(hgg:fV og nn=(ls,b2,b3,b4)):
 (∀u,(w.setCell ⟨B,nn*4+1,none⟩ u).cell? ⟨g9,m,none⟩=some (.bool x.2.2))∧(∀u,(w.setCell ⟨B,nn*4+1,none⟩ u).cell? ⟨B,nn*4+1,none⟩=some u)∧(∀u,(w.setCell ⟨B,nn*4+1,none⟩ u).frozen? ⟨B,nn*4+1,none⟩=false):=by
 obtain ⟨cB,hB⟩:=Kd.kE h.g B rfl
 obtain ⟨c9',hc9⟩:=Kd.fQ h.e g9 rfl
 have hne:g9≠B:=I5 hc9 hB (by decide)
 obtain ⟨A,cl,h0,h1,h2⟩:=h.at_ hn hgg
 have h9:=(h.Iw hm).1
 have hsz:nn*4+1<cB.size:=by
  have:=h1
  rw [aC hB] at this
  exact (Array.getElem?_eq_some_iff.1 this).1
 refine ⟨fun u=> ?_,fun u=> ?_,fun u=> ?_⟩
 · rw [aC hc9] at h9
   rw [aC (dX hc9 (p:=⟨B,nn*4+1,none⟩) hne u)]
   exact h9
 · rw [aC (fJ hB _ _)]
   simp [hsz]
 · exact aj (fJ hB _ _) _
theorem LQ:∃i,Tryz.prog.info? 3=some i:=Option.isSome_iff_exists.1 (by kernel_rfl)
theorem LP:∃i,Tryz.prog.info? 4=some i:=Option.isSome_iff_exists.1 (by kernel_rfl)
theorem zZ (A:Option Addr)(n c m:Nat)(hm:m≤n)(hc:n≤c):∀W:World,(Instr.slice 120 (.slice A n c) none (some (.int .i64 (m:Int))) none).run Tryz.prog W= .ok (.slice A m c) W:=by
 obtain ⟨i,hi⟩:=LQ
 exact IY 120 3 .i64 Tryz.underlying120 hi A n c (m:Int) (by omega) (by omega) hc
theorem xX (A:Option Addr)(n c m:Nat)(hm:m≤n)(hc:n≤c):∀W:World,(Instr.slice 61 (.slice A n c) none (some (.int .i64 (m:Int))) none).run Tryz.prog W= .ok (.slice A m c) W:=by
 obtain ⟨i,hi⟩:=LP
 exact IY 61 4 .i64 Tryz.underlying61 hi A n c (m:Int) (by omega) (by omega) hc
structure GB (base:Nat)(w:World)(v7 v8 v9:Value)(og:List Gr)(O:List Int)(E:List Bool)(L G:Nat)(a p b:Int):Prop where
 g:Kd.S kGr 146 w base (fun k=>(k≠L∧k≠G)∧some k≠v8.ownBlock) v7 og
 o:Kd.R (Kd.int .i64) 3 w base (fun _=>True) v8 O
 e:Kd.R Kd.bool 4 w base (fun _=>True) v9 E
 hL:w.heap[L]? =some (.cells #[.int .i64 a] 3 (0,0))
 hG:w.heap[G]? =some (.cells #[.slice (some ⟨L,0,none⟩) 1 1,.int .i64 2,.int .i64 p,.int .i64 b] 146 (0,0))
 nL:some L≠v8.ownBlock
 nG:some G≠v7.ownBlock
 bL:base≤L
theorem lW {W:World}{k:Nat}{c c':Array Value}{t t':TypeId}(h1:W.heap[k]? =some (.cells c t (0,0)))(h2:W.heap[k]? =some (.cells c' t' (0,0)))(hne:t≠t'):False:=by
 rw [h1] at h2;injection h2 with h2;injection h2 with _ h2;exact hne h2
theorem GB.made {base:Nat}{w9:World}{v7 v8 v9:Value}{og gs:List Gr}{st:List Ope}(h:GQ base w9 v7 v8 v9 og gs st)(a:Int)(hb:base≤w9.heap.size):
 GB base ((w9.alloc (Obj.cells #[Value.int IntKind.i64 a] 3)).alloc (Obj.cells #[Value.slice (some {block:=w9.heap.size,off:=0}) 1 1,Value.int IntKind.i64 2,Value.int IntKind.i64 (-1),Value.int IntKind.i64 0] 146)) v7 v8 v9 og (stO st) (stE st) w9.heap.size (w9.heap.size+1) a (-1) 0:=by
 have hB:Below w9.heap.size w9 ((w9.alloc (Obj.cells #[Value.int IntKind.i64 a] 3)).alloc (Obj.cells #[Value.slice (some {block:=w9.heap.size,off:=0}) 1 1,Value.int IntKind.i64 2,Value.int IntKind.i64 (-1),Value.int IntKind.i64 0] 146)):=aA (aA (Below.refl _ _) _) _
 have h8:=Kd.xJ h.o
 have h7:=Kd.Ja h.g
 refine ⟨Kd.qj (Kd.ru (Kd.vH h.g) (fun k hk=>⟨by have:=hk.2.2.1;omega,hk.1.2⟩)) hB,Kd.dn h.o hB,Kd.dn h.e hB,?_,?_,fun e=>by have:=h8 _ e.symm;omega,fun e=>by have:=h7 _ e.symm;omega,hb⟩
 · exact dN (dh _ _) _
 · have:=dh (w9.alloc (Obj.cells #[Value.int IntKind.i64 a] 3)) (Obj.cells #[Value.slice (some {block:=w9.heap.size,off:=0}) 1 1,Value.int IntKind.i64 2,Value.int IntKind.i64 (-1),Value.int IntKind.i64 0] 146)
   rwa [bT] at this
theorem GB.told {base:Nat}{w:World}{v7 v8 v9:Value}{og:List Gr}{O:List Int}{E:List Bool}{L G:Nat}{a p b:Int}(h:GB base w v7 v8 v9 og O E L G a p b)(p' b':Int):
 GB base ((w.setCell ⟨G,2,none⟩ (.int .i64 p')).setCell ⟨G,3,none⟩ (.int .i64 b')) v7 v8 v9 og O E L G a p' b':=by
 have hne:L≠G:=fun e=>by have:=h.hL;rw [e] at this;exact lW this h.hG (by decide)
 have hG2:=dR h.hG 2 (.int .i64 p') rfl
 refine ⟨Kd.AP (Kd.AP h.g (fun k hk _=>Below.heap_setCell w ⟨G,2,none⟩ _ k hk.1.2)) (fun k hk _=>Below.heap_setCell _ ⟨G,3,none⟩ _ k hk.1.2),Kd.lV (Kd.lV h.o h.hG (by decide) 2 _) hG2 (by decide) 3 _,Kd.lV (Kd.lV h.e h.hG (by decide) 2 _) hG2 (by decide) 3 _,dX (dX h.hL hne _) hne _,dR hG2 3 _ rfl,h.nL,h.nG,h.bL⟩
theorem GB.opened {base:Nat}{W w1:World}{v7 v8 v9 v1:Value}{og:List Gr}{O:List Int}{E:List Bool}{L G:Nat}{a p b x:Int}(h:GB base W v7 v8 v9 og O E L G a p b)(ho:Kd.R (Kd.int .i64) 3 w1 base (fun _=>True) v1 (O++[x]))
 (hg:W.grownBy w1 v8.ownBlock) (hat:v1.ownBlock=v8.ownBlock∨∃b,v1.ownBlock=some b∧W.heap.size≤b):GB base w1 v7 v1 v9 og (O++[x]) E L G a p b:=by
 refine ⟨Kd.KE h.g hg hat,ho,Kd.jO h.e rfl hg (fun k hk e=> ?_),kP h.hL hg h.nL,kP h.hG hg (fun e=> ?_),?_,h.nG,h.bL⟩
 · obtain ⟨c1,e1⟩:=Kd.fQ h.o k hk
   obtain ⟨c2,e2⟩:=Kd.fQ h.e k e.symm
   exact lW e1 e2 (by decide)
 · obtain ⟨c1,e1⟩:=Kd.fQ h.o G e.symm
   exact lW e1 h.hG (by decide)
 · rcases hat with e|⟨b',e,hb'⟩
   · rw [e];exact h.nL
   · rw [e]
     intro e'
     injection e' with e'
     have:=aT h.hL
     omega
theorem GB.ET {base:Nat}{W w1:World}{v7 v8 v9 v1:Value}{og:List Gr}{O:List Int}{E:List Bool}{L G:Nat}{a p b:Int}{x:Bool}(h:GB base W v7 v8 v9 og O E L G a p b)(he:Kd.R Kd.bool 4 w1 base (fun _=>True) v1 (E++[x]))
 (hg:W.grownBy w1 v9.ownBlock):GB base w1 v7 v8 v1 og O (E++[x]) L G a p b:=by
 refine ⟨Kd.KC h.g (fun k hk=>Kd.fQ h.e k hk) (by decide) hg,Kd.jO h.o rfl hg (fun k hk e=> ?_),he,kP h.hL hg (fun e=> ?_),kP h.hG hg (fun e=> ?_),h.nL,h.nG,h.bL⟩
 · obtain ⟨c1,e1⟩:=Kd.fQ h.e k hk
   obtain ⟨c2,e2⟩:=Kd.fQ h.o k e.symm
   exact lW e1 e2 (by decide)
 · obtain ⟨c1,e1⟩:=Kd.fQ h.e L e.symm
   exact lW e1 h.hL (by decide)
 · obtain ⟨c1,e1⟩:=Kd.fQ h.e G e.symm
   exact lW e1 h.hG (by decide)
theorem GB.M {base:Nat}{W:World}{v7 v8 v9:Value}{og:List Gr}{O:List Int}{E:List Bool}{L G:Nat}{a p b:Int}(h:GB base W v7 v8 v9 og O E L G a p b):
 kGr.M W base (fun k=>k=L) ([a],2,p,b) [.slice (some ⟨L,0,none⟩) 1 1,.int .i64 2,.int .i64 p,.int .i64 b]:=
 ⟨[.slice (some ⟨L,0,none⟩) 1 1],_,rfl,⟨_,rfl,wR h.hL h.bL⟩,⟨[.int .i64 2],_,rfl,rfl,⟨[.int .i64 p],_,rfl,rfl,rfl⟩⟩⟩
theorem GB.okp {base:Nat}{W:World}{v7 v8 v9:Value}{og:List Gr}{O:List Int}{E:List Bool}{L G:Nat}{a p b:Int}(h:GB base W v7 v8 v9 og O E L G a p b):∀k,k=L→(True∧some k≠v8.ownBlock)∧some k≠v7.ownBlock:=by
 rintro k rfl
 refine ⟨⟨trivial,h.nL⟩,fun e=> ?_⟩
 obtain ⟨c1,e1⟩:=Kd.kE h.g k e.symm
 exact lW e1 h.hL (by decide)
theorem GB.fresh {base:Nat}{W:World}{v7 v8 v9:Value}{og:List Gr}{O:List Int}{E:List Bool}{L G:Nat}{a p b:Int}(h:GB base W v7 v8 v9 og O E L G a p b):∀k,W.heap.size≤k→True∧some k≠v8.ownBlock:=
 fun k hk=>⟨trivial,fun e=>by have:=Kd.xJ h.o k e.symm;omega⟩
theorem GB.Nl {base:Nat}{W:World}{v7 v8 v9:Value}{og:List Gr}{O:List Int}{E:List Bool}{L G:Nat}{a p b:Int}(h:GB base W v7 v8 v9 og O E L G a p b):Kd.S kGr 146 W base (fun k=>(True∧some k≠v8.ownBlock)∧¬k=L) v7 og:=
 Kd.ru h.g (fun k hk=>⟨⟨trivial,hk.2⟩,hk.1.1⟩)
theorem GB.done {base:Nat}{W w1:World}{v7 v8 v9 v1:Value}{og gs:List Gr}{st:List Ope}{L G:Nat}{a p b:Int}{y:Int × Int × Int}{br:Int}(h:GB base W v7 v8 v9 og (stO st++[(gs.length:Int)]) (stE st++[false]) L G a p b)
 (hl:og.map (·.1)=gs.map (·.1)) (hwf:∀x∈st,x.1<gs.length) (hc:st.length≤gs.length) (hs:Kd.S kGr 146 w1 base (fun k=>True∧some k≠v8.ownBlock) v1 (og++[([a],2,p,b)])) (hg:W.grownBy w1 v7.ownBlock):
 GQ base w1 v1 v8 v9 (og++[([a],2,p,b)]) (gs++[([a],y)]) ((gs.length,br,false)::st):=by
 refine ⟨by rw [List.map_append,List.map_append,hl];rfl,hs,?_,?_,fun x hx=> ?_,by rw [List.length_append,List.length_cons,List.length_singleton];omega⟩
 · have e:stO ((gs.length,br,false)::st)=stO st++[(gs.length:Int)]:=by simp [stO]
   rw [e]
   refine Kd.jO h.o rfl hg (fun k hk e=> ?_)
   obtain ⟨c1,e1⟩:=Kd.kE h.g k hk
   obtain ⟨c2,e2⟩:=Kd.fQ h.o k e.symm
   exact lW e1 e2 (by decide)
 · have e:stE ((gs.length,br,false)::st)=stE st++[false]:=by simp [stE]
   rw [e]
   refine Kd.jO h.e rfl hg (fun k hk e=> ?_)
   obtain ⟨c1,e1⟩:=Kd.kE h.g k hk
   obtain ⟨c2,e2⟩:=Kd.fQ h.e k e.symm
   exact lW e1 e2 (by decide)
 · rw [List.length_append,List.length_singleton]
   rcases List.mem_cons.1 hx with rfl|hx
   · show gs.length<_;omega
   · have:=hwf x hx;omega
theorem GB.reads {base B n cap g8 M c8 m:Nat}{w:World}{v9:Value}{og:List Gr}{nn:Nat}{br:Int}{hs:Bool}{st':List Ope}{E:List Bool}{L G:Nat}{a p b:Int}(h:GB base w (.slice (some ⟨B,0,none⟩) n cap) (.slice (some ⟨g8,0,none⟩) M c8) v9 og (stO ((nn,br,hs)::st')) E L G a p b)(hm:m=st'.length)(hn:nn<og.length):
 ∃(Al:Option Addr) (cl:Nat),w.cell? ⟨g8,m,none⟩=some (.int .i64 nn)∧w.cell? ⟨G,2,none⟩=some (.int .i64 p)∧w.frozen? ⟨G,2,none⟩=false∧
  (∀u,(w.setCell ⟨G,2,none⟩ u).cell? ⟨g8,m,none⟩=some (.int .i64 nn))∧(∀u,(w.setCell ⟨G,2,none⟩ u).cell? ⟨B,nn*4,none⟩=some (.slice Al (fV og nn).1.length cl))∧
  (∀u,(w.setCell ⟨G,2,none⟩ u).cell? ⟨G,3,none⟩=some (.int .i64 b))∧(∀u,(w.setCell ⟨G,2,none⟩ u).frozen? ⟨G,3,none⟩=false):=by
 subst hm
 obtain ⟨g,c,e,h1,_,_⟩:=rF h.o
 simp only [Value.slice.injEq] at e
 obtain ⟨e, -, -⟩:=e
 injection e with e
 injection e with e
 subst e
 obtain ⟨c8',hc8⟩:=Kd.fQ h.o _ rfl
 obtain ⟨cB,hB⟩:=Kd.kE h.g B rfl
 have n8:g8≠G:=I5 hc8 h.hG (by decide)
 have nB:B≠G:=fun e=>h.nG (by rw [←e];rfl)
 have hn2:=(Kd.sO h.g).1
 obtain ⟨oki,cc,hcl,hM,hcc,hfr,hoki,hH⟩:=Kd.lX h.g ([],0,0,0) nn (by omega) (by omega)
 rw [Int.toNat_natCast] at hM hcc hfr
 change kGr.M w base oki (fV og nn) cc at hM
 generalize hg:fV og nn=gg at *
 obtain ⟨ls,b2,b3,b4⟩:=gg
 obtain ⟨_,_,rfl,⟨vl,rfl,hR⟩,⟨_,_,rfl,rfl,⟨_,_,rfl,rfl,rfl⟩⟩⟩:=hM
 simp only at hR
 obtain ⟨Al,cl,rfl⟩:=Kd.bF hR
 have hv0:w.cell? ⟨B,nn*4,none⟩=some (.slice Al ls.length cl):=hcc 0 _ rfl
 refine ⟨Al,cl,h1,aC h.hG 2,aj h.hG 2,fun u=> ?_,fun u=> ?_,fun u=> ?_,fun u=>aj (fJ h.hG _ _) _⟩
 · rw [aC hc8] at h1
   rw [aC (dX hc8 (p:=⟨G,2,none⟩) n8 u)]
   exact h1
 · rw [aC hB] at hv0
   rw [aC (dX hB (p:=⟨G,2,none⟩) nB u)]
   exact hv0
 · rw [aC (fJ h.hG _ _)]
   rfl
theorem Ll (w:World)(a b:Addr)(u v:Value):((w.setCell a u).setCell b v).heap.size=w.heap.size:=by simp
theorem Ls (r:ByteArray)(hk:r.toList=jI∨r.toList=jl∨r.toList=gU):∃bi bs be:Bool,um r bi bs be∧(bi||bs||be)=true∧((bi=true∧bs=false∧be=false)∨(bi=false∧bs=true∧be=false)∨(bi=false∧bs=false∧be=true)):=by
 rcases wW r hk with h|h|h
 · exact ⟨_,_,_,h,rfl,.inl ⟨rfl,rfl,rfl⟩⟩
 · exact ⟨_,_,_,h,rfl,.inr (.inl ⟨rfl,rfl,rfl⟩)⟩
 · exact ⟨_,_,_,h,rfl,.inr (.inr ⟨rfl,rfl,rfl⟩)⟩
theorem Ad {a j i:Nat}(h:a≤j)(h1:j<i)(h2:i≤900000):(a+1)*8≤140737488355328:=by omega
theorem uH (ys:List Tk)(ks:List ByteArray)(w:World)(A:Option Addr)(c:Nat)(hC:Kd.C kTk w A ys.length ys)(hc:ys.length≤c)(hl:ys.length≤900000)(hkl:ks.length=ys.length)
 (hK:∀(i:Nat) (t:Tk),ys[i]? =some t→∃r k,ks[i]? =some r∧OKin.bD.f k t.1 t.2.1 t.2.2.1 t.2.2.2=some r):
 Calls Tryz.prog 47 #[.slice A ys.length c] w fun e w'=>∃(v:Value) (x:Int) (og:List Gr),e= .returned (.tuple #[v,.int .i64 (bZ ks).2.1,.int .i64 x])∧og.map (·.1)=(bZ ks).1.map (·.1)∧Kd.R kGr 146 w' w.heap.size (fun _=>True) v og∧Below w.heap.size w w':=by
 have H82:=fun W k=>ORef.iH.calls k _ W (JH k)
 have HC:=z0 hC
 have HK:=z0 hK
 have HKL:=z0 hkl
 obtain ⟨n,hn⟩:∃n,n=ys.length:=⟨_,rfl⟩
 rw [←hn] at hc hl ⊢
 have HN:=z0 hn
 clear hC hK hkl hn
 go_enter Tryz.func47,Tryz.ntmps47
 go_wp2_with (fail)
 go_loopg [5,6] n (fun kq v5 v6 w'=>∃(i:Nat),v6= .int .i64 i∧v5= .int .i64 (jL (ks.take i))∧ah (kq+i=n)∧ah (Below w.heap.size w w'))
 case atStart=>exact ⟨0,rfl,rfl,⟨rfl⟩,⟨Below.refl _ _⟩⟩
 case round=>
  obtain ⟨i,rfl,rfl,hki,hB⟩:=hrel
  have hki':=hki.out
  cases gk with
  |zero=>
   have hlt:decide ((i:Int)<(n:Int))=false:=decide_eq_false (by omega)
   obtain rfl:i=n:=by omega
   have ht:ks.take i=ks:=List.take_of_length_le (by rw [HKL.out,←HN.out];omega)
   rw [ht]
   clear ht
   by_cases hbig:200<jL ks
   · have hb1:decide ((200:Int)<(jL ks:Int))=true:=decide_eq_true (by omega)
     go_wp2
     go_ret3
     have hgr:bZ ks=([],2,0):=by unfold bZ;rw [if_pos hbig]
     rw [hgr]
     exact ⟨_,_,[],rfl,rfl,Kd.gQ _ _ _ _ _,hB.out⟩
   · have hb1:decide ((200:Int)<(jL ks:Int))=false:=decide_eq_false (by omega)
     have HBIG:=z0 hbig
     clear hbig
     have HLE:=z0 hl
     go_wp2_with (fail)
     go_loopg [7,8,9,10] i (fun kq v7 v8 v9 v10 w'=>∃(j:Nat) (og gs:List Gr) (st:List Ope),v10= .int .i64 j∧ah (kq+j=i)∧ah (lu (ks.drop j) j gs st=lu ks 0 [] [])∧ah (GQ w.heap.size w' v7 v8 v9 og gs st)∧ah (Below w.heap.size w w')∧ah (GInv j gs))
     case atStart=>exact ⟨0,[],[],[],rfl,⟨rfl⟩,⟨rfl⟩,⟨GQ.nil _ _⟩,hB,⟨⟨Nat.le_refl _,fun g hg=>by cases hg⟩⟩⟩
     case round=>
      obtain ⟨j,og,gs,st,rfl,hkj,hGo,hGQ,hBj,hI⟩:=hrel
      have hkj':=hkj.out
      cases gk with
      |zero=>
       obtain rfl:j=i:=by omega
       have hlt:decide ((j:Int)<(j:Int))=false:=decide_eq_false (by omega)
       have hgo:=hGo.out
       rw [List.drop_eq_nil_of_le (by rw [HKL.out,←HN.out];omega)] at hgo
       cases st with
       |nil=>
        obtain ⟨A8,c8,e8⟩:=Kd.bF hGQ.out.o
        subst e8
        go_wp2_with (fail)
        go_ret3
        have hgr:bZ ks=(gs,0,0):=by unfold bZ;rw [if_neg HBIG.out,←hgo];rfl
        rw [hgr]
        exact ⟨_,_,og,rfl,hGQ.out.lines,Kd.S_R (Kd.ru hGQ.out.g (fun _ _=>trivial)),hBj.out⟩
       |cons x st'=>
        obtain ⟨nn,br,hs_⟩:=x
        have hQ:=hGQ.out
        have hnl:nn<og.length:=by rw [hQ.len];exact hQ.wf _ List.mem_cons_self
        obtain ⟨B,cap,rfl,hB0,hB1,hBc⟩:=Kd.uh hQ.g (by omega)
        obtain ⟨g8,c8,rfl,hv8,hm8,hm8'⟩:=rF hQ.o
        obtain ⟨oki,cc,hcl,hM,hcc,hfr,hoki,hH⟩:=Kd.lX hQ.g ([],0,0,0) nn (by omega) (by omega)
        rw [Int.toNat_natCast] at hM hcc hfr
        change kGr.M wr w.heap.size oki (fV og nn) cc at hM
        have hfst:=oH hQ.lines hnl
        have hgm:fV gs nn∈gs:=by
         have e:fV gs nn=gs[nn]'(by rw [←hQ.len];exact hnl):=by simp [fV,show nn<gs.length by rw [←hQ.len];exact hnl]
         rw [e];exact List.getElem_mem _
        have hne:=(hI.out.2 _ hgm).2
        have hgr:bZ ks=([],30,(fV gs nn).1.headD 0):=by unfold bZ;rw [if_neg HBIG.out,←hgo];rfl
        rw [←hfst] at hne
        generalize hg:fV og nn=gg at *
        obtain ⟨ls,b2,b3,b4⟩:=gg
        obtain ⟨_,_,rfl,⟨vl,rfl,hR⟩,⟨_,_,rfl,rfl,⟨_,_,rfl,rfl,rfl⟩⟩⟩:=hM
        simp only at hR hne
        obtain ⟨l0,lt,rfl⟩:∃l0 lt,ls=l0::lt:=by cases ls with|nil=>exact absurd rfl hne|cons a b=>exact ⟨a,b,rfl⟩
        obtain ⟨gl,cl,rfl,_,_,_⟩:=Kd.rC hR (by simp)
        have hv0:wr.cell? ⟨B,nn*4,none⟩=some (.slice (some ⟨gl,0,none⟩) (lt.length+1) cl):=hcc 0 _ rfl
        obtain ⟨cx,_,hMx,hcx,_⟩:=Kd.kZ hR 0 0 (by omega) (by simp)
        obtain rfl:=hMx
        have hx0:wr.cell? ⟨gl,0,none⟩=some (.int .i64 l0):=by have:=hcx 0 _ rfl;simpa [Kd.int,Kd.scalar] using this
        have hz:(0:Int)<((lt.length+1:Nat):Int):=by omega
        have hi1:(0:Int)≤(nn:Int):=by omega
        have hi2:(nn:Int)<(og.length:Int):=by omega
        obtain ⟨m,hm⟩:∃m,m=st'.length:=⟨_,rfl⟩
        rw [←hm] at hv8 ⊢
        have hmb:m≤900000:=by rw [hm];have h1:=hQ.cnt;simp only [List.length_cons] at h1;have:=HLE.out;have:=hI.out.1;omega
        obtain ⟨M,hM⟩:∃M,M=m+1:=⟨_,rfl⟩
        rw [←hM]
        have x1:IntKind.i64.wrap ((M:Int)-1)=(m:Int):=by rw [dZ,OScan.wr (by omega) (by omega)];omega
        have x2:(m:Int)<(M:Int):=by omega
        have x3:(0:Int)≤(m:Int):=by omega
        have x4:(0:Int)<(M:Int):=by omega
        have HGR:=z0 hgr
        clear hgr hcx hcc hfr hoki hH hR hcl hg hgm hne hBc hgo hfst hQ hnl hm hM hmb
        go_wp2_with (fail)
        go_quiet (fail)
        go_wp2
        go_ret3
        rw [HGR.out]
        exact ⟨_,_,[],rfl,rfl,Kd.gQ _ _ _ _ _,aY hBj.out _⟩
      |succ g2=>
       have hlt:decide ((j:Int)<(i:Int))=true:=decide_eq_true (by omega)
       have hji:j<i:=by omega
       have hjj:(0:Int)≤(j:Int):=by omega
       obtain ⟨x,hx⟩:∃x,ys[j]? =some x:=⟨_,List.getElem?_eq_getElem (by rw [←HN.out];exact hji)⟩
       obtain ⟨r,kf,hr,hkf⟩:=HK.out j x hx
       obtain ⟨ad,hA,hx0,hx1,hx2,hx3⟩:=uz HC.out j (by rw [←HN.out];exact hji) x hx
       obtain rfl:=hA
       replace hx0:=(hBj.out.cell (World.block_lt_of_cell? w _ hx0)).trans hx0
       replace hx1:=(hBj.out.cell (World.block_lt_of_cell? w _ hx1)).trans hx1
       replace hx2:=(hBj.out.cell (World.block_lt_of_cell? w _ hx2)).trans hx2
       replace hx3:=(hBj.out.cell (World.block_lt_of_cell? w _ hx3)).trans hx3
       clear hx
       obtain ⟨kd,bf,tx,a1⟩:=x
       simp only at hx0 hx1 hx2 hx3 hkf
       have HKF:=z0 hkf
       have hgo:=hGo.out
       have hdr:ks.drop j=r::ks.drop (j+1):=by
        obtain ⟨hl',he'⟩:=List.getElem?_eq_some_iff.1 hr
        rw [List.drop_eq_getElem_cons hl',he']
       rw [hdr,lu] at hgo
       clear hr hdr hkf
       obtain ⟨A7,c7,e7⟩:=Kd.sN hGQ.out.g
       obtain ⟨A8,c8,e8⟩:=Kd.bF hGQ.out.o
       obtain ⟨A9,c9,e9⟩:=Kd.bF hGQ.out.e
       obtain ⟨G7,hG7⟩:∃G7,G7=og.length:=⟨_,rfl⟩
       rw [←hG7] at e7
       rw [vg] at e8
       rw [vk] at e9
       subst e7 e8 e9
       have HG7:=z0 hG7
       clear hG7
       have hnlen:i≤900000:=HLE.out
       by_cases hop:je r=true
       · have H82r:=fun W=>H82 W r
         rw [hop] at H82r
         have hsf:ji r j gs st=some (oK j gs st):=by unfold ji;rw [if_pos hop]
         rw [hsf] at hgo
         have HGO:=z0 hgo
         have HI':=z0 (hI.out.step hsf)
         clear hgo hsf hop
         cases st with
         |nil=>
          have HLN:ah ((stO []++[(G7:Int)]).length=0+1∧(stE []++[false]).length=0+1∧((stO []).length+1)*8≤140737488355328∧((stE []).length+1)*1≤140737488355328∧(og.length+1)*48≤140737488355328):=⟨by
           have h1:=hGQ.out.cnt
           have h2:=hI.out.1
           have h3:=hGQ.out.len
           rw [List.length_append,List.length_append,vg,vk,List.length_singleton,List.length_singleton]
           refine ⟨rfl,rfl,?_,?_,?_⟩<;>omega⟩
          go_wp2_with (first|(go_at_call 83;go_loud (refine (OKin.bD.calls kf kd bf tx a1 r _ HKF.out).mono ?_;rintro e w7 ⟨rfl,hb7⟩;have HB7:=z0 (ak hBj.out hb7);have HQ7:=z0 (hGQ.out.below hb7);clear hb7))|(go_at_call 82;go_loud (refine (H82r _).mono ?_;rintro e w9 ⟨rfl,hd⟩;have HB9:=z0 (ak HB7.out hd.below);have HQ9:=z0 (HQ7.out.below hd.below);clear hd))|(refine lC (.binOp .geq 3 (.tmp 51) (.const (.int .i64 0)) 3) rfl ?_;go_loud (obtain ⟨w10,hw10⟩:∃w10,w10=((w9.alloc (Obj.cells #[Value.int IntKind.i64 (j:Int)] 3)).alloc (Obj.cells #[Value.slice (some {block:=w9.heap.size,off:=0}) 1 1,Value.int IntKind.i64 2,Value.int IntKind.i64 (-1),Value.int IntKind.i64 0] 146)):=⟨_,rfl⟩;rw [←hw10];obtain ⟨L,hL⟩:∃L,L=w9.heap.size:=⟨_,rfl⟩;obtain ⟨G,hG⟩:∃G,G=w9.heap.size+1:=⟨_,rfl⟩;rw [←hG];have HGB:=GB.made HQ9.out (j:Int) (aQ HB9.out);rw [←hw10,←hG,←hL] at HGB;have HB10:ah (Below w.heap.size w w10):=⟨by rw [hw10];exact aA (aA HB9.out _) _⟩;replace HGB:=z0 HGB;clear hw10 hL hG))|(at_builtin;go_loud (refine Kd.fH (Kd.int .i64) (w0:=w) w.heap.size rfl (.tmp 69) (.tmp 72) 120 3 (.int .i64 0) 8 rfl Tryz.underlying120 (by kernel_rfl) rfl (by decide) (by omega) (.slice A8 0 c8) (stO []) (G7:Int) [.int .i64 (G7:Int)] (fun _=>True) (fun _=>False) rfl rfl rfl (fun _ hk=>hk.elim) (fun _ _=>trivial) HGB.out.o HB10.out (aQ HB10.out) (HLN.out.2.2.1) ?_;intro v1 w11 ho hb hg1 hat;obtain ⟨A81,c81,e81⟩:=Kd.bF ho;rw [HLN.out.1] at e81;subst e81;have HGB2:=z0 (HGB.out.opened ho hg1 hat);have HB11:=z0 hb;clear ho hb hg1 hat))|(at_builtin;go_loud (refine Kd.fH Kd.bool (w0:=w) w.heap.size rfl (.tmp 74) (.tmp 75) 61 4 (.bool false) 1 rfl Tryz.underlying61 (by kernel_rfl) rfl (by decide) (by omega) (.slice A9 0 c9) (stE []) false [.bool false] (fun _=>True) (fun _=>False) rfl rfl rfl (fun _ hk=>hk.elim) (fun _ _=>trivial) HGB2.out.e HB11.out (aQ HB11.out) (HLN.out.2.2.2.1) ?_;intro v1 w12 ho hb hg1 hat;obtain ⟨A91,c91,e91⟩:=Kd.bF ho;rw [HLN.out.2.1] at e91;subst e91;have HGB3:=z0 (HGB2.out.ET ho hg1);have HB12:=z0 hb;have f0:=aC HGB3.out.hG 0;have f1:=aC HGB3.out.hG 1;have f2:=aC HGB3.out.hG 2;have f3:=aC HGB3.out.hG 3;simp only [List.getElem?_toArray,List.getElem?_cons_zero,List.getElem?_cons_succ] at f0 f1 f2 f3;clear ho hb hg1 hat))|(at_builtin;go_loud (refine Kd.Dw kGr (w0:=w) w.heap.size rfl (.tmp 77) (.tmp 79) 101 146 (.agg #[(.slice none 0 0),(.int .i64 0),(.int .i64 0),(.int .i64 0)]) 48 rfl Tryz.underlying101 (by kernel_rfl) rfl (by decide) (by omega) (.slice A7 G7 c7) og ([(j:Int)],2,(-1),0) [.slice (some ⟨L,0,none⟩) 1 1,.int .i64 2,.int .i64 (-1),.int .i64 0] _ (fun k=>k=L) rfl rfl HGB3.out.M HGB3.out.okp HGB3.out.fresh HGB3.out.Nl HB12.out (aQ HB12.out) (HLN.out.2.2.2.2) ?_;intro v1 w13 ho hb hg1 hat;have HG13:=z0 hg1;have HS13:=z0 ho;have HB13:=z0 hb;clear ho hb hg1 hat)))
          go_roundg g2
          case measure=>omega
          case rel=>
           refine ⟨j+1,og++[([(j:Int)],2, -1,0)],_,_,(by first|rfl|simp),⟨by omega⟩,HGO,⟨?_⟩,HB13,HI'⟩
           have h:=HGB3.out
           rw [show (G7:Int)=(gs.length:Int) from by rw [HG7.out,hGQ.out.len]] at h
           exact GB.done h hGQ.out.lines hGQ.out.wf hGQ.out.cnt HS13.out HG13.out
         |cons x st'=>
          obtain ⟨nn,br,hs_⟩:=x
          obtain ⟨B,cap,e7,hB0,hB1,hBc⟩:=Kd.uh hGQ.out.g (by rw [hGQ.out.len];have:=hGQ.out.wf _ List.mem_cons_self;omega)
          rw [←HG7.out] at e7
          simp only [Value.slice.injEq] at e7
          obtain ⟨rfl, -,rfl⟩:=e7
          have hi1:(0:Int)≤(nn:Int):=by omega
          have hi2:(nn:Int)<(G7:Int):=by rw [HG7.out,hGQ.out.len];have:=hGQ.out.wf _ List.mem_cons_self;simp only at this;omega
          have HNO:ah (nn<og.length):=⟨by rw [hGQ.out.len];have:=hGQ.out.wf _ List.mem_cons_self;simpa using this⟩
          have hll:(fV og nn).1.length≤900000:=by
           obtain ⟨oki,ls,b2,b3,b4,Al,cl,h1,_⟩:=hGQ.out.lend hI.out
           rw [h1.out.1];show ls.length≤900000;have:=h1.out.2;have:=HLE.out;omega
          have hl1:1≤(fV og nn).1.length:=by
           rw [oH hGQ.out.lines HNO.out]
           have hnl2:nn<gs.length:=by rw [←hGQ.out.len];exact HNO.out
           have hgm:fV gs nn∈gs:=by
            have e:fV gs nn=gs[nn]:=by simp [fV,hnl2]
            rw [e];exact List.getElem_mem _
           have:=(hI.out.2 _ hgm).2
           exact List.length_pos_iff.2 this
          clear hB0 hB1 hBc
          obtain ⟨m,hm⟩:∃m,m=st'.length:=⟨_,rfl⟩
          obtain ⟨M,hM⟩:∃M,M=m+1:=⟨_,rfl⟩
          have hmb:m≤900000:=by rw [hm];have h1:=hGQ.out.cnt;simp only [List.length_cons] at h1;have:=HLE.out;have:=hI.out.1;omega
          have hML:((nn,br,hs_)::st').length=M:=by rw [List.length_cons,hM,hm]
          rw [hML] at hGQ ⊢
          have x1:IntKind.i64.wrap ((M:Int)-1)=(m:Int):=by rw [dZ,OScan.wr (by omega) (by omega)];omega
          have x2:(m:Int)<(M:Int):=by omega
          have x3:(0:Int)≤(m:Int):=by omega
          have x4:(0:Int)<(M:Int):=by omega
          obtain ⟨g8,c8',e8,hv8,hm8,hm8'⟩:=rF hGQ.out.o
          simp only [Value.slice.injEq] at e8
          obtain ⟨rfl, -,rfl⟩:=e8
          have HM:=z0 (And.intro hm hM)
          have HLN:ah ((stO ((nn,br,hs_)::st')++[(G7:Int)]).length=M+1∧(stE ((nn,br,hs_)::st')++[false]).length=M+1∧((stO ((nn,br,hs_)::st')).length+1)*8≤140737488355328∧((stE ((nn,br,hs_)::st')).length+1)*1≤140737488355328∧(og.length+1)*48≤140737488355328):=⟨by
           have h1:=hGQ.out.cnt
           have h2:=hI.out.1
           have h3:=hGQ.out.len
           rw [List.length_append,List.length_append,vg,vk,List.length_singleton,List.length_singleton,hML]
           rw [hML] at h1
           refine ⟨rfl,rfl,?_,?_,?_⟩<;>omega⟩
          clear hm hM hmb hML hv8 hm8 hm8'
          go_wp2_with (first|(go_at_call 83;go_loud (refine (OKin.bD.calls kf kd bf tx a1 r _ HKF.out).mono ?_;rintro e w7 ⟨rfl,hb7⟩;have HB7:=z0 (ak hBj.out hb7);have HQ7:=z0 (hGQ.out.below hb7);clear hb7))|(go_at_call 82;go_loud (refine (H82r _).mono ?_;rintro e w9 ⟨rfl,hd⟩;have HB9:=z0 (ak HB7.out hd.below);have HQ9:=z0 (HQ7.out.below hd.below);clear hd))|(refine lC (.binOp .geq 3 (.tmp 51) (.const (.int .i64 0)) 3) rfl ?_;go_loud (obtain ⟨w10,hw10⟩:∃w10,w10=((w9.alloc (Obj.cells #[Value.int IntKind.i64 (j:Int)] 3)).alloc (Obj.cells #[Value.slice (some {block:=w9.heap.size,off:=0}) 1 1,Value.int IntKind.i64 2,Value.int IntKind.i64 (-1),Value.int IntKind.i64 0] 146)):=⟨_,rfl⟩;rw [←hw10];obtain ⟨L,hL⟩:∃L,L=w9.heap.size:=⟨_,rfl⟩;obtain ⟨G,hG⟩:∃G,G=w9.heap.size+1:=⟨_,rfl⟩;rw [←hG];have HGB:=GB.made HQ9.out (j:Int) (aQ HB9.out);rw [←hw10,←hG,←hL] at HGB;have HB10:ah (Below w.heap.size w w10):=⟨by rw [hw10];exact aA (aA HB9.out _) _⟩;obtain ⟨Al,cl,r1,r2,r3,r4,r5,r6,r7⟩:=GB.reads HGB HM.out.1 HNO.out;have HGT:ah (∀p' b':Int,_):=z0 (fun p' b'=>HGB.told p' b');have HBT:ah (∀p' b':Int,Below w.heap.size w ((w10.setCell ⟨G,2,none⟩ (.int .i64 p')).setCell ⟨G,3,none⟩ (.int .i64 b'))):=⟨fun p' b'=>(HB10.out.setCell (by rw [hG];exact Nat.le_succ_of_le (aQ HB9.out)) _).setCell (by rw [hG];exact Nat.le_succ_of_le (aQ HB9.out)) _⟩;clear HGB hw10 hL hG))|(at_builtin;go_loud (refine Kd.fH (Kd.int .i64) (w0:=w) w.heap.size rfl (.tmp 69) (.tmp 72) 120 3 (.int .i64 0) 8 rfl Tryz.underlying120 (by kernel_rfl) rfl (by decide) (by omega) (.slice (some ⟨g8,0,none⟩) M c8) (stO ((nn,br,hs_)::st')) (G7:Int) [.int .i64 (G7:Int)] (fun _=>True) (fun _=>False) rfl (by rw [Ll];rfl) rfl (fun _ hk=>hk.elim) (fun _ _=>trivial) (HGT.out _ _).o (HBT.out _ _) (aQ (HBT.out _ _)) (HLN.out.2.2.1) ?_;intro v1 w11 ho hb hg1 hat;obtain ⟨A81,c81,e81⟩:=Kd.bF ho;rw [HLN.out.1] at e81;subst e81;have HGB2:=z0 ((HGT.out (nn:Int) ((fV og nn).1.length-1)).opened ho hg1 hat);have HB11:=z0 hb;clear ho hb hg1 hat))|(at_builtin;go_loud (refine Kd.fH Kd.bool (w0:=w) w.heap.size rfl (.tmp 74) (.tmp 75) 61 4 (.bool false) 1 rfl Tryz.underlying61 (by kernel_rfl) rfl (by decide) (by omega) (.slice A9 M c9) (stE ((nn,br,hs_)::st')) false [.bool false] (fun _=>True) (fun _=>False) rfl rfl rfl (fun _ hk=>hk.elim) (fun _ _=>trivial) HGB2.out.e HB11.out (aQ HB11.out) (HLN.out.2.2.2.1) ?_;intro v1 w12 ho hb hg1 hat;obtain ⟨A91,c91,e91⟩:=Kd.bF ho;rw [HLN.out.2.1] at e91;subst e91;have HGB3:=z0 (HGB2.out.ET ho hg1);have HB12:=z0 hb;have f0:=aC HGB3.out.hG 0;have f1:=aC HGB3.out.hG 1;have f2:=aC HGB3.out.hG 2;have f3:=aC HGB3.out.hG 3;simp only [List.getElem?_toArray,List.getElem?_cons_zero,List.getElem?_cons_succ] at f0 f1 f2 f3;clear ho hb hg1 hat))|(at_builtin;go_loud (refine Kd.Dw kGr (w0:=w) w.heap.size rfl (.tmp 77) (.tmp 79) 101 146 (.agg #[(.slice none 0 0),(.int .i64 0),(.int .i64 0),(.int .i64 0)]) 48 rfl Tryz.underlying101 (by kernel_rfl) rfl (by decide) (by omega) (.slice (some ⟨B,0,none⟩) G7 c7) og ([(j:Int)],2,(nn:Int),((fV og nn).1.length:Int)-1) [.slice (some ⟨L,0,none⟩) 1 1,.int .i64 2,.int .i64 (nn:Int),.int .i64 (((fV og nn).1.length:Int)-1)] _ (fun k=>k=L) rfl rfl HGB3.out.M HGB3.out.okp HGB3.out.fresh HGB3.out.Nl HB12.out (aQ HB12.out) (HLN.out.2.2.2.2) ?_;intro v1 w13 ho hb hg1 hat;have HG13:=z0 hg1;have HS13:=z0 ho;have HB13:=z0 hb;clear ho hb hg1 hat)))
          go_roundg g2
          case measure=>omega
          case rel=>
           refine ⟨j+1,og++[([(j:Int)],2,(nn:Int),((fV og nn).1.length:Int)-1)],_,_,(by first|rfl|simp),⟨by omega⟩,HGO,⟨?_⟩,HB13,HI'⟩
           have h:=HGB3.out
           rw [show (G7:Int)=(gs.length:Int) from by rw [HG7.out,hGQ.out.len]] at h
           exact GB.done h hGQ.out.lines hGQ.out.wf hGQ.out.cnt HS13.out HG13.out
       · have H82r:=fun W=>H82 W r
         rw [show je r=false from by simpa using hop] at H82r
         by_cases hid:r.toList≠jI∧r.toList≠jl∧r.toList≠gU
         · have q1:(r.toList==jI)=false:=beq_eq_false_iff_ne.2 hid.1
           have q2:(r.toList==jl)=false:=beq_eq_false_iff_ne.2 hid.2.1
           have q3:(r.toList==gU)=false:=beq_eq_false_iff_ne.2 hid.2.2
           have hsf:ji r j gs st=some (gs,st):=by unfold ji;rw [if_neg hop,if_pos hid]
           rw [hsf] at hgo
           have HGO:=z0 hgo
           have HI':=z0 (hI.out.mono (Nat.le_succ j))
           clear hgo hsf hid hop
           go_wp2_with (first|(go_at_call 83;go_loud (refine (OKin.bD.calls kf kd bf tx a1 r _ HKF.out).mono ?_;rintro e w7 ⟨rfl,hb7⟩;have HB7:=z0 (ak hBj.out hb7);have HQ7:=z0 (hGQ.out.below hb7);clear hb7))|(go_at_call 82;go_loud (refine (H82r _).mono ?_;rintro e w9 ⟨rfl,hd⟩;have HB9:=z0 (ak HB7.out hd.below);have HQ9:=z0 (HQ7.out.below hd.below);clear hd)))
           go_roundg g2
           case measure=>omega
           case rel=>exact ⟨j+1,og,gs,st,(by first|rfl|simp),⟨by omega⟩,HGO,HQ9,HB9,HI'⟩
         · have hk:r.toList=jI∨r.toList=jl∨r.toList=gU:=by
            by_cases h1:r.toList=jI
            · exact .inl h1
            · by_cases h2:r.toList=jl
              · exact .inr (.inl h2)
              · by_cases h3:r.toList=gU
                · exact .inr (.inr h3)
                · exact absurd ⟨h1,h2,h3⟩ hid
           obtain ⟨bi,bs,be,hKI,hbe⟩:=Ls r hk
           obtain ⟨p1,p1',p2,p2',p3,p3'⟩:=hKI
           have hbb:(bi||bs||be)=true:=hbe.1
           cases st with
           |nil=>
            have hsf:ji r j gs []=none:=by unfold ji;rw [if_neg hop,if_neg hid]
            rw [hsf] at hgo
            have hgr:bZ ks=([],30,(j:Int)):=by unfold bZ;rw [if_neg HBIG.out,←hgo]
            have HGR:=z0 hgr
            clear hgr hgo hsf hid hop hk
            rcases hbe.2 with ⟨rfl,rfl,rfl⟩|⟨rfl,rfl,rfl⟩|⟨rfl,rfl,rfl⟩
            all_goals
             clear hbb hbe
             go_wp2_with (first|(go_at_call 83;go_loud (refine (OKin.bD.calls kf kd bf tx a1 r _ HKF.out).mono ?_;rintro e w7 ⟨rfl,hb7⟩;have HB7:=z0 (ak hBj.out hb7);have HQ7:=z0 (hGQ.out.below hb7);clear hb7))|(go_at_call 82;go_loud (refine (H82r _).mono ?_;rintro e w9 ⟨rfl,hd⟩;have HB9:=z0 (ak HB7.out hd.below);have HQ9:=z0 (HQ7.out.below hd.below);clear hd)))
             go_ret3
             rw [HGR.out]
             exact ⟨_,_,[],rfl,rfl,Kd.gQ _ _ _ _ _,HB9.out⟩
           |cons x st'=>
            obtain ⟨nn,br,hs_⟩:=x
            obtain ⟨m,hm⟩:∃m,m=st'.length:=⟨_,rfl⟩
            obtain ⟨M,hM⟩:∃M,M=m+1:=⟨_,rfl⟩
            have hmb:m≤900000:=by rw [hm];have h1:=hGQ.out.cnt;simp only [List.length_cons] at h1;have:=HLE.out;have:=hI.out.1;omega
            have hML:((nn,br,hs_)::st').length=M:=by rw [List.length_cons,hM,hm]
            rw [hML] at hGQ ⊢
            have x1:IntKind.i64.wrap ((M:Int)-1)=(m:Int):=by rw [dZ,OScan.wr (by omega) (by omega)];omega
            have x1':wrap64 ((M:Int)-1)=(m:Int):=by rw [OScan.wr (by omega) (by omega)];omega
            have x2:(m:Int)<(M:Int):=by omega
            have x3:(0:Int)≤(m:Int):=by omega
            have x4:(0:Int)<(M:Int):=by omega
            obtain ⟨g8,c8',e8,hv8,hm8,hm8'⟩:=rF hGQ.out.o
            obtain ⟨g9,c9',e9,hv9,hm9,hm9'⟩:=BH hGQ.out.e
            simp only [Value.slice.injEq] at e8 e9
            obtain ⟨rfl, -,rfl⟩:=e8
            obtain ⟨rfl, -,rfl⟩:=e9
            rw [←hm] at hv8 hv9
            simp only at hv8 hv9
            have HM:=z0 (And.intro hm hM)
            clear hm hM hmb hML
            by_cases her:hs_=true∧r.toList≠gU
            · obtain ⟨rfl,hnk⟩:=her
              have hsf:ji r j gs ((nn,br,true)::st')=none:=by unfold ji;rw [if_neg hop,if_neg hid];simp only;rw [if_pos ⟨trivial,hnk⟩]
              rw [hsf] at hgo
              have hgr:bZ ks=([],30,(j:Int)):=by unfold bZ;rw [if_neg HBIG.out,←hgo]
              have HGR:=z0 hgr
              clear hgr hgo hsf hid hop hk
              obtain rfl:be=false:=by
               cases be with
               |false=>rfl
               |true=>exact absurd (by simpa using p3) hnk
              clear hnk
              rcases hbe.2 with ⟨rfl,rfl,_⟩|⟨rfl,rfl,_⟩|⟨_,_,hh⟩
              · clear hbb hbe
                go_wp2_with (first|(go_at_call 83;go_loud (refine (OKin.bD.calls kf kd bf tx a1 r _ HKF.out).mono ?_;rintro e w7 ⟨rfl,hb7⟩;have HB7:=z0 (ak hBj.out hb7);have HQ7:=z0 (hGQ.out.below hb7);replace hv8:=(hb7.cell hm8).trans hv8;replace hv9:=(hb7.cell hm9).trans hv9;have hm8a:=Nat.lt_of_lt_of_le hm8 hb7.size;have hm9a:=Nat.lt_of_lt_of_le hm9 hb7.size;clear hb7))|(go_at_call 82;go_loud (refine (H82r _).mono ?_;rintro e w9 ⟨rfl,hd⟩;have HB9:=z0 (ak HB7.out hd.below);have HQ9:=z0 (HQ7.out.below hd.below);replace hv8:=(hd.below.cell hm8a).trans hv8;replace hv9:=(hd.below.cell hm9a).trans hv9;clear hd)))
                go_ret3
                rw [HGR.out]
                exact ⟨_,_,[],rfl,rfl,Kd.gQ _ _ _ _ _,HB9.out⟩
              · clear hbb hbe
                go_wp2_with (first|(go_at_call 83;go_loud (refine (OKin.bD.calls kf kd bf tx a1 r _ HKF.out).mono ?_;rintro e w7 ⟨rfl,hb7⟩;have HB7:=z0 (ak hBj.out hb7);have HQ7:=z0 (hGQ.out.below hb7);replace hv8:=(hb7.cell hm8).trans hv8;replace hv9:=(hb7.cell hm9).trans hv9;have hm8a:=Nat.lt_of_lt_of_le hm8 hb7.size;have hm9a:=Nat.lt_of_lt_of_le hm9 hb7.size;clear hb7))|(go_at_call 82;go_loud (refine (H82r _).mono ?_;rintro e w9 ⟨rfl,hd⟩;have HB9:=z0 (ak HB7.out hd.below);have HQ9:=z0 (HQ7.out.below hd.below);replace hv8:=(hd.below.cell hm8a).trans hv8;replace hv9:=(hd.below.cell hm9a).trans hv9;clear hd)))
                go_ret3
                rw [HGR.out]
                exact ⟨_,_,[],rfl,rfl,Kd.gQ _ _ _ _ _,HB9.out⟩
              · cases hh
            · obtain ⟨B,cap,e7,hB0,hB1,hBc⟩:=Kd.uh hGQ.out.g (by rw [hGQ.out.len];have:=hGQ.out.wf _ List.mem_cons_self;omega)
              rw [←HG7.out] at e7
              simp only [Value.slice.injEq] at e7
              obtain ⟨rfl, -,rfl⟩:=e7
              have hi1:(0:Int)≤(nn:Int):=by omega
              have hi2:(nn:Int)<(G7:Int):=by rw [HG7.out,hGQ.out.len];have:=hGQ.out.wf _ List.mem_cons_self;simp only at this;omega
              have HG9:ah (w.heap.size≤g9):=⟨hm9'⟩
              have HGB:ah (w.heap.size≤B):=⟨hB0⟩
              clear hB0 hB1 hBc
              by_cases hen:r.toList=gU
              · obtain rfl:be=true:=by
                 cases be with
                 |true=>rfl
                 |false=>exact absurd (show (r.toList==gU)=true by rw [hen];exact beq_self_eq_true _) (by rw [p3];decide)
                have HNL:ah ((∀g:Gr,nn<(og.set nn g).length)∧∀g:Gr,fV (og.set nn g) nn=g):=⟨by
                 have h1:nn<og.length:=by rw [hGQ.out.len];have:=hGQ.out.wf _ List.mem_cons_self;simpa using this
                 exact ⟨fun g=>by rw [List.length_set];exact h1,fun g=>by simp [fV,h1]⟩⟩
                have z8:=zZ (some ⟨g8,0,none⟩) M c8 m (by omega) (Kd.aZ hGQ.out.o).2.1
                have z9:=xX (some ⟨g9,0,none⟩) M c9 m (by omega) (Kd.aZ hGQ.out.e).2.1
                have hsf:ji r j gs ((nn,br,hs_)::st')=some (gs.set nn ((fV gs nn).1++[(j:Int)],((fV gs nn).1.length:Int)+(if hs_=true then 0 else 1),(fV gs nn).2.2),st'):=by
                 unfold ji;rw [if_neg hop,if_neg hid];simp only;rw [if_neg (by rintro ⟨_,h⟩;exact h hen),if_neg (by rw [hen];exact fun h=>h rfl)]
                rw [hsf] at hgo
                have HGO:=z0 hgo
                have HI':=z0 (hI.out.step hsf)
                clear hgo hsf hid hop hk her hen
                rcases hbe.2 with ⟨_,_,hh⟩|⟨_,_,hh⟩|⟨rfl,rfl,_⟩
                · cases hh
                · cases hh
                · clear hbb hbe
                  cases hs_ with
                  |false=>
                   go_wp2_with (first|(go_at_call 83;go_loud (refine (OKin.bD.calls kf kd bf tx a1 r _ HKF.out).mono ?_;rintro e w7 ⟨rfl,hb7⟩;have HB7:=z0 (ak hBj.out hb7);have HQ7:=z0 (hGQ.out.below hb7);replace hv8:=(hb7.cell hm8).trans hv8;replace hv9:=(hb7.cell hm9).trans hv9;have hm8a:=Nat.lt_of_lt_of_le hm8 hb7.size;have hm9a:=Nat.lt_of_lt_of_le hm9 hb7.size;clear hb7))|(go_at_call 82;go_loud (refine (H82r _).mono ?_;rintro e w9 ⟨rfl,hd⟩;have HB9:=z0 (ak HB7.out hd.below);have HQ9:=z0 (HQ7.out.below hd.below);replace hv8:=(hd.below.cell hm8a).trans hv8;replace hv9:=(hd.below.cell hm9a).trans hv9;obtain ⟨oki,ls,b2,b3,b4,Al,cl,HGG,hv0,HR,HH,HOK⟩:=HQ9.out.lend hI.out;clear hd))|(at_builtin;go_loud (refine Kd.fH (Kd.int .i64) (w0:=w) w.heap.size rfl (.tmp 115) (.tmp 117) 120 3 (.int .i64 0) 8 rfl Tryz.underlying120 (by kernel_rfl) rfl (by decide) (by omega) (.slice Al ls.length cl) ls (j:Int) [.int .i64 (j:Int)] oki (fun _=>False) rfl rfl rfl (fun _ hk=>hk.elim) HOK.out.1 HR.out HB9.out (aQ HB9.out) ?aL ?_;(case aL=>exact Ad HGG.out.2 hji hnlen);intro v1 w10 ho hb hg1 hat;obtain ⟨A1,k1,rfl⟩:=Kd.bF ho;rw [List.length_append,List.length_singleton] at ho;have HR1:=z0 ho;have HB10:=z0 hb;have HG10:=z0 hg1;clear ho hb hg1 hat))|(refine lC (.store 120 (.tmp 120) (.tmp 118)) rfl ?_;go_loud (refine Kd.lg kGr (w0:=w) w.heap.size rfl rfl 120 (.tmp 120) (.tmp 118) rfl 146 (nn:Int) 0 og (ls++[(j:Int)],b2,b3,b4) (.slice A1 (ls.length+1) k1) [.slice A1 (ls.length+1) k1] [.slice Al ls.length cl,.int .i64 b2,.int .i64 b3,.int .i64 b4] (fun k=>True∧some k≠(Value.slice (some ⟨g8,0,none⟩) M c8).ownBlock) oki oki rfl (by rw [Int.toNat_natCast];rfl) rfl rfl (by kernel_rfl) (fun q hq=>by rw [List.mem_singleton.1 hq];rfl) (Kd.oN HH.out HG10.out HR.out.1) hi1 hi2 (show 0+1≤4 by omega) ?aM (fun _ h=>h) HB10.out ?_;(case aM=>exact ⟨_,_,rfl,⟨_,rfl,HR1.out⟩,⟨_,_,rfl,rfl,⟨_,_,rfl,rfl,rfl⟩⟩⟩);intro w11 ho hb hg2;have HB11:=z0 hb;have HQ11:=z0 (fun y=>GQ.lined (y:=y) HQ9.out HGG.out.1 HR.out HOK.out.2 HG10.out hg2 ho);obtain ⟨A2,k2,y1,y2,y3⟩:=GQ.at_ (HQ11.out (0,0,0)) (HNL.out.1 _) (HNL.out.2 _);obtain ⟨y4,y5,y6⟩:=GQ.yX (HQ11.out (0,0,0)) HM.out.1 (HNL.out.1 _) (HNL.out.2 _);have hll:=HGG.out.2;rw [List.length_append,List.length_singleton] at y1;simp only at y4;clear ho hb hg2 hv9 hv0)))
                   go_roundg g2
                   case measure=>omega
                   case rel=>
                    exact ⟨j+1,_,_,st',(by first|rfl|simp),⟨by omega⟩,HGO,⟨(((HQ11.out _).branches nn (HNL.out.1 _) _).branches nn (by rw [List.length_set];exact HNL.out.1 _) _).popped HM.out.1⟩,⟨(HB11.out.setCell HGB.out _).setCell HGB.out _⟩,HI'⟩
                  |true=>
                   go_wp2_with (first|(go_at_call 83;go_loud (refine (OKin.bD.calls kf kd bf tx a1 r _ HKF.out).mono ?_;rintro e w7 ⟨rfl,hb7⟩;have HB7:=z0 (ak hBj.out hb7);have HQ7:=z0 (hGQ.out.below hb7);replace hv8:=(hb7.cell hm8).trans hv8;replace hv9:=(hb7.cell hm9).trans hv9;have hm8a:=Nat.lt_of_lt_of_le hm8 hb7.size;have hm9a:=Nat.lt_of_lt_of_le hm9 hb7.size;clear hb7))|(go_at_call 82;go_loud (refine (H82r _).mono ?_;rintro e w9 ⟨rfl,hd⟩;have HB9:=z0 (ak HB7.out hd.below);have HQ9:=z0 (HQ7.out.below hd.below);replace hv8:=(hd.below.cell hm8a).trans hv8;replace hv9:=(hd.below.cell hm9a).trans hv9;obtain ⟨oki,ls,b2,b3,b4,Al,cl,HGG,hv0,HR,HH,HOK⟩:=HQ9.out.lend hI.out;clear hd))|(at_builtin;go_loud (refine Kd.fH (Kd.int .i64) (w0:=w) w.heap.size rfl (.tmp 115) (.tmp 117) 120 3 (.int .i64 0) 8 rfl Tryz.underlying120 (by kernel_rfl) rfl (by decide) (by omega) (.slice Al ls.length cl) ls (j:Int) [.int .i64 (j:Int)] oki (fun _=>False) rfl rfl rfl (fun _ hk=>hk.elim) HOK.out.1 HR.out HB9.out (aQ HB9.out) ?aL ?_;(case aL=>exact Ad HGG.out.2 hji hnlen);intro v1 w10 ho hb hg1 hat;obtain ⟨A1,k1,rfl⟩:=Kd.bF ho;rw [List.length_append,List.length_singleton] at ho;have HR1:=z0 ho;have HB10:=z0 hb;have HG10:=z0 hg1;clear ho hb hg1 hat))|(refine lC (.store 120 (.tmp 120) (.tmp 118)) rfl ?_;go_loud (refine Kd.lg kGr (w0:=w) w.heap.size rfl rfl 120 (.tmp 120) (.tmp 118) rfl 146 (nn:Int) 0 og (ls++[(j:Int)],b2,b3,b4) (.slice A1 (ls.length+1) k1) [.slice A1 (ls.length+1) k1] [.slice Al ls.length cl,.int .i64 b2,.int .i64 b3,.int .i64 b4] (fun k=>True∧some k≠(Value.slice (some ⟨g8,0,none⟩) M c8).ownBlock) oki oki rfl (by rw [Int.toNat_natCast];rfl) rfl rfl (by kernel_rfl) (fun q hq=>by rw [List.mem_singleton.1 hq];rfl) (Kd.oN HH.out HG10.out HR.out.1) hi1 hi2 (show 0+1≤4 by omega) ?aM (fun _ h=>h) HB10.out ?_;(case aM=>exact ⟨_,_,rfl,⟨_,rfl,HR1.out⟩,⟨_,_,rfl,rfl,⟨_,_,rfl,rfl,rfl⟩⟩⟩);intro w11 ho hb hg2;have HB11:=z0 hb;have HQ11:=z0 (fun y=>GQ.lined (y:=y) HQ9.out HGG.out.1 HR.out HOK.out.2 HG10.out hg2 ho);obtain ⟨A2,k2,y1,y2,y3⟩:=GQ.at_ (HQ11.out (0,0,0)) (HNL.out.1 _) (HNL.out.2 _);obtain ⟨y4,y5,y6⟩:=GQ.yX (HQ11.out (0,0,0)) HM.out.1 (HNL.out.1 _) (HNL.out.2 _);have hll:=HGG.out.2;rw [List.length_append,List.length_singleton] at y1;simp only at y4;clear ho hb hg2 hv9 hv0)))
                   go_roundg g2
                   case measure=>omega
                   case rel=>
                    exact ⟨j+1,_,_,st',(by first|rfl|simp),⟨by omega⟩,HGO,⟨((HQ11.out _).branches nn (HNL.out.1 _) _).popped HM.out.1⟩,⟨HB11.out.setCell HGB.out _⟩,HI'⟩
              · obtain rfl:be=false:=by
                 cases be with
                 |false=>rfl
                 |true=>exact absurd (by simpa using p3) hen
                obtain rfl:hs_=false:=by
                 cases hs_ with
                 |false=>rfl
                 |true=>exact absurd ⟨rfl,hen⟩ her
                have hsf:ji r j gs ((nn,br,false)::st')=some (EH j gs nn,(nn,wrap64 (br+1),r.toList==jl)::st'):=by
                 unfold ji;rw [if_neg hop,if_neg hid];simp only;rw [if_neg (by intro h;cases h.1),if_pos hen]
                rw [hsf] at hgo
                have HGO:=z0 hgo
                have HI':=z0 (hI.out.step hsf)
                clear hgo hsf hid hop hk her hen
                rcases hbe.2 with ⟨rfl,rfl,_⟩|⟨rfl,rfl,_⟩|⟨_,_,hh⟩
                · clear hbb hbe
                  go_wp2_with (first|(go_at_call 83;go_loud (refine (OKin.bD.calls kf kd bf tx a1 r _ HKF.out).mono ?_;rintro e w7 ⟨rfl,hb7⟩;have HB7:=z0 (ak hBj.out hb7);have HQ7:=z0 (hGQ.out.below hb7);replace hv8:=(hb7.cell hm8).trans hv8;replace hv9:=(hb7.cell hm9).trans hv9;have hm8a:=Nat.lt_of_lt_of_le hm8 hb7.size;have hm9a:=Nat.lt_of_lt_of_le hm9 hb7.size;clear hb7))|(go_at_call 82;go_loud (refine (H82r _).mono ?_;rintro e w9 ⟨rfl,hd⟩;have HB9:=z0 (ak HB7.out hd.below);have HQ9:=z0 (HQ7.out.below hd.below);replace hv8:=(hd.below.cell hm8a).trans hv8;replace hv9:=(hd.below.cell hm9a).trans hv9;obtain ⟨oki,ls,b2,b3,b4,Al,cl,HGG,hv0,HR,HH,HOK⟩:=HQ9.out.lend hI.out;clear hd))|(at_builtin;go_loud (refine Kd.fH (Kd.int .i64) (w0:=w) w.heap.size rfl (.tmp 115) (.tmp 117) 120 3 (.int .i64 0) 8 rfl Tryz.underlying120 (by kernel_rfl) rfl (by decide) (by omega) (.slice Al ls.length cl) ls (j:Int) [.int .i64 (j:Int)] oki (fun _=>False) rfl rfl rfl (fun _ hk=>hk.elim) HOK.out.1 HR.out HB9.out (aQ HB9.out) ?aL ?_;(case aL=>exact Ad HGG.out.2 hji hnlen);intro v1 w10 ho hb hg1 hat;obtain ⟨A1,k1,rfl⟩:=Kd.bF ho;rw [List.length_append,List.length_singleton] at ho;have HR1:=z0 ho;have HB10:=z0 hb;have HG10:=z0 hg1;clear ho hb hg1 hat))|(refine lC (.store 120 (.tmp 120) (.tmp 118)) rfl ?_;go_loud (refine Kd.lg kGr (w0:=w) w.heap.size rfl rfl 120 (.tmp 120) (.tmp 118) rfl 146 (nn:Int) 0 og (ls++[(j:Int)],b2,b3,b4) (.slice A1 (ls.length+1) k1) [.slice A1 (ls.length+1) k1] [.slice Al ls.length cl,.int .i64 b2,.int .i64 b3,.int .i64 b4] (fun k=>True∧some k≠(Value.slice (some ⟨g8,0,none⟩) M c8).ownBlock) oki oki rfl (by rw [Int.toNat_natCast];rfl) rfl rfl (by kernel_rfl) (fun q hq=>by rw [List.mem_singleton.1 hq];rfl) (Kd.oN HH.out HG10.out HR.out.1) hi1 hi2 (show 0+1≤4 by omega) ?aM (fun _ h=>h) HB10.out ?_;(case aM=>exact ⟨_,_,rfl,⟨_,rfl,HR1.out⟩,⟨_,_,rfl,rfl,⟨_,_,rfl,rfl,rfl⟩⟩⟩);intro w11 ho hb hg2;have HB11:=z0 hb;have HQ11:=z0 (fun y=>GQ.lined (y:=y) HQ9.out HGG.out.1 HR.out HOK.out.2 HG10.out hg2 ho);clear ho hb hg2)))
                  go_roundg g2
                  case measure=>omega
                  case rel=>exact ⟨j+1,_,_,_,(by first|rfl|simp),⟨by omega⟩,HGO,⟨by rw [p2];exact (HQ11.out _).NM⟩,HB11,HI'⟩
                · clear hbb hbe
                  go_wp2_with (first|(go_at_call 83;go_loud (refine (OKin.bD.calls kf kd bf tx a1 r _ HKF.out).mono ?_;rintro e w7 ⟨rfl,hb7⟩;have HB7:=z0 (ak hBj.out hb7);have HQ7:=z0 (hGQ.out.below hb7);replace hv8:=(hb7.cell hm8).trans hv8;replace hv9:=(hb7.cell hm9).trans hv9;have hm8a:=Nat.lt_of_lt_of_le hm8 hb7.size;have hm9a:=Nat.lt_of_lt_of_le hm9 hb7.size;clear hb7))|(go_at_call 82;go_loud (refine (H82r _).mono ?_;rintro e w9 ⟨rfl,hd⟩;have HB9:=z0 (ak HB7.out hd.below);have HQ9:=z0 (HQ7.out.below hd.below);replace hv8:=(hd.below.cell hm8a).trans hv8;replace hv9:=(hd.below.cell hm9a).trans hv9;obtain ⟨oki,ls,b2,b3,b4,Al,cl,HGG,hv0,HR,HH,HOK⟩:=HQ9.out.lend hI.out;clear hd))|(at_builtin;go_loud (refine Kd.fH (Kd.int .i64) (w0:=w) w.heap.size rfl (.tmp 115) (.tmp 117) 120 3 (.int .i64 0) 8 rfl Tryz.underlying120 (by kernel_rfl) rfl (by decide) (by omega) (.slice Al ls.length cl) ls (j:Int) [.int .i64 (j:Int)] oki (fun _=>False) rfl rfl rfl (fun _ hk=>hk.elim) HOK.out.1 HR.out HB9.out (aQ HB9.out) ?aL ?_;(case aL=>exact Ad HGG.out.2 hji hnlen);intro v1 w10 ho hb hg1 hat;obtain ⟨A1,k1,rfl⟩:=Kd.bF ho;rw [List.length_append,List.length_singleton] at ho;have HR1:=z0 ho;have HB10:=z0 hb;have HG10:=z0 hg1;clear ho hb hg1 hat))|(refine lC (.store 120 (.tmp 120) (.tmp 118)) rfl ?_;go_loud (refine Kd.lg kGr (w0:=w) w.heap.size rfl rfl 120 (.tmp 120) (.tmp 118) rfl 146 (nn:Int) 0 og (ls++[(j:Int)],b2,b3,b4) (.slice A1 (ls.length+1) k1) [.slice A1 (ls.length+1) k1] [.slice Al ls.length cl,.int .i64 b2,.int .i64 b3,.int .i64 b4] (fun k=>True∧some k≠(Value.slice (some ⟨g8,0,none⟩) M c8).ownBlock) oki oki rfl (by rw [Int.toNat_natCast];rfl) rfl rfl (by kernel_rfl) (fun q hq=>by rw [List.mem_singleton.1 hq];rfl) (Kd.oN HH.out HG10.out HR.out.1) hi1 hi2 (show 0+1≤4 by omega) ?aM (fun _ h=>h) HB10.out ?_;(case aM=>exact ⟨_,_,rfl,⟨_,rfl,HR1.out⟩,⟨_,_,rfl,rfl,⟨_,_,rfl,rfl,rfl⟩⟩⟩);intro w11 ho hb hg2;have HB11:=z0 hb;have HQ11:=z0 (fun y=>GQ.lined (y:=y) HQ9.out HGG.out.1 HR.out HOK.out.2 HG10.out hg2 ho);have hc9:=(GQ.Iw (HQ11.out (0,0,0)) HM.out.1).1;have hf9:=(GQ.Iw (HQ11.out (0,0,0)) HM.out.1).2;clear ho hb hg2 hv9 hv0)))
                  go_roundg g2
                  case measure=>omega
                  case rel=>exact ⟨j+1,_,_,_,(by first|rfl|simp),⟨by omega⟩,HGO,⟨by rw [p2,HM.out.1];exact (HQ11.out _).ET⟩,⟨HB11.out.setCell HG9.out _⟩,HI'⟩
                · cases hh
  |succ g1=>
   have hlt:decide ((i:Int)<(n:Int))=true:=decide_eq_true (by omega)
   have hin:i<n:=by omega
   have HIN:=z0 hin
   obtain ⟨x,hx⟩:∃x,ys[i]? =some x:=⟨_,List.getElem?_eq_getElem (by rw [←HN.out];exact hin)⟩
   obtain ⟨r,kf,hr,hkf⟩:=HK.out i x hx
   obtain ⟨ad,hA,hx0,hx1,hx2,hx3⟩:=uz HC.out i (by rw [←HN.out];exact hin) x hx
   obtain rfl:=hA
   replace hx0:=(hB.out.cell (World.block_lt_of_cell? w _ hx0)).trans hx0
   replace hx1:=(hB.out.cell (World.block_lt_of_cell? w _ hx1)).trans hx1
   replace hx2:=(hB.out.cell (World.block_lt_of_cell? w _ hx2)).trans hx2
   replace hx3:=(hB.out.cell (World.block_lt_of_cell? w _ hx3)).trans hx3
   clear hx
   obtain ⟨kd,bf,tx,a1⟩:=x
   simp only at hx0 hx1 hx2 hx3 hkf
   have HKF:=z0 hkf
   have HRK:=z0 hr
   clear hkf hr
   have hii:(0:Int)≤(i:Int):=by omega
   obtain ⟨ob,hob⟩:∃ob,ob=je r:=⟨_,rfl⟩
   have H82r:=fun W=>H82 W r
   rw [←hob] at H82r
   have HOB:=z0 hob
   clear hob
   have hob1:jL (ks.take i)≤900000:=by have h1:=tC (ks.take i);have h2:=HIN.out;rw [List.length_take] at h1;omega
   cases ob with
   |false=>
    go_wp2_with (first|(go_at_call 83;go_loud (refine (OKin.bD.calls kf kd bf tx a1 r _ HKF.out).mono ?_;rintro e w7 ⟨rfl,hb7⟩;have HB7:=z0 (ak hB.out hb7);clear hb7))|(go_at_call 82;go_loud (refine (H82r _).mono ?_;rintro e w9 ⟨rfl,hd⟩;have HB9:=z0 (ak HB7.out hd.below);clear hd)))
    go_roundg g1
    case measure=>omega
    case rel=>exact ⟨i+1,by simp,by rw [take_snoc ks i r HRK.out,lT,if_neg (by rw [←HOB.out];decide)];simp,⟨by omega⟩,HB9⟩
   |true=>
    go_wp2_with (first|(go_at_call 83;go_loud (refine (OKin.bD.calls kf kd bf tx a1 r _ HKF.out).mono ?_;rintro e w7 ⟨rfl,hb7⟩;have HB7:=z0 (ak hB.out hb7);clear hb7))|(go_at_call 82;go_loud (refine (H82r _).mono ?_;rintro e w9 ⟨rfl,hd⟩;have HB9:=z0 (ak HB7.out hd.below);clear hd)))
    go_roundg g1
    case measure=>omega
    case rel=>exact ⟨i+1,by simp,by rw [take_snoc ks i r HRK.out,lT,if_pos HOB.out.symm];simp,⟨by omega⟩,HB9⟩
def kS (i:Int):Int→List Int→Int
 |_,[]=> -1
 |_,[_]=> -1
 |c,x::y::r=>if x<i∧i<y then c else kS i (c+1) (y::r)
theorem yw (ls:List Int)(i b c d:Int)(hl:ls.length≤1000000):∀(e k j:Nat),j≤ls.length→ls.length-j≤e→e<k→ORef.dL.l0 k i (j:Int) ls b c d=some (kS i j (ls.drop j))
 |e,0,j,_,_,h=>by omega
 |e,k+1,j,h1,h2,hk=>by
  have hw:wrap64 ((j:Int)+1)=((j+1:Nat):Int):=(OScan.wr (by omega) (by omega)).trans (by omega)
  rw [ORef.dL.l0,hw]
  by_cases hj:j+1<ls.length
  · have hd0:ls.drop j=ls[j]::ls[j+1]::ls.drop (j+2):=by
     rw [List.drop_eq_getElem_cons (by omega),List.drop_eq_getElem_cons hj]
    have hd1:ls.drop (j+1)=ls[j+1]::ls.drop (j+2):=by rw [List.drop_eq_getElem_cons hj]
    have ih:=yw ls i b c d hl (e-1) k (j+1) (by omega) (by omega) (by omega)
    have r0:rd ls (j:Int)=ls[j]:=by simp [rd,List.getD_eq_getElem?_getD,show j<ls.length by omega]
    have r1:rd ls ((j+1:Nat):Int)=ls[j+1]:=by
     show ls.getD ((j+1:Nat):Int).toNat 0=_
     rw [Int.toNat_natCast];simp [List.getD_eq_getElem?_getD,hj]
    have hcast:((j:Int)+1)=((j+1:Nat):Int):=by omega
    rw [if_pos (by omega),if_pos (by omega),if_pos (by omega),r0,hd0,kS,ih,hd1,hcast]
    by_cases q1:i>ls[j]
    · rw [if_pos q1,if_pos (by omega),r1]
      by_cases q2:i<ls[j+1]
      · rw [if_pos q2,if_pos ⟨q1,q2⟩]
      · rw [if_neg q2,if_neg (fun h=>q2 h.2)]
    · rw [if_neg q1,if_neg (fun h=>q1 h.1)]
  · rw [if_neg (by omega)]
    rcases Nat.lt_or_ge j ls.length with h|h
    · rw [List.drop_eq_getElem_cons h,List.drop_eq_nil_of_le (by omega)]
      rfl
    · rw [List.drop_eq_nil_of_le h]
      rfl
theorem Gt (ls:List Int)(b c d i:Int)(hl:ls.length≤1000000):ORef.dL.f (ls.length+1) ls b c d i=some (kS i 0 ls):=by
 have:=yw ls i b c d hl ls.length (ls.length+1) 0 (by omega) (by omega) (by omega)
 unfold ORef.dL.f
 exact this
theorem vP (i:Int):∀(ls:List Int) (c:Int),0≤c→kS i c ls= -1∨c≤kS i c ls
 |[],c,_=> .inl rfl
 |[_],c,_=> .inl rfl
 |x::y::r,c,hc=>by
  rw [kS]
  split
  · exact .inr (Int.le_refl _)
  · rcases vP i (y::r) (c+1) (by omega) with h|h
    · exact .inl h
    · exact .inr (by omega)
theorem vO (i:Int):∀(ls:List Int) (c:Int),0≤c→ls.Pairwise (· < ·)→(∀a∈ls,a≠i)→(kS i c ls= -1↔∀x∈ls.head?,¬(x<i∧i<ls.getLastD 0))
 |[],c,_,_,_=>by simp [kS]
 |[x],c,_,_,_=>by simp [kS];omega
 |x::y::r,c,hc,hp,hi=>by
  rw [kS]
  have hp':=List.pairwise_cons.1 hp
  have ih:=vO i (y::r) (c+1) (by omega) hp'.2 (fun a ha=>hi a (List.mem_cons_of_mem _ ha))
  have hxy:x<y:=hp'.1 y List.mem_cons_self
  have hly:y≤(y::r).getLastD 0:=by
   cases r with
   |nil=>exact Int.le_refl _
   |cons z r=>
    have hl:=(List.pairwise_cons.1 hp'.2).1 ((z::r).getLast (by simp)) (List.getLast_mem _)
    have:(y::z::r).getLastD 0=(z::r).getLast (by simp):=by simp [List.getLastD_eq_getLast?,List.getLast?_eq_some_getLast]
    rw [this];omega
  have hlast:(x::y::r).getLastD 0=(y::r).getLastD 0:=by simp [List.getLastD_eq_getLast?]
  have hyi:y≠i:=hi y (by simp)
  rw [hlast]
  split
  · rename_i h
    constructor
    · intro e;omega
    · intro e
      have:=e x (by simp)
      omega
  · rename_i h
    rw [ih]
    simp only [List.head?_cons,Option.mem_def,Option.some.injEq,forall_eq']
    constructor
    · intro e e2
      apply e
      omega
    · intro e e2
      apply e
      omega
theorem Bo (i:Int)(g:Gr)(h2:2≤g.1.length)(hp:g.1.Pairwise (· < ·))(hi:∀a∈g.1,a≠i):(kS i 0 g.1= -1∨kS i 0 g.1=0)↔inB i g=false:=by
 obtain ⟨ls,b⟩:=g
 simp only at h2 hp hi
 match ls,h2 with
 |x::y::r,_=>
  have hp':=List.pairwise_cons.1 hp
  have h1:=vO i (y::r) 1 (by omega) hp'.2 (fun a ha=>hi a (List.mem_cons_of_mem _ ha))
  have hle:=vP i (y::r) 1 (by omega)
  have hxy:x<y:=hp'.1 y List.mem_cons_self
  have hl:(x::y::r).getD ((x::y::r).length-1) 0=(y::r).getLastD 0:=by
   simp [List.getLastD_eq_getLast?,List.getLast?_eq_getElem?]
  simp only [kS,inB,hl,List.getD_cons_succ,List.getD_cons_zero]
  simp only [List.head?_cons,Option.mem_def,Option.some.injEq,forall_eq'] at h1
  rw [Bool.and_eq_false_iff,decide_eq_false_iff_not,decide_eq_false_iff_not]
  have hly:y≤(y::r).getLastD 0:=by
   cases r with
   |nil=>exact Int.le_refl _
   |cons z r=>
    have hl:=(List.pairwise_cons.1 hp'.2).1 ((z::r).getLast (by simp)) (List.getLast_mem _)
    have:(y::z::r).getLastD 0=(z::r).getLast (by simp):=by simp [List.getLastD_eq_getLast?,List.getLast?_eq_some_getLast]
    rw [this];omega
  split
  · rename_i h
    simp;omega
  · rename_i h
    rw [show (0:Int)+1=1 from rfl]
    constructor
    · rintro (h3|h3)
      · have:=h1.1 h3
        omega
      · rcases hle with h4|h4<;>omega
    · intro h3
      exact .inl (h1.2 (by omega))
def l7 (i:Int):Nat→List (List Int)→List (Int × Int)
 |_,[]=>[]
 |k,ls::r=>if 0≤kS i 0 ls then ((k:Int),kS i 0 ls)::l7 i (k+1) r else l7 i (k+1) r
theorem Cj (i:Int):∀(k:Nat) (gs:List Gr),(∀g∈gs,2≤g.1.length∧g.1.Pairwise (· < ·)∧∀a∈g.1,a≠i)→((l7 i k (gs.map (·.1))).all (fun p=>p.2==0)=true↔lY gs i=true)
 |k,[],_=>by simp [l7,lY]
 |k,g::gs,h=>by
  obtain ⟨h1,h2,h3⟩:=h g List.mem_cons_self
  have ih:=Cj i (k+1) gs (fun g' hg'=>h g' (List.mem_cons_of_mem _ hg'))
  have hf:=Bo i g h1 h2 h3
  have hle:=vP i g.1 0 (by omega)
  have hs:lY (g::gs) i=(!inB i g&&lY gs i):=by simp [lY]
  rw [hs,List.map_cons,l7]
  split
  · rename_i h0
    rw [List.all_cons,Bool.and_eq_true,Bool.and_eq_true,ih]
    simp only [beq_iff_eq,Bool.not_eq_true']
    rw [←hf]
    constructor
    · rintro ⟨h4,h5⟩;exact ⟨.inr h4,h5⟩
    · rintro ⟨h4,h5⟩;exact ⟨by omega,h5⟩
  · rename_i h0
    rw [Bool.and_eq_true,ih]
    simp only [Bool.not_eq_true']
    rw [←hf]
    exact ⟨fun h=>⟨by omega,h⟩,fun h=>h.2⟩
def yu (ks:List ByteArray)(j:Nat)(gs:List Gr):Prop:=∀g∈gs,g.1.Pairwise (· < ·)∧∀a∈g.1,∃(e:Nat) (r:ByteArray),a=e∧e<j∧ks[e]? =some r∧(je r=true∨r.toList=jI∨r.toList=jl∨r.toList=gU)
theorem yu.set {ks:List ByteArray}{j:Nat}{gs:List Gr}{n:Nat}{y:Int × Int × Int}{r:ByteArray}(h:yu ks j gs)(hr:ks[j]? =some r)(hk:je r=true∨r.toList=jI∨r.toList=jl∨r.toList=gU):
 yu ks (j+1) (gs.set n ((fV gs n).1++[(j:Int)],y)):=by
 intro g hg
 have old:∀g∈gs,g.1.Pairwise (· < ·)∧∀a∈g.1,∃(e:Nat) (r:ByteArray),a=e∧e<j+1∧ks[e]? =some r∧(je r=true∨r.toList=jI∨r.toList=jl∨r.toList=gU):=fun g hg=>⟨(h g hg).1,fun a ha=>by
  obtain ⟨e,r,h1,h2,h3⟩:=(h g hg).2 a ha
  exact ⟨e,r,h1,by omega,h3⟩⟩
 rcases List.mem_or_eq_of_mem_set hg with hg|rfl
 · exact old g hg
 · rcases Nat.lt_or_ge n gs.length with hn|hn
   · have hm:fV gs n∈gs:=by
      have e:fV gs n=gs[n]:=by simp [fV,hn]
      rw [e];exact List.getElem_mem hn
     refine ⟨?_,fun a ha=> ?_⟩
     · rw [List.pairwise_append]
       refine ⟨(h _ hm).1,List.pairwise_singleton _ _,fun a ha b hb=> ?_⟩
       obtain ⟨e,_,h1,h2,_⟩:=(h _ hm).2 a ha
       rw [List.mem_singleton.1 hb];omega
     · rcases List.mem_append.1 ha with ha|ha
       · exact (old _ hm).2 a ha
       · exact ⟨j,r,List.mem_singleton.1 ha,by omega,hr,hk⟩
   · rw [List.set_eq_of_length_le hn] at hg
     exact old _ hg
theorem yu.step {ks:List ByteArray}{j:Nat}{gs:List Gr}{st:List Ope}{r:ByteArray}{q:List Gr × List Ope}(h:yu ks j gs)(hr:ks[j]? =some r)(hs:ji r j gs st=some q):yu ks (j+1) q.1:=by
 have mono:yu ks (j+1) gs:=fun g hg=>⟨(h g hg).1,fun a ha=>by
  obtain ⟨e,r,h1,h2,h3⟩:=(h g hg).2 a ha
  exact ⟨e,r,h1,by omega,h3⟩⟩
 unfold ji at hs
 split at hs
 · rename_i ho
   obtain rfl:=Option.some.inj hs
   intro g hg
   rcases List.mem_append.1 (show g∈gs++_ from hg) with hg|hg
   · exact mono g hg
   · rw [List.mem_singleton.1 hg]
     exact ⟨List.pairwise_singleton _ _,fun a ha=>⟨j,r,List.mem_singleton.1 ha,by omega,hr,.inl ho⟩⟩
 · split at hs
   · obtain rfl:=Option.some.inj hs
     exact mono
   · rename_i hno hk
     have hk':je r=true∨r.toList=jI∨r.toList=jl∨r.toList=gU:=by
      by_cases h1:r.toList=jI
      · exact .inr (.inl h1)
      · by_cases h2:r.toList=jl
        · exact .inr (.inr (.inl h2))
        · by_cases h3:r.toList=gU
          · exact .inr (.inr (.inr h3))
          · exact absurd ⟨h1,h2,h3⟩ hk
     split at hs
     · cases hs
     · split at hs
       · cases hs
       · split at hs
         · obtain rfl:=Option.some.inj hs
           exact h.set hr hk'
         · obtain rfl:=Option.some.inj hs
           exact h.set hr hk'
theorem CG (ks:List ByteArray):∀(d j:Nat) (gs:List Gr) (st:List Ope) (q:List Gr × List Ope),ks.length≤j+d→j≤ks.length→yu ks j gs→lu (ks.drop j) j gs st= .inl q→yu ks ks.length q.1
 |d,j,gs,st,q,h1,h2,hI,hg=>by
  rcases Nat.lt_or_ge j ks.length with hj|hj
  · cases d with
    |zero=>omega
    |succ d=>
     rw [List.drop_eq_getElem_cons hj,lu] at hg
     cases hs:ji ks[j] j gs st with
     |none=>rw [hs] at hg;cases hg
     |some r'=>
      rw [hs] at hg
      exact CG ks d (j+1) r'.1 r'.2 q (by omega) hj (hI.step (List.getElem?_eq_getElem hj) hs) hg
  · rw [List.drop_eq_nil_of_le hj,lu] at hg
    obtain rfl:=Sum.inl.inj hg
    obtain rfl:j=ks.length:=by omega
    exact hI
theorem rY (ks:List ByteArray):yu ks ks.length (bZ ks).1:=by
 unfold bZ
 split
 · exact fun g hg=>by cases hg
 · cases hgo:lu ks 0 [] [] with
   |inr i=>exact fun g hg=>by cases hg
   |inl r=>
    obtain ⟨gs,st⟩:=r
    cases st with
    |cons x st=>exact fun g hg=>by cases hg
    |nil=>exact CG ks ks.length 0 [] [] (gs,[]) (by omega) (by omega) (fun g hg=>by cases hg) hgo
theorem JQ (ks:List ByteArray)(he:(bZ ks).2.1=0)(i:Nat)(r:ByteArray)(hr:ks[i]? =some r)(hn:je r=false∧r.toList≠jI∧r.toList≠jl∧r.toList≠gU):
 (l7 i 0 ((bZ ks).1.map (·.1))).all (fun p=>p.2==0)=lY (bZ ks).1 i:=by
 rw [Bool.eq_iff_iff]
 refine Cj i 0 _ (fun g hg=>⟨xk ks he g hg,(rY ks g hg).1,fun a ha e=> ?_⟩)
 obtain ⟨e',r',h1,h2,h3,h4⟩:=(rY ks g hg).2 a ha
 obtain rfl:e'=i:=by omega
 rw [hr] at h3
 obtain rfl:=Option.some.inj h3
 rcases h4 with h|h|h|h
 · rw [hn.1] at h;cases h
 · exact hn.2.1 h
 · exact hn.2.2.1 h
 · exact hn.2.2.2 h
abbrev kIP:Kd (Int × Int):=Kd.pair (Kd.int .i64) (Kd.int .i64)
theorem Np (w:World)(base:Nat)(ok:Nat→Prop)(a b:Int):kIP.M w base ok (a,b) [.int .i64 a,.int .i64 b]:=⟨[.int .i64 a],[.int .i64 b],rfl,rfl,rfl⟩
theorem JY:(Tryz.prog.info? 110).map (fun i=>(i.zero,i.size,i.bytes))=some (some (.agg #[(.int .i64 0),(.int .i64 0)]),2,16):=by kernel_rfl
theorem y8 (i:Int)(x:List Int):∀(k:Nat) (l:List (List Int)),l7 i k (l++[x])=l7 i k l++(if 0≤kS i 0 x then [(((k+l.length:Nat):Int),kS i 0 x)] else [])
 |k,[]=>by simp [l7]
 |k,y::l=>by
  have ih:=y8 i x (k+1) l
  rw [List.cons_append,l7,l7,ih,List.length_cons,show k+1+l.length=k+(l.length+1) by omega]
  split<;>simp
theorem wJ (i:Int):∀(k:Nat) (l:List (List Int)),(l7 i k l).length≤l.length
 |k,[]=>Nat.le_refl _
 |k,y::l=>by
  have ih:=wJ i (k+1) l
  rw [l7]
  split
  · rw [List.length_cons,List.length_cons];omega
  · rw [List.length_cons];omega
theorem Gl {b L:Nat}{w w5 w6:World}(h:Below b w w5)(h6:Below L w5 w6)(hb:b≤L):Below b w w6:=h.trans ⟨h6.os,h6.tape,h6.output,h6.size,fun k hk=>h6.block k (by omega)⟩
theorem JL (ys:List Tk)(ks:List ByteArray)(w:World)(A:Option Addr)(c:Nat)(hC:Kd.C kTk w A ys.length ys)(hc:ys.length≤c)(hl:ys.length≤900000)(hkl:ks.length=ys.length)
 (hK:∀(i:Nat) (t:Tk),ys[i]? =some t→∃r k,ks[i]? =some r∧OKin.bD.f k t.1 t.2.1 t.2.2.1 t.2.2.2=some r) (he:(bZ ks).2.1=0) (i:Nat) (hi:i<ys.length):
 Calls Tryz.prog 50 #[.slice A ys.length c,.int .i64 (i:Int)] w fun e w'=>∃v,e= .returned (.tuple #[v,.int .i64 0])∧Kd.R kIP 110 w' w.heap.size (fun _=>True) v (l7 i 0 ((bZ ks).1.map (·.1)))∧Below w.heap.size w w':=by
 have H47:=uH ys ks w A c hC hc hl hkl hK
 rw [he] at H47
 have hgi:=qV ks
 obtain ⟨n,hn⟩:∃n,n=ys.length:=⟨_,rfl⟩
 rw [←hn] at hc hl hi hkl H47 ⊢
 have HG1:ah ((bZ ks).1.length≤n∧∀g∈(bZ ks).1,g.1.length≤n):=⟨by rw [hkl] at hgi;exact hgi⟩
 clear hC hK hkl hgi hn he
 obtain ⟨gl,hgl⟩:∃gl,gl=(bZ ks).1.map (·.1):=⟨_,rfl⟩
 have HG2:ah (gl.length≤n∧∀l∈gl,l.length≤n):=⟨by
  rw [hgl,List.length_map]
  exact ⟨HG1.out.1,fun l hl=>by
   obtain ⟨g,hg,rfl⟩:=List.mem_map.1 hl
   exact HG1.out.2 g hg⟩⟩
 rw [←hgl] at H47 ⊢
 clear hgl HG1
 have hi0:(0:Int)≤(i:Int):=by omega
 have hi1:(i:Int)<(n:Int):=by omega
 have hib:decide ((i:Int)<0)=false:=decide_eq_false (by omega)
 have hic:decide (n≤i)=false:=decide_eq_false (by omega)
 have HNL:=z0 hl
 clear hl
 go_enter Tryz.func50,Tryz.ntmps50
 go_wp2_with (go_at_call 47;go_loud (refine H47.mono ?_;rintro e w3 ⟨v3,x3,og,rfl,hog,hR,hb⟩;obtain ⟨A3,c3,rfl⟩:=Kd.bF hR;obtain ⟨G,hG⟩:∃G,G=og.length:=⟨_,rfl⟩;rw [←hG];have HR:=z0 hR;have HB:=z0 hb;have HG:=z0 (And.intro hG hog);clear hR hb hog hG))
 clear H47
 try simp only [hic]
 obtain ⟨L1,hL1⟩:∃L1,L1=w3.heap.size:=⟨_,rfl⟩
 have HR3:ah (Kd.R kGr 146 w3 w.heap.size (fun k=>k<L1) (.slice A3 G c3) og):=⟨by rw [hL1];have h:=Kd.fM (Kd.iJ HR.out) (fun k hk=>hk.2.2.1);rwa [←HG.out.1] at h⟩
 have HL:ah (L1≤w3.heap.size):=⟨by omega⟩
 have HL0:ah (w.heap.size≤L1):=⟨by rw [hL1];exact HB.out.size⟩
 clear HR hL1
 go_loopg [9,10,11] G (fun kq v9 v10 v11 w'=>∃(j:Nat),v10= .int .i64 j∧ah (kq+j=G)∧ah (Kd.R kIP 110 w' L1 (fun _=>True) v9 (l7 i 0 (gl.take j)))∧ah (Kd.R kGr 146 w' w.heap.size (fun k=>k<L1) (.slice A3 G c3) og)∧ah (Below w.heap.size w w')∧ah (L1≤w'.heap.size))
 case atStart=>exact ⟨0,rfl,⟨rfl⟩,⟨Kd.gQ _ _ _ _ _⟩,HR3,HB,HL⟩
 case round=>
  obtain ⟨j,rfl,hkj,hO,hGR,hBj,hLj⟩:=hrel
  have hkj':=hkj.out
  cases gk with
  |zero=>
   obtain rfl:j=G:=by omega
   have hlt:decide ((j:Int)<(j:Int))=false:=decide_eq_false (by omega)
   go_wp2_with (fail)
   go_ret2
   have ht:gl.take j=gl:=List.take_of_length_le (by rw [HG.out.1,←List.length_map (f:=fun x:Gr=>x.1),HG.out.2];exact Nat.le_refl _)
   have h:=hO.out
   rw [ht] at h
   exact ⟨_,rfl,Kd.fZ h HL0.out,hBj.out⟩
  |succ g1=>
   have hlt:decide ((j:Int)<(G:Int))=true:=decide_eq_true (by omega)
   have hjG:j<G:=by omega
   have hjj:(0:Int)≤(j:Int):=by omega
   obtain ⟨x,hx⟩:∃x,og[j]? =some x:=⟨_,List.getElem?_eq_getElem (by rw [←HG.out.1];exact hjG)⟩
   have hCg:Kd.C kGr wr A3 og.length og:=(Kd.aZ hGR.out).2.2
   obtain ⟨ad,Al,cl,hA,hlc,hCl,hx0,hx1,hx2,hx3⟩:=KQ hCg j (by rw [←HG.out.1];exact hjG) x hx
   obtain rfl:=hA
   have hgx:gl[j]? =some x.1:=by rw [←HG.out.2,List.getElem?_map,hx];rfl
   have HTK:ah (gl.take (j+1)=gl.take j++[x.1]∧(gl.take j).length=j):=⟨take_snoc gl j x.1 hgx,by rw [List.length_take];have:=(List.getElem?_eq_some_iff.1 hgx).1;omega⟩
   have hll:x.1.length≤900000:=by have h1:=HG2.out.2 x.1 (List.mem_of_getElem? hgx);have:=HNL.out;omega
   have hG9:G≤900000:=by have h1:=HG2.out.1;have h2:=HNL.out;have h3:og.length=gl.length:=by rw [←HG.out.2,List.length_map]
                         have h4:=HG.out.1;omega
   have hlen:(l7 i 0 (gl.take j)).length≤j:=by have:=wJ i 0 (gl.take j);rw [HTK.out.2] at this;exact this
   have HLEN:=z0 hlen
   clear hCg hx hgx hlen
   obtain ⟨ls,b2,b3,b4⟩:=x
   simp only at hx0 hx1 hx2 hx3 hlc hCl hll HTK
   have H85:=fun (W:World) (hr:Kd.C (Kd.int .i64) W Al ls.length ls)=>ORef.dL.calls (ls.length+1) Al cl ls b2 b3 b4 (i:Int) _ W hr hlc (Gt ls b2 b3 b4 i (by omega))
   have HCL:=z0 hCl
   obtain ⟨r,hr⟩:∃r,r=kS i 0 ls:=⟨_,rfl⟩
   rw [←hr] at H85
   have HSN:ah (l7 i 0 (gl.take (j+1))=l7 i 0 (gl.take j)++(if 0≤r then [((j:Int),r)] else [])):=⟨by rw [HTK.out.1,y8,←hr,HTK.out.2,Nat.zero_add]⟩
   have HH85:=z0 H85
   clear hr hCl H85 HTK
   by_cases h0:0≤r
   · have hd:decide (r≥0)=true:=decide_eq_true h0
     have HSN':ah (l7 i 0 (gl.take (j+1))=l7 i 0 (gl.take j)++[((j:Int),r)]):=⟨by rw [HSN.out,if_pos h0]⟩
     go_wp2_with (first|(go_at_call 85;go_loud (refine (HH85.out _ HCL.out).mono ?_;rintro e w5 ⟨rfl,hb5⟩;have HO5:=z0 (Kd.dn hO.out hb5);have HG5:=z0 (Kd.dn hGR.out hb5);have HB5:=z0 (ak hBj.out hb5);have HL5:=z0 (Nat.le_trans hLj.out hb5.size);clear hb5))|(at_builtin;go_loud (refine Kd.fH kIP (w0:=w5) L1 rfl (.tmp 43) (.tmp 47) 107 110 (.agg #[(.int .i64 0),(.int .i64 0)]) 16 rfl Tryz.underlying107 JY rfl (by decide) (by omega) u9 (l7 i 0 (gl.take j)) ((j:Int),r) [.int .i64 (j:Int),.int .i64 r] (fun _=>True) (fun _=>False) rfl rfl (Np _ _ _ _ _) (fun _ hk=>hk.elim) (fun _ _=>trivial) HO5.out (Below.refl _ _) HL5.out ?aL ?_;(case aL=>have:=HLEN.out;omega);intro v1 w6 ho hb hg hat;have HO6:=z0 ho;have HB6:=z0 (Gl HB5.out hb HL0.out);have HG6:=z0 (Kd.AY HG5.out hg (fun k hk e=>by have:=Kd.pI HO5.out k e.symm;omega));have HL6:=z0 (Nat.le_trans HL5.out hg.size);clear ho hb hg hat)))
     go_roundg g1
     case measure=>omega
     case rel=>exact ⟨j+1,(by first|rfl|simp),⟨by omega⟩,⟨by rw [HSN'.out];exact HO6.out⟩,HG6,HB6,HL6⟩
   · have hd:decide (r≥0)=false:=decide_eq_false h0
     have HSN':ah (l7 i 0 (gl.take (j+1))=l7 i 0 (gl.take j)):=⟨by rw [HSN.out,if_neg h0,List.append_nil]⟩
     go_wp2_with (first|(go_at_call 85;go_loud (refine (HH85.out _ HCL.out).mono ?_;rintro e w5 ⟨rfl,hb5⟩;have HO5:=z0 (Kd.dn hO.out hb5);have HG5:=z0 (Kd.dn hGR.out hb5);have HB5:=z0 (ak hBj.out hb5);have HL5:=z0 (Nat.le_trans hLj.out hb5.size);clear hb5)))
     go_roundg g1
     case measure=>omega
     case rel=>exact ⟨j+1,(by first|rfl|simp),⟨by omega⟩,⟨by rw [HSN'.out];exact HO5.out⟩,HG5,HB5,HL5⟩
theorem yR (xs:List ByteArray)(a:ByteArray)(hl:xs.length≤1000000):∀(d k i:Nat),i≤xs.length→xs.length-i≤d→d<k→a∉xs.take i→
 ∃r,ORef.bH.l0 k xs a (i:Int)=some r∧(r≥0↔a∈xs)
 |d,0,i,_,_,hk,_=>by omega
 |d,k+1,i,h1,hd,hk,hn=>by
  rw [ORef.bH.l0]
  by_cases h:i<xs.length
  · rw [if_pos (by omega),if_pos (by omega)]
    have hrd:jv ByteArray.empty xs (i:Int)=xs[i]:=by
     show xs.getD (i:Int).toNat ByteArray.empty=_
     rw [List.getD_eq_getElem?_getD,show (i:Int).toNat=i from rfl,List.getElem?_eq_getElem h];rfl
    rw [hrd]
    by_cases he:xs[i].toList=a.toList
    · rw [if_pos he]
      have:xs[i]=a:=by
       rw [ByteArray.toList_eq,ByteArray.toList_eq] at he
       exact Go.WideShapes.bytes_inj he
      exact ⟨i,rfl,⟨fun _=>by rw [←this];exact List.getElem_mem h,fun _=>by omega⟩⟩
    · rw [if_neg he,show wrap64 ((i:Int)+1)=((i+1:Nat):Int) from (OScan.wr (by omega) (by omega)).trans (by omega)]
      refine yR xs a hl (d-1) k (i+1) (by omega) (by omega) (by omega) ?_
      rw [List.take_succ_eq_append_getElem h,List.mem_append,List.mem_singleton]
      rintro (h2|h2)
      · exact hn h2
      · exact he (by rw [h2])
  · rw [if_neg (by omega)]
    have ht:xs.take i=xs:=List.take_of_length_le (by omega)
    rw [ht] at hn
    exact ⟨-1,rfl,⟨fun h=>absurd h (by decide),fun h=>absurd h hn⟩⟩
theorem LC (xs:List ByteArray)(a:ByteArray)(k:Nat)(hl:xs.length≤1000000)(hk:xs.length<k):∃r,ORef.bH.f k xs a=some r∧(r≥0↔a∈xs):=
 yR xs a hl xs.length k 0 (by omega) (by omega) hk (by simp)
theorem Aq (s:ByteArray)(c:UInt8):nH s c=true↔0<s.size∧bt s 0=(c.toNat:Int):=by
 have h1:(⟨#[c]⟩:ByteArray).size=1:=rfl
 rcases Nat.eq_zero_or_pos s.size with h0|h0
 · constructor
   · intro h;have:=nX h;omega
   · intro h;omega
 · have hv:nH s c=((s.extract 0 1).data.toList==[c]):=by
    unfold nH OCond.strings_HasPrefix.f OCond.stringslite_HasPrefix.f
    rw [h1,if_pos (by omega),if_pos (by omega),if_pos (by omega)]
    simp only [Option.bind_some,Option.getD_some]
    rw [ByteArray.toList_eq,ByteArray.toList_eq]
    rfl
   have hb:bt s 0=((s[0]'h0).toNat:Int):=(pF s 0 h0).symm
   have hl:s.data.toList[0]? =some (s[0]'h0):=by
    rw [List.getElem?_eq_getElem (by rw [iM];exact h0)]
    rfl
   rw [hv,hb,Lib.extract_data,List.drop_zero,beq_iff_eq]
   cases hd:s.data.toList with
   |nil=>rw [hd] at hl;cases hl
   |cons x r=>
    rw [hd] at hl
    simp only [List.getElem?_cons_zero,Option.some.injEq] at hl
    rw [←hl]
    simp only [Nat.sub_zero,List.take_succ_cons,List.take_zero,List.cons.injEq,and_true]
    exact ⟨fun h=>⟨h0,by rw [h]⟩,fun h=>UInt8.toNat_inj.1 (by omega)⟩
def nC:List ByteArray:=[(⟨#[105,102]⟩:ByteArray),(⟨#[105,102,100,101,102]⟩:ByteArray),(⟨#[105,102,110,100,101,102]⟩:ByteArray),(⟨#[101,108,105,102]⟩:ByteArray),(⟨#[101,108,115,101]⟩:ByteArray),(⟨#[101,110,100,105,102]⟩:ByteArray),(⟨#[100,101,102,105,110,101]⟩:ByteArray),(⟨#[117,110,100,101,102]⟩:ByteArray),(⟨#[105,110,99,108,117,100,101]⟩:ByteArray)]
def vG (r:List Tk):ByteArray:=match r with
 |[]=>⟨#[111,116,104,101,114]⟩
 |u::_=>if u.2.2.1.toList∈nC.map ByteArray.toList then u.2.2.1 else ⟨#[111,116,104,101,114]⟩
theorem qg (a:ByteArray):a.toList∈nC.map ByteArray.toList↔a∈nC:=by
 rw [List.mem_map]
 constructor
 · rintro ⟨x,hx,he⟩
   rw [ByteArray.toList_eq,ByteArray.toList_eq] at he
   rw [←Go.WideShapes.bytes_inj he];exact hx
 · exact fun h=>⟨a,h,rfl⟩
def jJ (t:Tk):List Tk:=if t.2.2.1.size=0∨bt t.2.2.1 0≠35 then [] else (jk (t.2.2.1.size+1) (t.2.2.1.extract 1 t.2.2.1.size) 0).getD []
theorem vN (t:Tk)(hs:t.2.2.1.size≤4001)(h:¬(t.2.2.1.size=0∨bt t.2.2.1 0≠35)):jk (t.2.2.1.size+1) (t.2.2.1.extract 1 t.2.2.1.size) 0=some (jJ t):=by
 obtain ⟨r,hr,_⟩:=nM (t.2.2.1.size+1) (t.2.2.1.extract 1 t.2.2.1.size) 0 (by rw [ByteArray.size_extract];omega) (by rw [ByteArray.size_extract];omega)
 unfold jJ
 rw [if_neg h,hr];rfl
theorem qG (t:Tk)(h7:t.1=7)(hs:t.2.2.1.size≤4001):∃er,OCond.iy.f t.1 t.2.1 t.2.2.1 t.2.2.2=some ((jJ t).map OCond.iY,er):=by
 unfold OCond.iy.f
 rw [if_pos h7,D6,Option.bind_some]
 by_cases h:t.2.2.1.size=0∨bt t.2.2.1 0≠35
 · have hp:¬nH t.2.2.1 35=true:=fun hp=>by
    have:=(Aq t.2.2.1 35).1 hp
    rcases h with h|h
    · omega
    · exact h this.2
   rw [if_neg hp]
   exact ⟨3,by unfold jJ;rw [if_pos h];rfl⟩
 · have hp:nH t.2.2.1 35=true:=(Aq t.2.2.1 35).2 ⟨by omega,by
    have:¬bt t.2.2.1 0≠35:=fun e=>h (.inr e)
    rw [Decidable.not_not] at this;rw [this];rfl⟩
   have hsz:(t.2.2.1.extract 1 t.2.2.1.size).size=t.2.2.1.size-1:=by rw [ByteArray.size_extract];omega
   rw [if_pos hp,if_pos (by omega)]
   unfold OCond.kL.f
   rw [if_pos (by omega),show (t.2.2.1.extract 1 t.2.2.1.size).size+2=t.2.2.1.size+1 by omega,vN t hs h]
   exact ⟨0,rfl⟩
theorem uK (t:Tk)(hs:t.2.2.1.size≤4001):jV t=if t.1=7 then vG (jJ t) else ⟨#[]⟩:=by
 unfold jV OCond.jd.f
 by_cases h7:t.1=7
 · obtain ⟨er,hW⟩:=qG t h7 hs
   rw [if_pos h7,if_pos h7,hW,Option.bind_some]
   cases hr:jJ t with
   |nil=>rfl
   |cons u r=>
    have hl:((List.map OCond.iY (u::r)).length:Int)>0:=by rw [List.length_map,List.length_cons];omega
    obtain ⟨b,hb,hbb⟩:=mg nC (OCond.iY u).f2 20 (by decide) (by decide)
    have hrd:OCond.iF (List.map OCond.iY (u::r)) 0=OCond.iY u:=rfl
    simp only
    rw [if_pos hl,if_pos hl,hrd]
    unfold nC at hb
    rw [hb,Option.bind_some]
    have hu:(OCond.iY u).f2=u.2.2.1:=rfl
    rw [hu] at hbb ⊢
    unfold vG
    simp only
    by_cases hm:u.2.2.1.toList∈nC.map ByteArray.toList
    · rw [if_pos (hbb.2 ((qg _).1 hm)),if_pos hm];rfl
    · rw [if_neg (fun e=>hm ((qg _).2 (hbb.1 e))),if_neg hm];rfl
 · rw [if_neg h7,if_neg h7];rfl
theorem H8 (t:Tk)(hs:t.2.2.1.size≤4001):OKin.bD.f 20 t.1 t.2.1 t.2.2.1 t.2.2.2=some (jV t):=by
 rw [uK t hs]
 unfold OKin.bD.f
 by_cases h7:t.1=7
 · rw [if_pos h7,if_pos h7]
   have hW:∃er,OKin.gY.f t.1 t.2.1 t.2.2.1 t.2.2.2=some ((jJ t).map OKin.iY,er)∧(er≠0→jJ t=[]):=by
    unfold OKin.gY.f
    rw [if_pos ⟨h7,hs⟩]
    by_cases h:t.2.2.1.size=0∨bt t.2.2.1 0≠35
    · rw [if_pos h]
      have:jJ t=[]:=by unfold jJ;rw [if_pos h]
      exact ⟨3,by rw [this];rfl,fun _=>this⟩
    · rw [if_neg h,vN t hs h]
      exact ⟨0,rfl,fun e=>absurd rfl e⟩
   obtain ⟨er,hW,hne⟩:=hW
   rw [hW,Option.bind_some]
   simp only
   cases hr:jJ t with
   |nil=>
    have h0:(((List.map OKin.iY ([]:List Tk)).length:Int)==0)=true:=rfl
    rw [h0]
    split
    · rfl
    · rfl
   |cons u r=>
    have he:er=0:=Decidable.byContradiction fun e=>by have:=hne e;rw [hr] at this;cases this
    have hl:(((List.map OKin.iY (u::r)).length:Int)==0)=false:=by rw [List.length_map,List.length_cons,beq_eq_false_iff_ne];omega
    have hl2:0<((List.map OKin.iY (u::r)).length:Int):=by rw [List.length_map,List.length_cons];omega
    rw [if_pos he,hl]
    obtain ⟨b,hb,hbb⟩:=LC nC (OKin.iY u).f2 19 (by decide) (by decide)
    have hrd:OKin.iF (List.map OKin.iY (u::r)) 0=OKin.iY u:=rfl
    rw [OKin.bD.j0,if_neg (by decide),if_pos hl2,hrd]
    unfold nC at hb
    rw [hb,Option.bind_some]
    have hu:(OKin.iY u).f2=u.2.2.1:=rfl
    rw [hu] at hbb ⊢
    unfold vG
    simp only
    by_cases hm:u.2.2.1.toList∈nC.map ByteArray.toList
    · rw [if_pos (hbb.2 ((qg _).1 hm)),if_pos hm]
    · rw [if_neg (fun e=>hm ((qg _).2 (hbb.1 e))),if_neg hm]
 · rw [if_neg h7,if_neg h7]
theorem IJ (t:Tk)(hs:t.2.2.1.size≤4001)(hk:(jV t).toList=oG):t.1=7∧¬(t.2.2.1.size=0∨bt t.2.2.1 0≠35)∧∃u r,jJ t=u::r∧u.2.2.1.size=7∧0≤u.2.2.2∧u.2.2.2+8≤t.2.2.1.size∧oQ t=uX (trimB (t.2.2.1.extract (u.2.2.2+8).toNat t.2.2.1.size)):=by
 have hkw:=uK t hs
 have h7:t.1=7:=Decidable.byContradiction fun h=>by
  rw [if_neg h] at hkw;rw [hkw] at hk;exact Dl hk
 rw [if_pos h7] at hkw
 have hw:¬(t.2.2.1.size=0∨bt t.2.2.1 0≠35):=fun h=>by
  have:jJ t=[]:=by unfold jJ;rw [if_pos h]
  rw [this] at hkw;rw [hkw] at hk;exact o9 hk
 refine ⟨h7,hw,?_⟩
 cases hr:jJ t with
 |nil=>rw [hr] at hkw;rw [hkw] at hk;exact absurd hk o9
 |cons u r=>
  rw [hr] at hkw
  unfold vG at hkw
  simp only at hkw
  have hm:u.2.2.1.toList∈nC.map ByteArray.toList:=Decidable.byContradiction fun h=>by
   rw [if_neg h] at hkw;rw [hkw] at hk;exact o9 hk
  rw [if_pos hm] at hkw
  have hsz:u.2.2.1.size=7:=by rw [←iM,←ByteArray.toList_eq,←hkw,hk];rfl
  obtain ⟨kd,hK,hi⟩:=xP t (by omega)
  have hkd:jV t=kd:=by unfold jV;rw [hK];rfl
  obtain ⟨ws,er,a,hW,hl,ha,h0,h1⟩:=hi (by rw [←hkd];exact hk)
  obtain ⟨er2,hW2⟩:=qG t h7 hs
  have hWW:ws=(jJ t).map OCond.iY:=by
   rw [hW] at hW2
   injection hW2 with hW2
   injection hW2
  have hau:a=u.2.2.2:=by rw [←ha,hWW,hr];rfl
  refine ⟨u,r,rfl,hsz,by omega,by omega,?_⟩
  unfold oQ
  rw [if_pos hk,hW]
  simp only
  rw [ha,hau]
def wrR (t:Tk):ByteArray × Bool × Bool:=match oQ t with|some (n,q)=>(n,q,true)|none=>(⟨#[]⟩,false,false)
theorem ni (S:ByteArray)(i:Nat)(h:i<S.size)(c:UInt8):bt S (i:Int)=(c.toNat:Int)↔S.data.toList[i]? =some c:=by
 have h1:bt S (i:Int)=((S[i]'h).toNat:Int):=(pF S (i:Int) h).symm
 have h2:S.data.toList[i]? =some (S[i]'h):=by rw [List.getElem?_eq_getElem (by rw [iM];exact h)];rfl
 rw [h1,h2,Option.some.injEq]
 exact ⟨fun e=>UInt8.toNat_inj.1 (by omega),fun e=>by rw [e]⟩
theorem Fj (S:ByteArray)(i:Nat)(h:i<S.size):trimB (S.extract i S.size)=if nJ (S[i]'h)=true then trimB (S.extract (i+1) S.size) else S.extract i S.size:=by
 have hz:(S.extract i S.size).size=S.size-i:=by rw [ByteArray.size_extract];omega
 obtain ⟨m,hm⟩:∃m,S.size-i=m+1:=⟨S.size-i-1,by omega⟩
 have hx:(S.extract i S.size).extract 1 (S.extract i S.size).size=S.extract (i+1) S.size:=by
  apply Go.WideShapes.bytes_inj
  rw [Lib.extract_to_end,Lib.extract_to_end,Lib.extract_to_end,List.drop_drop]
 have h0:(S.extract i S.size).data.getD 0 0=S[i]'h:=by
  have hs:0<(S.extract i S.size).size:=by omega
  rw [at0 _ hs,ByteArray.getElem_extract]
  simp
 unfold trimB
 rw [hz,hm,trimF,if_neg (by omega),h0,hx]
 have hz2:(S.extract (i+1) S.size).size=m:=by rw [ByteArray.size_extract];omega
 rw [hz2]
theorem GH (S:ByteArray):trimB (S.extract S.size S.size)=S.extract S.size S.size:=by
 have hz:(S.extract S.size S.size).size=0:=by rw [ByteArray.size_extract];omega
 unfold trimB
 rw [hz];rfl
theorem index_hit {l:List UInt8}{c:UInt8}{m:Nat}(h:∀j,j<m→l[j]?≠some c)(hm:l[m]? =some c):Lib.indexByte l c=m:=by
 have h1:=Lib.indexByte_ge l c
 by_cases h2:Lib.indexByte l c= -1
 · exact absurd hm (Lib.indexByte_none h2 m)
 · obtain ⟨o,ho⟩:=Int.eq_ofNat_of_zero_le (show 0≤Lib.indexByte l c by omega)
   obtain ⟨h3,h4⟩:=Lib.indexByte_some ho
   rcases Nat.lt_trichotomy o m with h5|h5|h5
   · exact absurd h3 (h o h5)
   · omega
   · exact absurd hm (h4 m h5)
theorem wZ {l:List UInt8}{c:UInt8}(h:∀j,j<l.length→l[j]?≠some c):Lib.indexByte l c= -1:=by
 have h1:=Lib.indexByte_ge l c
 by_cases h2:Lib.indexByte l c= -1
 · exact h2
 · obtain ⟨o,ho⟩:=Int.eq_ofNat_of_zero_le (show 0≤Lib.indexByte l c by omega)
   obtain ⟨h3,h4⟩:=Lib.indexByte_some ho
   exact absurd h3 (h o (List.getElem?_eq_some_iff.1 h3).1)
theorem yN (S:ByteArray)(i:Nat):((S.extract i S.size).extract 1 (S.extract i S.size).size).data.toList=S.data.toList.drop (i+1):=by
 rw [Lib.extract_to_end,Lib.extract_to_end,List.drop_drop]
theorem uQ (S:ByteArray)(i k:Nat)(c:UInt8)(q:Bool)(h1:i+1≤k)(h2:k<S.size)(hn:∀j,i+1≤j→j<k→S.data.toList[j]?≠some c)(hk:S.data.toList[k]? =some c):between (S.extract i S.size) c q=some (S.extract (i+1) k,q):=by
 unfold between
 simp only
 rw [yN,index_hit (m:=k-(i+1)) (fun j hj=>by rw [List.getElem?_drop];exact hn _ (by omega) (by omega)) (by rw [List.getElem?_drop,show i+1+(k-(i+1))=k by omega];exact hk),if_neg (by omega)]
 congr 2
 apply Go.WideShapes.bytes_inj
 rw [Lib.extract_data,Lib.extract_data,Lib.extract_data,List.take_of_length_le (l:=S.data.toList.drop i) (by rw [List.length_drop,iM];exact Nat.le_refl _),List.drop_drop,show (1+((k-(i+1):Nat):Int)).toNat-1=k-(i+1) by omega]
theorem sH (S:ByteArray)(i:Nat)(c:UInt8)(q:Bool)(hn:∀j,i+1≤j→j<S.size→S.data.toList[j]?≠some c):between (S.extract i S.size) c q=none:=by
 unfold between
 simp only
 rw [yN,wZ (fun j hj=>by rw [List.getElem?_drop];rw [List.length_drop,iM] at hj;exact hn _ (by omega) (by omega)),if_pos (by decide)]
theorem zG (S:ByteArray)(i:Nat)(h:i<S.size)(c:UInt8):nH (S.extract i S.size) c=true↔bt S (i:Int)=(c.toNat:Int):=by
 have hz:(S.extract i S.size).size=S.size-i:=by rw [ByteArray.size_extract];omega
 have h0:=ni (S.extract i S.size) 0 (by omega) c
 rw [Lib.extract_to_end,List.getElem?_drop,Nat.add_zero,←ni S i h] at h0
 rw [Aq,hz]
 exact ⟨fun e=>h0.1 e.2,fun e=>⟨by omega,h0.2 e⟩⟩
theorem Ag (t:Tk)(w:World)(hs:t.2.2.1.size≤4001):
 Calls Tryz.prog 49 #[.agg #[.int .i64 t.1,.string t.2.1,.string t.2.2.1,.int .i64 t.2.2.2]] w fun e w'=>e= .returned (.tuple #[.string (wrR t).1,.bool (wrR t).2.1,.bool (wrR t).2.2])∧Below w.heap.size w w':=by
 have hrk:=H8 t hs
 by_cases hk:(jV t).toList=oG
 · obtain ⟨h7,hw,u,r,hr,hu7,ha0,ha1,hinc⟩:=IJ t hs hk
   have hwl:=vN t hs hw
   obtain ⟨rr,hrr,hrl,_⟩:=nM (t.2.2.1.size+1) (t.2.2.1.extract 1 t.2.2.1.size) 0 (by rw [ByteArray.size_extract];omega) (by rw [ByteArray.size_extract];omega)
   have hrl':(jJ t).length≤5000:=by
    rw [hwl] at hrr
    rw [Option.some.inj hrr]
    rw [ByteArray.size_extract] at hrl;omega
   have H83:=fun W=>OKin.bD.calls 20 t.1 t.2.1 t.2.2.1 t.2.2.2 _ W hrk
   have H84:=fun W=>wB t.2.2.2 t.2.1 t.2.2.1 (jJ t) W (by omega) (by omega) (Decidable.byContradiction fun h=>hw (.inr h)) hwl hrl'
   have hwr:wrR t=match uX (trimB (t.2.2.1.extract (u.2.2.2+8).toNat t.2.2.1.size)) with|some (n,q)=>(n,q,true)|none=>(⟨#[]⟩,false,false):=by unfold wrR;rw [hinc]
   obtain ⟨t1,t2,t3,t4⟩:=t
   simp only at h7 H83 H84 hwr ha1 hs ⊢
   subst h7
   generalize hkd:jV (7,t2,t3,t4)=kd at *
   have c1:(kd.toList !=oG)=false:=bne_eq_false_iff_eq.mpr hk
   have c1':(kd.toList==oG)=true:=beq_iff_eq.mpr hk
   obtain ⟨u1,u2,u3,u4⟩:=u
   simp only at hu7 ha0 ha1 hwr
   obtain ⟨p,hp⟩:∃p,p=u4+8:=⟨_,rfl⟩
   rw [←hp] at hwr
   have w1:IntKind.i64.wrap (1+u4)=1+u4:=IntWalk.i64_in _ (by omega)
   have w2:IntKind.i64.wrap (1+u4+(u3.size:Int))=p:=by rw [hu7,IntWalk.i64_in _ (by omega)];omega
   have w3:(0:Int)≤p:=by omega
   have w4:p≤(t3.size:Int):=by omega
   obtain ⟨m,hm⟩:∃m,m=(jJ (7,t2,t3,t4)).length:=⟨_,rfl⟩
   have hm1:1≤m:=by rw [hm,hr];simp
   have hlz:(0:Int)<(m:Int):=by omega
   have hlm:0<m:=by omega
   have hex:(t3.extract p.toNat t3.size).size≤4001:=by rw [ByteArray.size_extract];omega
   obtain ⟨S,hS⟩:∃S,S=t3.extract p.toNat t3.size:=⟨_,rfl⟩
   rw [←hS] at hwr hex
   have HM:=z0 (And.intro hm hr)
   have HWR:=z0 hwr
   have HS:=z0 hS
   have HB0:ah (Below w.heap.size w (w.alloc (Obj.cells #[Value.int .i64 7,Value.string t2,Value.string t3,Value.int .i64 t4] 95))):=⟨aA (Below.refl _ _) _⟩
   clear hm hr hwr hinc hrk hkd hwl hrr hrl hrl' hw hk hp ha0 ha1 hu7 hs hS
   go_enter Tryz.func49,Tryz.ntmps49
   go_wp2_with (first|(go_at_call 83;go_loud (refine (H83 _).mono ?_;rintro e w9 ⟨rfl,hb9⟩;have h3:=(hb9.block w.heap.size (by simp)).trans (dh _ _);have b0:w9.cell? ⟨w.heap.size,0,none⟩=some (.int .i64 7):=(by have:=cell_of_row w9 _ 0 _ _ _ h3;simpa using this);have b1:w9.cell? ⟨w.heap.size,1,none⟩=some (.string t2):=(by have:=cell_of_row w9 _ 1 _ _ _ h3;simpa using this);have b2:w9.cell? ⟨w.heap.size,2,none⟩=some (.string t3):=(by have:=cell_of_row w9 _ 2 _ _ _ h3;simpa using this);have b3:w9.cell? ⟨w.heap.size,3,none⟩=some (.int .i64 t4):=(by have:=cell_of_row w9 _ 3 _ _ _ h3;simpa using this);have HB9:=z0 (ak HB0.out hb9);have H3:=z0 h3;clear hb9 h3))|(go_at_call 84;go_loud (refine (H84 _).mono ?_;rintro e w7 ⟨v7,rfl,hR7,hb7⟩;obtain ⟨g7,c7,rfl,_,_,_⟩:=Kd.rC hR7 (by rw [←HM.out.1];omega);rw [←HM.out.1] at hR7 ⊢;obtain ⟨ad,hAd,q0,q1,q2,q3⟩:=uz (Kd.aZ hR7).2.2 0 (by rw [←HM.out.1];omega) (u1,u2,u3,u4) (by rw [HM.out.2];rfl);injection hAd with hAd;subst hAd;have h3:=(hb7.block w.heap.size (aT H3.out)).trans H3.out;have b4:w7.cell? ⟨w.heap.size,2,none⟩=some (.string t3):=(by have:=cell_of_row w7 _ 2 _ _ _ h3;simpa using this);have q2':w7.cell? ⟨g7,2,none⟩=some (.string u3):=q2;have q3':w7.cell? ⟨g7,3,none⟩=some (.int .i64 u4):=q3;have HB7:=z0 (ak HB9.out hb7);clear hb7 h3 hR7 q0 q1 b0 b1 b2 b3)))
   go_quiet (fail)
   rw [←HS.out]
   have HB4:ah (Below w.heap.size w (w7.drewN nq)):=⟨aY HB7.out nq⟩
   clear b4 q2 q3 q2' q3' w1 w2 w3 w4 hlz hlm H83 H84 HB9 H3 HB7 HB0
   obtain ⟨n,hn⟩:∃n,n=S.size:=⟨_,rfl⟩
   have HN:=z0 hn
   have hn4:n≤4001:=by omega
   clear hn hex
   go_wp2_with (fail)
   go_loopg [8] n (fun kq v8 w'=>∃(i:Nat),v8= .int .i64 i∧ah (kq+i=n)∧ah (trimB (S.extract i S.size)=trimB S)∧ah (Below w.heap.size w w'))
   case atStart=>exact ⟨0,rfl,⟨rfl⟩,⟨by rw [show S.extract 0 S.size=S from by simp]⟩,HB4⟩
   case round=>
    obtain ⟨i,rfl,hki,hT,hB⟩:=hrel
    have hki':=hki.out
    have i0:(0:Int)≤(i:Int):=by omega
    cases gk with
    |zero=>
     obtain rfl:i=n:=by omega
     have hlt:decide ((i:Int)<(i:Int))=false:=decide_eq_false (by omega)
     have e1:(S.size:Int)=(i:Int):=by rw [HN.out]
     have hres:ah (wrR (7,t2,t3,t4)=(⟨#[]⟩,false,false)):=⟨by
      have h:=hT.out
      rw [HN.out,GH] at h
      have hz:(S.extract S.size S.size).size=0:=by rw [ByteArray.size_extract];omega
      have hno:∀c,nH (S.extract S.size S.size) c=false:=fun c=>by
       rw [Bool.eq_false_iff];intro hp;have:=nX hp;omega
      rw [HWR.out,←h]
      unfold uX
      rw [hno,hno];rfl⟩
     go_wp2_with (fail)
     go_ret3
     rw [hres.out]
     exact ⟨rfl,hB.out⟩
    |succ g3=>
     have hin:i<S.size:=by have:=HN.out;omega
     have i1:(i:Int)<(S.size:Int):=by omega
     have hlt:decide ((i:Int)<(S.size:Int))=true:=decide_eq_true i1
     have hxi:((S[i]'hin).toNat:Int)=bt S (i:Int):=pF S (i:Int) hin
     have hst:=Fj S i hin
     have hbi:bt S (i:Int)=((S[i]'hin).toNat:Int):=(pF S (i:Int) hin).symm
     have hb32:bt S (i:Int)=32↔(S[i]'hin)=32:=by rw [hbi];exact gK _ 32 (by decide)
     have hb9:bt S (i:Int)=9↔(S[i]'hin)=9:=by rw [hbi];exact gK _ 9 (by decide)
     have hbl:nJ (S[i]'hin)=true↔(bt S (i:Int)=32∨bt S (i:Int)=9):=by
      rw [hb32,hb9];simp [nJ]
     have HST:=z0 hst
     have HBL:=z0 hbl
     clear hst hbi hb32 hb9 hbl
     by_cases q32:bt S (i:Int)=32
     · have b0:(bt S (i:Int)==32)=true:=beq_iff_eq.mpr q32
       have hT':ah (trimB (S.extract (i+1) S.size)=trimB S):=⟨by rw [←hT.out,HST.out,if_pos (HBL.out.2 (.inl q32))]⟩
       replace i0:=eq_true i0
       replace i1:=eq_true i1
       clear q32
       go_wp2_with (fail)
       go_roundg g3
       case measure=>omega
       case rel=>exact ⟨i+1,(by first|rfl|simp),⟨by omega⟩,hT',hB⟩
     · have b0:(bt S (i:Int)==32)=false:=beq_eq_false_iff_ne.mpr q32
       by_cases q9:bt S (i:Int)=9
       · have b1:(bt S (i:Int)==9)=true:=beq_iff_eq.mpr q9
         have hT':ah (trimB (S.extract (i+1) S.size)=trimB S):=⟨by rw [←hT.out,HST.out,if_pos (HBL.out.2 (.inr q9))]⟩
         replace i0:=eq_true i0
         replace i1:=eq_true i1
         clear q32 q9
         go_wp2_with (fail)
         go_roundg g3
         case measure=>omega
         case rel=>exact ⟨i+1,(by first|rfl|simp),⟨by omega⟩,hT',hB⟩
       · have b1:(bt S (i:Int)==9)=false:=beq_eq_false_iff_ne.mpr q9
         have hrest:trimB S=S.extract i S.size:=by rw [←hT.out,HST.out,if_neg (fun h=>by rcases HBL.out.1 h with h|h;exact q32 h;exact q9 h)]
         have hneq:((i:Int)==(S.size:Int))=false:=beq_eq_false_iff_ne.mpr (by omega)
         have h34:=zG S i hin 34
         have h60:=zG S i hin 60
         have HW2:=HWR.out
         rw [hrest] at HW2
         clear q32 q9 HWR hrest HST HBL hT
         by_cases q34:bt S (i:Int)=34
         · have b2:(bt S (i:Int)==34)=true:=beq_iff_eq.mpr q34
           have b2':(bt S (i:Int) !=34)=false:=bne_eq_false_iff_eq.mpr q34
           have b3:(bt S (i:Int)==60)=false:=beq_eq_false_iff_ne.mpr (by rw [q34];decide)
           have HP:ah (wrR (7,t2,t3,t4)=match between (S.extract i S.size) 34 true with|some (n,q)=>(n,q,true)|none=>(⟨#[]⟩,false,false)):=⟨by
            rw [HW2];unfold uX;rw [if_pos (h34.2 q34)]⟩
           replace i0:=eq_true i0
           replace i1:=eq_true i1
           clear q34 h34 h60 HW2
           go_wp2_with (fail)
           go_loopg [10] (n-(i+1)) (fun kq v10 w'=>∃(k:Nat),v10= .int .i64 k∧ah (kq+k=n)∧ah (i+1≤k)∧ah (∀j,i+1≤j→j<k→S.data.toList[j]?≠some 34)∧ah (Below w.heap.size w w'))
           case atStart=>exact ⟨i+1,(by first|rfl|simp),⟨by omega⟩,⟨Nat.le_refl _⟩,⟨fun j h1 h2=>by omega⟩,hB⟩
           case round=>
            obtain ⟨k,rfl,hkk,hik,hno,hB2⟩:=hrel
            have hkk':=hkk.out
            have hik':=hik.out
            have kk0:(0:Int)≤(k:Int):=by omega
            cases gk with
            |zero=>
             have hlt:decide (k<S.size)=false:=decide_eq_false (by have:=HN.out;omega)
             have hres:ah (wrR (7,t2,t3,t4)=(⟨#[]⟩,false,false)):=⟨by
              have:=sH S i 34 true (fun j h1 h2=>hno.out j h1 (by have:=HN.out;omega))
              rw [HP.out,this]⟩
             go_wp2_with (fail)
             go_ret3
             rw [hres.out]
             exact ⟨rfl,hB2.out⟩
            |succ g4=>
             have hkn:k<S.size:=by have:=HN.out;omega
             have kk1:(k:Int)<(S.size:Int):=by omega
             have hlt:decide (k<S.size)=true:=decide_eq_true hkn
             have hkb:((S[k]'hkn).toNat:Int)=bt S (k:Int):=pF S (k:Int) hkn
             by_cases hh:bt S (k:Int)=34
             · have b0:(bt S (k:Int)==34)=true:=beq_iff_eq.mpr hh
               have hres:ah (wrR (7,t2,t3,t4)=(S.extract (i+1) k,true,true)):=⟨by
                have:=uQ S i k 34 true hik' hkn hno.out ((ni S k hkn 34).1 hh)
                rw [HP.out,this]⟩
               have z0:((0:Int)≤(i:Int)+1)=True:=eq_true (by omega)
               have z1:((i:Int)+1≤(k:Int))=True:=eq_true (by omega)
               have z2:(k≤S.size)=True:=eq_true (by omega)
               have z3:(i<k)=True:=eq_true (by omega)
               have z4:((k:Int)≤(S.size:Int))=True:=eq_true (by omega)
               replace kk0:=eq_true kk0
               replace kk1:=eq_true kk1
               clear hh
               go_wp2_with (fail)
               go_ret3
               rw [hres.out]
               exact ⟨rfl,hB2.out⟩
             · have b0:(bt S (k:Int)==34)=false:=beq_eq_false_iff_ne.mpr hh
               have hno':ah (∀j,i+1≤j→j<k+1→S.data.toList[j]?≠some 34):=⟨fun j h1 h2 e=>by
                rcases Nat.lt_or_ge j k with h3|h3
                · exact hno.out j h1 h3 e
                · obtain rfl:j=k:=by omega
                  exact hh ((ni S j hkn 34).2 e)⟩
               replace kk0:=eq_true kk0
               replace kk1:=eq_true kk1
               clear hh
               go_wp2_with (fail)
               go_roundg g4
               case measure=>omega
               case rel=>exact ⟨k+1,(by first|rfl|simp),⟨by omega⟩,⟨by omega⟩,hno',hB2⟩
         · have b2:(bt S (i:Int)==34)=false:=beq_eq_false_iff_ne.mpr q34
           have b2':(bt S (i:Int) !=34)=true:=bne_iff_ne.mpr q34
           by_cases q60:bt S (i:Int)=60
           · have b3:(bt S (i:Int)==60)=true:=beq_iff_eq.mpr q60
             have b3':(bt S (i:Int) !=60)=false:=bne_eq_false_iff_eq.mpr q60
             have HP:ah (wrR (7,t2,t3,t4)=match between (S.extract i S.size) 62 false with|some (n,q)=>(n,q,true)|none=>(⟨#[]⟩,false,false)):=⟨by
              rw [HW2];unfold uX;rw [if_neg (fun h=>q34 (h34.1 h)),if_pos (h60.2 q60)]⟩
             replace i0:=eq_true i0
             replace i1:=eq_true i1
             clear q34 q60 h34 h60 HW2
             go_wp2_with (fail)
             go_loopg [10] (n-(i+1)) (fun kq v10 w'=>∃(k:Nat),v10= .int .i64 k∧ah (kq+k=n)∧ah (i+1≤k)∧ah (∀j,i+1≤j→j<k→S.data.toList[j]?≠some 62)∧ah (Below w.heap.size w w'))
             case atStart=>exact ⟨i+1,(by first|rfl|simp),⟨by omega⟩,⟨Nat.le_refl _⟩,⟨fun j h1 h2=>by omega⟩,hB⟩
             case round=>
              obtain ⟨k,rfl,hkk,hik,hno,hB2⟩:=hrel
              have hkk':=hkk.out
              have hik':=hik.out
              have kk0:(0:Int)≤(k:Int):=by omega
              cases gk with
              |zero=>
               have hlt:decide (k<S.size)=false:=decide_eq_false (by have:=HN.out;omega)
               have hres:ah (wrR (7,t2,t3,t4)=(⟨#[]⟩,false,false)):=⟨by
                have:=sH S i 62 false (fun j h1 h2=>hno.out j h1 (by have:=HN.out;omega))
                rw [HP.out,this]⟩
               go_wp2_with (fail)
               go_ret3
               rw [hres.out]
               exact ⟨rfl,hB2.out⟩
              |succ g4=>
               have hkn:k<S.size:=by have:=HN.out;omega
               have kk1:(k:Int)<(S.size:Int):=by omega
               have hlt:decide (k<S.size)=true:=decide_eq_true hkn
               have hkb:((S[k]'hkn).toNat:Int)=bt S (k:Int):=pF S (k:Int) hkn
               by_cases hh:bt S (k:Int)=62
               · have b0:(bt S (k:Int)==62)=true:=beq_iff_eq.mpr hh
                 have hres:ah (wrR (7,t2,t3,t4)=(S.extract (i+1) k,false,true)):=⟨by
                  have:=uQ S i k 62 false hik' hkn hno.out ((ni S k hkn 62).1 hh)
                  rw [HP.out,this]⟩
                 have z0:((0:Int)≤(i:Int)+1)=True:=eq_true (by omega)
                 have z1:((i:Int)+1≤(k:Int))=True:=eq_true (by omega)
                 have z2:(k≤S.size)=True:=eq_true (by omega)
                 have z3:(i<k)=True:=eq_true (by omega)
                 have z4:((k:Int)≤(S.size:Int))=True:=eq_true (by omega)
                 replace kk0:=eq_true kk0
                 replace kk1:=eq_true kk1
                 clear hh
                 go_wp2_with (fail)
                 go_ret3
                 rw [hres.out]
                 exact ⟨rfl,hB2.out⟩
               · have b0:(bt S (k:Int)==62)=false:=beq_eq_false_iff_ne.mpr hh
                 have hno':ah (∀j,i+1≤j→j<k+1→S.data.toList[j]?≠some 62):=⟨fun j h1 h2 e=>by
                  rcases Nat.lt_or_ge j k with h3|h3
                  · exact hno.out j h1 h3 e
                  · obtain rfl:j=k:=by omega
                    exact hh ((ni S j hkn 62).2 e)⟩
                 replace kk0:=eq_true kk0
                 replace kk1:=eq_true kk1
                 clear hh
                 go_wp2_with (fail)
                 go_roundg g4
                 case measure=>omega
                 case rel=>exact ⟨k+1,(by first|rfl|simp),⟨by omega⟩,⟨by omega⟩,hno',hB2⟩
           · have b3:(bt S (i:Int)==60)=false:=beq_eq_false_iff_ne.mpr q60
             have b3':(bt S (i:Int) !=60)=true:=bne_iff_ne.mpr q60
             have hres:ah (wrR (7,t2,t3,t4)=(⟨#[]⟩,false,false)):=⟨by
              rw [HW2];unfold uX;rw [if_neg (fun h=>q34 (h34.1 h)),if_neg (fun h=>q60 (h60.1 h))]⟩
             replace i0:=eq_true i0
             replace i1:=eq_true i1
             clear q34 q60 h34 h60 HW2
             go_wp2_with (fail)
             go_ret3
             rw [hres.out]
             exact ⟨rfl,hB.out⟩
 · have H83:=fun W=>OKin.bD.calls 20 t.1 t.2.1 t.2.2.1 t.2.2.2 _ W hrk
   have hwr:wrR t=(⟨#[]⟩,false,false):=by unfold wrR oQ;rw [if_neg hk]
   rw [hwr]
   obtain ⟨t1,t2,t3,t4⟩:=t
   simp only at H83 ⊢
   generalize hkd:jV (t1,t2,t3,t4)=kd at *
   have c1:(kd.toList !=oG)=true:=bne_iff_ne.mpr hk
   have c1':(kd.toList==oG)=false:=beq_eq_false_iff_ne.mpr hk
   have HB0:ah (Below w.heap.size w (w.alloc (Obj.cells #[Value.int .i64 t1,Value.string t2,Value.string t3,Value.int .i64 t4] 95))):=⟨aA (Below.refl _ _) _⟩
   clear hwr hrk hkd hk hs
   go_enter Tryz.func49,Tryz.ntmps49
   go_wp2_with (go_at_call 83;go_loud (refine (H83 _).mono ?_;rintro e w9 ⟨rfl,hb9⟩;have HB9:=z0 (ak HB0.out hb9);clear hb9))
   go_ret3
   exact ⟨rfl,HB9.out⟩
end Go.Proofs.YtolaiebjmhieiaaGreatDoor.OScan
end
section
namespace Go.Proofs.YtolaiebjmhieiaaGreatDoor.ORef
open Go.RowKit YtolaiebjmhieiaaGreatDoorW.PrintWords YtolaiebjmhieiaaGreatDoorW.PrintLast YtolaiebjmhieiaaGreatDoorW.PrintMore
attribute [local go_sem] jF jD ku jZ jc iZ jE jC
def dG.l0:Nat→ByteArray→Int→Option (ByteArray × Bool)
 |0,_,_=>none
 |k+1,x0,x4=>if x4≥0 then (if 0≤x4 then (if x4<(x0.size:Int) then (if (bt x0 x4)=47 then (if x4≤(x0.size:Int) then (some (x0.extract 0 (x4:Int).toNat,true)) else (none)) else (dG.l0 k x0 (wrap64 (x4-1)))) else (none)) else (none)) else (some ((⟨#[]⟩:ByteArray),true))
def dG.f (k:Nat)(a0:ByteArray):Option (ByteArray × Bool):=if a0.toList=([]:List UInt8) then (some ((⟨#[]⟩:ByteArray),false)) else (dG.l0 k a0 (wrap64 ((a0.size:Int)-1)))
theorem dG.calls (k:Nat)(a0:ByteArray)(r1:ByteArray)(r2:Bool)(w:World)(h:dG.f k a0=some (r1,r2)):
 Calls Tryz.prog 48 #[.string a0] w fun e w'=>e= .returned (.tuple #[.string r1,.bool r2])∧dM w w':=by
 have H:=h
 clear h
 unfold dG.f at H
 replace H:=zE H
 rcases H with ⟨c2b0,c2b1,H⟩|⟨c2b0,c2b1,H⟩
 · simp only [Option.some.injEq,Prod.mk.injEq] at H
   obtain ⟨rfl,rfl⟩:=H
   go_enter Tryz.func48,Tryz.ntmps48
   go_wp2
   go_ret2
   exact ⟨zr,zq⟩
 · have H':=z0 H
   clear H
   go_enter Tryz.func48,Tryz.ntmps48
   go_wp2
   (try go_simp)
   go_loopg [4] k (fun kq v4 w'=>∃(x4_1:Int),v4= .int .i64 x4_1∧ah (dG.l0 kq a0 x4_1=some (r1,r2))∧ah (kq≤k)∧dM w w')
   case atStart=>exact ⟨(wrap64 ((a0.size:Int)-1)),zr,H',⟨Nat.le_refl _⟩,zq⟩
   case round=>
    clear H'
    obtain ⟨x4_1,rfl,HA,HK1,⟨m1,rfl⟩⟩:=hrel
    cases gk with
    |zero=>exact absurd HA.out (by simp [dG.l0])
    |succ k1=>
     have H:=HA.out
     clear HA
     simp only [dG.l0] at H
     replace H:=zg H
     rcases H with ⟨c3b0,H⟩|⟨c3b0,H⟩
     · replace H:=zdn H
       obtain ⟨c4b0,H⟩:=H
       replace H:=zdn H
       obtain ⟨c5b0,H⟩:=H
       replace H:=ze H
       rcases H with ⟨c7b0,c7b1,H⟩|⟨c7b0,c7b1,H⟩
       · have c8b0:=eq_true (of_decide_eq_true (by first|(with_reducible assumption)|assumption):0≤x4_1)
         replace H:=zyn H
         obtain ⟨c9b0,c9b1,H⟩:=H
         simp only [Option.some.injEq,Prod.mk.injEq] at H
         obtain ⟨rfl,rfl⟩:=H
         obtain ⟨p6,q6,hx6⟩:=zb a0 x4_1
         go_wp2
         go_ret2
         exact ⟨zr,zq⟩
       · have H':=z0 H
         clear H
         obtain ⟨p6,q6,hx6⟩:=zb a0 x4_1
         go_wp2
         go_roundg k1
         case measure=>have:=HK1.out;omega
         case rel=>exact ⟨(wrap64 (x4_1-1)),zr,H',⟨by have:=HK1.out;omega⟩,zq⟩
     · simp only [Option.some.injEq,Prod.mk.injEq] at H
       obtain ⟨rfl,rfl⟩:=H
       go_wp2
       go_ret2
       exact ⟨zr,zq⟩
mutual
def bn.l0:Nat→ByteArray→ByteArray→Option (ByteArray × Bool)
 |0,_,_=>none
 |k+1,x0,x1=>if (x1.size:Int)≥2 then (if 0≤2 then (if 2≤(x1.size:Int) then (bn.j1 k x0 x1 ((x1.extract 0 2).toList==([46,47]:List UInt8))) else (none)) else (none)) else (bn.j1 k x0 x1 false)
def bn.j1:Nat→ByteArray→ByteArray→Bool→Option (ByteArray × Bool)
 |0,_,_,_=>none
 |k+1,x0,x1,x12=>if x12=true then (if 2≤(x1.size:Int) then (bn.l0 k x0 (x1.extract 2 x1.size)) else (none)) else (if (x1.size:Int)≥3 then (if 0≤3 then (if 3≤(x1.size:Int) then (bn.j2 k x0 x1 ((x1.extract 0 3).toList==([46,46,47]:List UInt8))) else (none)) else (none)) else (bn.j2 k x0 x1 false))
def bn.j2:Nat→ByteArray→ByteArray→Bool→Option (ByteArray × Bool)
 |0,_,_,_=>none
 |k+1,x0,x1,x23=>if x23=true then ((dG.f k x0).bind fun bt225=>(if bt225.2=true then (if 3≤(x1.size:Int) then (bn.l0 k bt225.1 (x1.extract 3 x1.size)) else (none)) else (some ((⟨#[]⟩:ByteArray),false)))) else (if x0.toList=([]:List UInt8) then (some (x1,true)) else (if x0.size+1≤9223372036854775807 then (if (x0++(⟨#[47]⟩:ByteArray)).size+x1.size≤9223372036854775807 then (some ((x0++(⟨#[47]⟩:ByteArray))++x1,true)) else (none)) else (none)))
end
def bn.f (k:Nat)(a0:ByteArray)(a1:ByteArray):Option (ByteArray × Bool):=bn.l0 k a0 a1
theorem bn.calls (k:Nat)(a0:ByteArray)(a1:ByteArray)(r1:ByteArray)(r2:Bool)(w:World)(h:bn.f k a0 a1=some (r1,r2)):
 Calls Tryz.prog 51 #[.string a0,.string a1] w fun e w'=>e= .returned (.tuple #[.string r1,.bool r2])∧dM w w':=by
 have H:=h
 clear h
 unfold bn.f at H
 have H':=z0 H
 clear H
 go_enter Tryz.func51,Tryz.ntmps51
 go_wp2
 (try go_simp)
 go_loopg [0,1] k (fun kq v0 v1 w'=>∃(x0_1:ByteArray) (x1_1:ByteArray),v0= .string x0_1∧v1= .string x1_1∧ah (bn.l0 kq x0_1 x1_1=some (r1,r2))∧ah (kq≤k)∧dM w w')
 case atStart=>exact ⟨(a0),(a1),zr,zr,H',⟨Nat.le_refl _⟩,zq⟩
 case round=>
  clear H'
  obtain ⟨x0_1,x1_1,rfl,rfl,HA,HK1,⟨m1,rfl⟩⟩:=hrel
  cases gk with
  |zero=>exact absurd HA.out (by simp [bn.l0])
  |succ k1=>
   have H:=HA.out
   clear HA
   simp only [bn.l0] at H
   have HC3:=z0 H
   clear H
   go_upto_region 2 with (fail)
   go_cut [12] (fun v12 wc=>∃(kq:Nat) (x12_2:Bool),v12= .bool x12_2∧ah (bn.j1 kq x0_1 x1_1 x12_2=some (r1,r2))∧ah (kq≤k1)∧dM w wc)
   case first=>
    have H:=HC3.out
    clear HC3
    by_cases c4:(x1_1.size:Int)≥2
    · rw [if_pos c4] at H
      have c4b0:decide (2≤(x1_1.size:Int))=true:=decide_eq_true c4
      have c4b1:decide (2≤x1_1.size)=true:=decide_eq_true (by omega)
      clear c4
      (first|rw [c4b0]|(simp only [dZ,fG];rw [c4b0])|skip)
      replace H:=zyn H
      obtain ⟨c5b0,c5b1,H⟩:=H
      replace H:=zyn H
      obtain ⟨c6b0,c6b1,H⟩:=H
      have H':=z0 H
      clear H
      go_wp2
      go_meet
      case rel=>exact ⟨_,(((x1_1.extract 0 2).toList==([46,47]:List UInt8))),zr,H',⟨by have:=HK1.out;first|omega|exact Nat.le_refl _⟩,zq⟩
    · rw [if_neg c4] at H
      have c4b0:decide (2≤(x1_1.size:Int))=false:=decide_eq_false c4
      have c4b1:decide (2≤x1_1.size)=false:=decide_eq_false (by omega)
      clear c4
      (first|rw [c4b0]|(simp only [dZ,fG];rw [c4b0])|skip)
      have H':=z0 H
      clear H
      go_wp2
      go_meet
      case rel=>exact ⟨_,(false),zr,H',⟨by have:=HK1.out;first|omega|exact Nat.le_refl _⟩,zq⟩
   case rest=>
    clear HC3
    obtain ⟨kq,x12_2,rfl,HA,HJ2,⟨mc2,rfl⟩⟩:=hcut
    cases kq with
    |zero=>exact absurd HA.out (by simp [bn.j1])
    |succ kj2=>
     have H:=HA.out
     clear HA
     simp only [bn.j1] at H
     by_cases c7:x12_2=true
     · subst c7
       rw [if_pos rfl] at H
       replace H:=zyn H
       obtain ⟨c8b0,c8b1,H⟩:=H
       have H':=z0 H
       clear H
       go_wp2
       go_roundg kj2
       case measure=>have:=HK1.out;have:=HJ2.out;omega
       case rel=>exact ⟨(x0_1),(x1_1.extract 2 x1_1.size),zr,zr,H',⟨by have:=HK1.out;have:=HJ2.out;omega⟩,zq⟩
     · replace c7:=Bool.eq_false_iff.mpr c7
       subst c7
       rw [if_neg nofun] at H
       have HC9:=z0 H
       clear H
       go_upto_region 4 with (fail)
       go_cut [23] (fun v23 wc=>∃(kq:Nat) (x23_8:Bool),v23= .bool x23_8∧ah (bn.j2 kq x0_1 x1_1 x23_8=some (r1,r2))∧ah (kq≤kj2)∧dM w wc)
       case first=>
        have H:=HC9.out
        clear HC9
        by_cases c10:(x1_1.size:Int)≥3
        · rw [if_pos c10] at H
          have c10b0:decide (3≤(x1_1.size:Int))=true:=decide_eq_true c10
          have c10b1:decide (3≤x1_1.size)=true:=decide_eq_true (by omega)
          clear c10
          (first|rw [c10b0]|(simp only [dZ,fG];rw [c10b0])|skip)
          replace H:=zyn H
          obtain ⟨c11b0,c11b1,H⟩:=H
          replace H:=zyn H
          obtain ⟨c12b0,c12b1,H⟩:=H
          have H':=z0 H
          clear H
          go_wp2
          go_meet
          case rel=>exact ⟨_,(((x1_1.extract 0 3).toList==([46,46,47]:List UInt8))),zr,H',⟨by have:=HK1.out;have:=HJ2.out;first|omega|exact Nat.le_refl _⟩,zq⟩
        · rw [if_neg c10] at H
          have c10b0:decide (3≤(x1_1.size:Int))=false:=decide_eq_false c10
          have c10b1:decide (3≤x1_1.size)=false:=decide_eq_false (by omega)
          clear c10
          (first|rw [c10b0]|(simp only [dZ,fG];rw [c10b0])|skip)
          have H':=z0 H
          clear H
          go_wp2
          go_meet
          case rel=>exact ⟨_,(false),zr,H',⟨by have:=HK1.out;have:=HJ2.out;first|omega|exact Nat.le_refl _⟩,zq⟩
       case rest=>
        clear HC9
        obtain ⟨kq,x23_8,rfl,HA,HJ8,⟨mc8,rfl⟩⟩:=hcut
        cases kq with
        |zero=>exact absurd HA.out (by simp [bn.j2])
        |succ kj8=>
         have H:=HA.out
         clear HA
         simp only [bn.j2] at H
         by_cases c13:x23_8=true
         · subst c13
           rw [if_pos rfl] at H
           replace H:=zo H
           obtain ⟨⟨t225,t226⟩,A14,H⟩:=H
           (try dsimp only at H)
           by_cases c15:t226=true
           · subst c15
             rw [if_pos rfl] at H
             replace H:=zyn H
             obtain ⟨c16b0,c16b1,H⟩:=H
             have H':=z0 H
             clear H
             go_wp2_with (first|(refine zc 34 rfl Tryz.func48 #[.string x0_1] ?_;refine za (dG.calls kj8 x0_1 t225 true _ A14.out) fun nd=> ?_))
             go_roundg kj8
             case measure=>have:=HK1.out;have:=HJ2.out;have:=HJ8.out;omega
             case rel=>exact ⟨(t225),(x1_1.extract 3 x1_1.size),zr,zr,H',⟨by have:=HK1.out;have:=HJ2.out;have:=HJ8.out;omega⟩,zq⟩
           · replace c15:=Bool.eq_false_iff.mpr c15
             subst c15
             rw [if_neg nofun] at H
             simp only [Option.some.injEq,Prod.mk.injEq] at H
             obtain ⟨rfl,rfl⟩:=H
             go_wp2_with (first|(refine zc 34 rfl Tryz.func48 #[.string x0_1] ?_;refine za (dG.calls kj8 x0_1 t225 false _ A14.out) fun nd=> ?_))
             go_ret2
             exact ⟨zr,zq⟩
         · replace c13:=Bool.eq_false_iff.mpr c13
           subst c13
           rw [if_neg nofun] at H
           replace H:=zE H
           rcases H with ⟨c17b0,c17b1,H⟩|⟨c17b0,c17b1,H⟩
           · simp only [Option.some.injEq,Prod.mk.injEq] at H
             obtain ⟨rfl,rfl⟩:=H
             go_wp2
             go_ret2
             exact ⟨zr,zq⟩
           · replace H:=zxn H
             obtain ⟨c18,c18b0,c18b1,H⟩:=H
             try have c18b2:(9223372036854775807<x0_1.size+1)=False:=eq_false (Nat.not_lt.2 c18)
             replace H:=zxn H
             obtain ⟨c19,c19b0,c19b1,H⟩:=H
             try have c19b2:(9223372036854775807<(x0_1++(⟨#[47]⟩:ByteArray)).size+x1_1.size)=False:=eq_false (Nat.not_lt.2 c19)
             simp only [Option.some.injEq,Prod.mk.injEq] at H
             obtain ⟨rfl,rfl⟩:=H
             go_wp2
             go_ret2
             exact ⟨zr,zq⟩
def aW.l0:Nat→List (S46)→ByteArray→Int→Option (Int)
 |0,_,_,_=>none
 |k+1,x0,x1,x5=>if x5<(x0.length:Int) then (if 0≤x5 then (if ((iU x0 x5).f0).toList=x1.toList then (some x5) else (aW.l0 k x0 x1 (wrap64 (x5+1)))) else (none)) else (some (-1))
def aW.f (k:Nat)(l0:List (S46))(a1:ByteArray):Option (Int):=aW.l0 k l0 a1 0
theorem aW.wP:∀k,(∀y0 y1 y2,LeO (aW.l0 k y0 y1 y2) (aW.l0 (k+1) y0 y1 y2))
 |0=>fun _ _ _ r h=>by simp [aW.l0] at h
 |k+1=>by
  have ih0:=aW.wP k
  · intro y0 y1 y2
    unfold aW.l0
    exact zm
theorem aW.mono:∀a0 a1 k,LeO (aW.f k a0 a1) (aW.f (k+1) a0 a1):=by
 intro a0 a1 k
 have ih0:=aW.wP k
 unfold aW.f
 exact zm
theorem aW.calls (k:Nat)(A0:Option Addr)(c0:Nat)(l0:List (S46))(a1:ByteArray)(r:Int)(w:World)(hr0:Kd.C k46 w A0 l0.length l0)(hc0:l0.length≤c0)(h:aW.f k l0 a1=some r):
 Calls Tryz.prog 24 #[.slice A0 l0.length c0,.string a1] w fun e w'=>e= .returned (.int .i64 r)∧dM w w':=by
 have HR0:=z0 hr0
 have HC0:=z0 hc0
 clear hr0 hc0
 have H:=h
 clear h
 unfold aW.f at H
 have H':=z0 H
 clear H
 go_enter Tryz.func24,Tryz.ntmps24
 go_wp2
 (try go_simp)
 go_loopg [5] k (fun kq v5 w'=>∃(x5_1:Int),v5= .int .i64 x5_1∧ah (aW.l0 kq l0 a1 x5_1=some r)∧ah (kq≤k)∧dM w w')
 case atStart=>exact ⟨(0),zr,H',⟨Nat.le_refl _⟩,zq⟩
 case round=>
  clear H'
  obtain ⟨x5_1,rfl,HA,HK1,⟨m1,rfl⟩⟩:=hrel
  cases gk with
  |zero=>exact absurd HA.out (by simp [aW.l0])
  |succ k1=>
   have H:=HA.out
   clear HA
   simp only [aW.l0] at H
   replace H:=zd H
   rcases H with ⟨c3b0,H⟩|⟨c3b0,H⟩
   · replace H:=zdn H
     obtain ⟨c4b0,H⟩:=H
     replace H:=zE H
     rcases H with ⟨c5b0,c5b1,H⟩|⟨c5b0,c5b1,H⟩
     · obtain rfl:=Option.some.inj H
       have p227:0≤(x5_1:Int):=of_decide_eq_true (by first|(with_reducible assumption)|assumption)
       have q227:x5_1<(l0.length:Int):=of_decide_eq_true (by first|(with_reducible assumption)|assumption)
       obtain ⟨ad227,e227,hx227_0,hx227_1⟩:=oL HR0.out x5_1 p227 q227
       cases e227
       replace p227:=eq_true p227
       replace q227:=eq_true q227
       go_wp2
       go_ret
       exact ⟨zr,zq⟩
     · have H':=z0 H
       clear H
       have p227:0≤(x5_1:Int):=of_decide_eq_true (by first|(with_reducible assumption)|assumption)
       have q227:x5_1<(l0.length:Int):=of_decide_eq_true (by first|(with_reducible assumption)|assumption)
       obtain ⟨ad227,e227,hx227_0,hx227_1⟩:=oL HR0.out x5_1 p227 q227
       cases e227
       replace p227:=eq_true p227
       replace q227:=eq_true q227
       go_wp2
       go_roundg k1
       case measure=>have:=HK1.out;omega
       case rel=>exact ⟨(wrap64 (x5_1+1)),zr,H',⟨by have:=HK1.out;omega⟩,zq⟩
   · obtain rfl:=Option.some.inj H
     go_wp2
     go_ret
     exact ⟨zr,zq⟩
def bW.l0:Nat→ByteArray→List ByteArray→Int→Int→Option (List ByteArray)
 |0,_,_,_,_=>none
 |k+1,x0,x3,x4,x5=>if x5≤(x0.size:Int) then (if x5=(x0.size:Int) then (if 0≤x4 then (if x4≤x5 then (if x3.length<8796093022208 then (bW.l0 k x0 (x3++[x0.extract (x4:Int).toNat (x5:Int).toNat]) (wrap64 (x5+1)) (wrap64 (x5+1))) else (none)) else (none)) else (none)) else (if 0≤x5 then (if x5<(x0.size:Int) then (if (bt x0 x5)=47 then (if 0≤x4 then (if x4≤x5 then (if x3.length<8796093022208 then (bW.l0 k x0 (x3++[x0.extract (x4:Int).toNat (x5:Int).toNat]) (wrap64 (x5+1)) (wrap64 (x5+1))) else (none)) else (none)) else (none)) else (bW.l0 k x0 x3 x4 (wrap64 (x5+1)))) else (none)) else (none))) else (some x3)
def bW.f (k:Nat)(a0:ByteArray):Option (List ByteArray):=bW.l0 k a0 ([]:List ByteArray) 0 0
theorem bW.calls (k:Nat)(a0:ByteArray)(r:List ByteArray)(w:World)(h:bW.f k a0=some r):
 Calls Tryz.prog 80 #[.string a0] w fun e w'=>∃v0_:Value,e= .returned (v0_)∧Kd.R Kd.string 9 w' w.heap.size (fun _=>True) v0_ r∧Below w.heap.size w w':=by
 have HB:=z0 (Below.refl w.heap.size w)
 have H:=h
 clear h
 unfold bW.f at H
 have H':=z0 H
 clear H
 go_enter Tryz.func80,Tryz.ntmps80
 go_wp2
 (try go_simp)
 go_loopg [3,4,5] k (fun kq v3 v4 v5 w'=>∃(x3_1:List ByteArray) (x4_1:Int) (x5_1:Int),v4= .int .i64 x4_1∧v5= .int .i64 x5_1∧ah (bW.l0 kq a0 x3_1 x4_1 x5_1=some r)∧ah (kq≤k)∧ah (Kd.R Kd.string 9 w' w.heap.size (fun _=>True) v3 x3_1)∧ah (Below w.heap.size w w'))
 case atStart=>exact ⟨(([]:List ByteArray)),(0),(0),zr,zr,H',⟨Nat.le_refl _⟩,⟨by first|exact Kd.gQ _ _ _ _ _|exact Kd.N_nil _ _ _ _ _|exact Kd.V_nil _ _ _ _ _|exact Kd.Q_nil _ _ _ _ _|exact Kd.uS _ _ _ _ _⟩,⟨zw⟩⟩
 case round=>
  clear H'
  obtain ⟨x3_1,x4_1,x5_1,rfl,rfl,HA,HK1,HO_3,HB⟩:=hrel
  cases gk with
  |zero=>exact absurd HA.out (by simp [bW.l0])
  |succ k1=>
   have H:=HA.out
   clear HA
   simp only [bW.l0] at H
   replace H:=zd H
   rcases H with ⟨c2b0,H⟩|⟨c2b0,H⟩
   · replace H:=ze H
     rcases H with ⟨c3b0,c3b1,H⟩|⟨c3b0,c3b1,H⟩
     · replace H:=zyn H
       obtain ⟨c4b0,c4b1,H⟩:=H
       replace H:=zyn H
       obtain ⟨c5b0,c5b1,H⟩:=H
       have c6b0:=eq_true (of_decide_eq_true (by first|(with_reducible assumption)|assumption):x5_1≤(a0.size:Int))
       by_cases c7:x3_1.length<8796093022208
       · rw [if_pos c7] at H
         have LMc7:=z0 c7
         clear c7
         obtain ⟨y228,hy228⟩:∃y_:List ByteArray,y_=(x3_1++[a0.extract (x4_1:Int).toNat (x5_1:Int).toNat]):=⟨_,rfl⟩
         replace H:(bW.l0 k1 a0 y228 (wrap64 (x5_1+1)) (wrap64 (x5_1+1)))=some r:=by first|(rw [hy228];with_reducible exact H)|(have H2_:=(Option.bind_some _ _).symm.trans H;rw [hy228];with_reducible exact H2_)|(have H2_:=(Option.bind_some _ _).symm.trans H;with_reducible exact H2_)|with_reducible exact H|(rw [hy228];exact H)|exact H
         have Ny228:=z0 hy228
         clear hy228
         have H':=z0 H
         clear H
         go_wp2_with (first|((with_reducible refine oI (b:= .append) (xs:= #[.tmp 22,.tmp 27]) rfl ?_);at_builtin;refine Kd.fH Kd.string (w0:=w) w.heap.size rfl (.tmp 22) (.tmp 27) 23 9 (.string ⟨#[]⟩) 16 rfl Tryz.underlying23 info9 rfl (by decide) (by omega) u3 x3_1 (a0.extract (x4_1:Int).toNat (x5_1:Int).toNat) [.string (a0.extract (x4_1:Int).toNat (x5_1:Int).toNat)] (fun _=>True) (fun _=>False) rfl rfl ?aP (fun _ hk=>hk.elim) ?aF ?aO ?aB ?aS ?aL ?_;(case aP=>exact rfl);(case aB=>exact zw);(case aF=>exact (fun _ _=>trivial));(case aO=>exact (by (with_reducible repeat (first|apply Kd.dP|apply Kd.dS|apply Kd.fU));exact HO_3.out));(case aS=>exact (aQ zw));(case aL=>have:=LMc7.out;omega);intro v229 w8 ho hb hg hat;rw [←Ny228.out] at ho;have n0_:=z0 (hb);have n1_:=z0 (ho);revert n0_ n1_;clear HB HO_3;intro HB HO230;clear ho hb hg hat))
         go_roundg k1
         case measure=>have:=HK1.out;omega
         case rel=>exact ⟨(y228),(wrap64 (x5_1+1)),(wrap64 (x5_1+1)),zr,zr,H',⟨by have:=HK1.out;omega⟩,⟨by (with_reducible repeat (first|apply Kd.dP|apply Kd.dS|apply Kd.fU));exact HO230.out⟩,⟨zw⟩⟩
       · rw [if_neg c7] at H
         cases H
     · replace H:=zdn H
       obtain ⟨c9b0,H⟩:=H
       replace H:=zdn H
       obtain ⟨c10b0,H⟩:=H
       replace H:=ze H
       rcases H with ⟨c12b0,c12b1,H⟩|⟨c12b0,c12b1,H⟩
       · replace H:=zyn H
         obtain ⟨c13b0,c13b1,H⟩:=H
         replace H:=zyn H
         obtain ⟨c14b0,c14b1,H⟩:=H
         have c15b0:=eq_true (of_decide_eq_true (by first|(with_reducible assumption)|assumption):x5_1≤(a0.size:Int))
         by_cases c16:x3_1.length<8796093022208
         · rw [if_pos c16] at H
           have LMc16:=z0 c16
           clear c16
           obtain ⟨y231,hy231⟩:∃y_:List ByteArray,y_=(x3_1++[a0.extract (x4_1:Int).toNat (x5_1:Int).toNat]):=⟨_,rfl⟩
           replace H:(bW.l0 k1 a0 y231 (wrap64 (x5_1+1)) (wrap64 (x5_1+1)))=some r:=by first|(rw [hy231];with_reducible exact H)|(have H2_:=(Option.bind_some _ _).symm.trans H;rw [hy231];with_reducible exact H2_)|(have H2_:=(Option.bind_some _ _).symm.trans H;with_reducible exact H2_)|with_reducible exact H|(rw [hy231];exact H)|exact H
           have Ny231:=z0 hy231
           clear hy231
           have H':=z0 H
           clear H
           obtain ⟨p11,q11,hx11⟩:=zb a0 x5_1
           go_wp2_with (first|((with_reducible refine oI (b:= .append) (xs:= #[.tmp 22,.tmp 27]) rfl ?_);at_builtin;refine Kd.fH Kd.string (w0:=w) w.heap.size rfl (.tmp 22) (.tmp 27) 23 9 (.string ⟨#[]⟩) 16 rfl Tryz.underlying23 info9 rfl (by decide) (by omega) u3 x3_1 (a0.extract (x4_1:Int).toNat (x5_1:Int).toNat) [.string (a0.extract (x4_1:Int).toNat (x5_1:Int).toNat)] (fun _=>True) (fun _=>False) rfl rfl ?aP (fun _ hk=>hk.elim) ?aF ?aO ?aB ?aS ?aL ?_;(case aP=>exact rfl);(case aB=>exact zw);(case aF=>exact (fun _ _=>trivial));(case aO=>exact (by (with_reducible repeat (first|apply Kd.dP|apply Kd.dS|apply Kd.fU));exact HO_3.out));(case aS=>exact (aQ zw));(case aL=>have:=LMc16.out;omega);intro v232 w17 ho hb hg hat;rw [←Ny231.out] at ho;have n0_:=z0 (hb);have n1_:=z0 (ho);revert n0_ n1_;clear HB HO_3;intro HB HO233;clear ho hb hg hat))
           go_roundg k1
           case measure=>have:=HK1.out;omega
           case rel=>exact ⟨(y231),(wrap64 (x5_1+1)),(wrap64 (x5_1+1)),zr,zr,H',⟨by have:=HK1.out;omega⟩,⟨by (with_reducible repeat (first|apply Kd.dP|apply Kd.dS|apply Kd.fU));exact HO233.out⟩,⟨zw⟩⟩
         · rw [if_neg c16] at H
           cases H
       · have H':=z0 H
         clear H
         obtain ⟨p11,q11,hx11⟩:=zb a0 x5_1
         go_wp2
         go_roundg k1
         case measure=>have:=HK1.out;omega
         case rel=>exact ⟨(x3_1),(x4_1),(wrap64 (x5_1+1)),zr,zr,H',⟨by have:=HK1.out;omega⟩,⟨by (with_reducible repeat (first|apply Kd.dP|apply Kd.dS|apply Kd.fU));exact HO_3.out⟩,⟨zw⟩⟩
   · obtain rfl:=Option.some.inj H
     go_wp2
     go_ret
     exact ⟨_,zv,by (with_reducible repeat (first|apply Kd.dP|apply Kd.dS|apply Kd.fU));exact HO_3.out,zw⟩
end Go.Proofs.YtolaiebjmhieiaaGreatDoor.ORef
end
