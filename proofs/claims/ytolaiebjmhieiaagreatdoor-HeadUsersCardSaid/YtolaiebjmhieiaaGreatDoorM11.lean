/- Parts of the proof of HeadUsers; no condition. -/
import Derived.Test.YtolaiebjmhieiaaGreatDoorM06
import Derived.Test.YtolaiebjmhieiaaGreatDoorM07
import Derived.Test.YtolaiebjmhieiaaGreatDoorM10
import Derived.Test.YtolaiebjmhieiaaGreatDoorM01
import Derived.Test.YtolaiebjmhieiaaGreatDoorM03
import Derived.Test.YtolaiebjmhieiaaGreatDoorProg
import Derived.Below
import Derived.Deep.Draws
import Derived.Deep.AppendLies
import Derived.Maps.AppendAt
import Derived.OwnWalk
import Derived.Laws.BytesArg
import Derived.Laws.MakeOwn
import Derived.Laws.OwnMore
import Derived.Deep.OwnRows
import Derived.Tactics
import Derived.Lib.ConvBytes
import Derived.Laws.Slices
import Derived.WalkKit
import Derived.KernelRfl
import Derived.RowKit3
import Derived.Deep.LoopGhost
import Derived.Deep.QuietTactic
import Derived.BigQuiet
import Derived.WideLaws
import Derived.Deep.DeepCutAuto
import Derived.Deep.CutBlock
import Derived.Deep.RegionHeld3
import Derived.Laws.Rows
import Derived.Lib.AppendStr
import Derived.ArgAppend
import Derived.Laws.IdiomCopy
import Derived.OrdersHeld
import Derived.Laws.BitsLemmas
import Derived.RowKit
import Derived.Sort.Walk0
import Derived.StillTailTactics
set_option maxHeartbeats 8000000
set_option maxRecDepth 100000
set_option linter.unusedVariables false
set_option linter.unusedSimpArgs false
section
namespace Go.Proofs.YtolaiebjmhieiaaGreatDoor.OScan
open Go.RowKit YtolaiebjmhieiaaGreatDoorW.PrintWords YtolaiebjmhieiaaGreatDoorW.PrintLast YtolaiebjmhieiaaGreatDoorW.PrintMore
structure CX (us:ByteArray→List Us)(er:ByteArray→Int)(F:ByteArray→Int)(G:ByteArray→List ByteArray)(W:World)(m:AL)(pv:Value)(PB fm cm mp:Nat)(al:AL)(fs:List Fl)(w:World):Prop where
 ps:PS us er W m pv PB fm cm w
 map:gB w mp al
 mb:W.heap.size≤mp
 mf:mp≠fm
 mc:mp≠cm
 rows:∀f∈fs,F f.1=0∧∃(out:List ByteArray) (v:Value),eF al f.1=some v∧G f.1=out∧Kd.R Kd.string 9 w W.heap.size (fun _=>True) v out∧out.length≤1000
section
variable {us:ByteArray→List Us}{er:ByteArray→Int}{F:ByteArray→Int}{G:ByteArray→List ByteArray}{W:World}{m:AL}{pv:Value}{PB fm cm mp:Nat}{al:AL}{fs:List Fl}
theorem CX.kept {w w':World}(h:CX us er F G W m pv PB fm cm mp al fs w)(hP:PS us er W m pv PB fm cm w')(hm:w'.heap[mp]? =w.heap[mp]?)(hk:∀(k:Nat) (cs:Array Value),w.heap[k]? =some (Obj.cells cs 9 (0,0))→w'.heap[k]? =w.heap[k]?):CX us er F G W m pv PB fm cm mp al fs w':=
 ⟨hP,h.map.same hm,h.mb,h.mf,h.mc,fun f hf=>by
  obtain ⟨h0,out,v,h1,h2,h3,h4⟩:=h.rows f hf
  exact ⟨h0,out,v,h1,h2,AZ h3 hk,h4⟩⟩
theorem CX.step {w w':World}(h:CX us er F G W m pv PB fm cm mp al fs w)(hb:Below w.heap.size w w'):CX us er F G W m pv PB fm cm mp al fs w':=
 h.kept (h.ps.step hb) (hb.block _ h.map.lt) (fun k cs hc=>hb.block k (aT hc))
theorem CX.read {w w':World}(h:CX us er F G W m pv PB fm cm mp al fs w)(hP:PS us er W m pv PB fm cm w')(hk:∀k,k<w.heap.size→k≠cm→w'.heap[k]? =w.heap[k]?):CX us er F G W m pv PB fm cm mp al fs w':=
 h.kept hP (hk _ h.map.lt h.mc) (fun k cs hc=>hk k (aT hc) (h.ps.sG hc (by decide)).2.2)
theorem CX.put {w w':World}(h:CX us er F G W m pv PB fm cm mp al fs w)(f:Fl)(he:F f.1=0)(out:List ByteArray)(v:Value)(hM:gB w' mp (lD al f.1 v))(hO:gI w w' mp)(hF:G f.1=out)(hR:Kd.R Kd.string 9 w W.heap.size (fun _=>True) v out)(hl:out.length≤1000):CX us er F G W m pv PB fm cm mp (lD al f.1 v) (fs++[f]) w':=by
 obtain ⟨es,cl,hm0,_⟩:=h.map
 have hne:∀{k t:Nat} {cs:Array Value},w.heap[k]? =some (.cells cs t (0,0))→k≠mp:=by
  rintro k t cs h' rfl
  rw [hm0] at h'
  cases h'
 obtain ⟨c,hP,_⟩:=h.ps.prj
 have hk9:∀(k:Nat) (cs:Array Value),w.heap[k]? =some (Obj.cells cs 9 (0,0))→w'.heap[k]? =w.heap[k]? :=fun k cs hc=>hO.block k (hne hc)
 refine ⟨h.ps.kept (hO.below h.ps.below h.mb) (fun k hk=>hO.block k ?_),hM,h.mb,h.mf,h.mc,fun f' hf'=> ?_⟩
 · rcases hk with rfl|rfl|rfl|⟨cs,h'|h'⟩
   · exact hne hP.hP
   · exact Ne.symm h.mf
   · exact Ne.symm h.mc
   · exact hne h'
   · exact hne h'
 · by_cases he':f'.1=f.1
   · rw [he']
     exact ⟨he,out,v,by rw [jH,if_pos ((MapKept.bytes_beq _ _).2 rfl)],hF,AZ hR hk9,hl⟩
   · rcases List.mem_append.1 hf' with hf'|hf'
     · obtain ⟨h0,out',v',h1,h2,h3,h4⟩:=h.rows f' hf'
       exact ⟨h0,out',v',by rw [jH,if_neg (fun e=>he' ((MapKept.bytes_beq _ _).1 e))];exact h1,h2,AZ h3 hk9,h4⟩
     · rw [List.mem_singleton.1 hf'] at he'
       exact absurd rfl he'
theorem CX.Lh {w w':World}(h:CX us er F G W m pv PB fm cm mp al fs w)(hb:Below W.heap.size W w')(hk:∀k,k<w.heap.size→(∀cs:Array Value,w.heap[k]?≠some (Obj.cells cs 43 (0,0)))→w'.heap[k]? =w.heap[k]?):CX us er F G W m pv PB fm cm mp al fs w':=by
 have hcell:∀{k t:Nat} {cs:Array Value},w.heap[k]? =some (.cells cs t (0,0))→t≠43→w'.heap[k]? =w.heap[k]? :=fun {k t cs} hc ht=>hk k (aT hc) (fun cs' e=>by
  rw [hc] at e
  injection e with e
  injection e with _ e
  exact ht e)
 have hmap:∀{k:Nat} {es:Array MapEntry} {cl:Nat},w.heap[k]? =some (.map es cl)→w'.heap[k]? =w.heap[k]? :=fun {k es cl} hc=>hk k (kD hc) (fun cs' e=>by rw [hc] at e;cases e)
 obtain ⟨c,hP,_⟩:=h.ps.prj
 refine h.kept (h.ps.kept hb (fun k hk'=> ?_)) ?_ (fun k cs hc=>hcell hc (by decide))
 · rcases hk' with rfl|rfl|rfl|⟨cs,h'|h'⟩
   · exact hcell hP.hP (by decide)
   · obtain ⟨es,cl,h',_⟩:=hP.hm;exact hmap h'
   · obtain ⟨es,cl,h',_⟩:=hP.hc;exact hmap h'
   · exact hcell h' (by decide)
   · exact hcell h' (by decide)
 · obtain ⟨es,cl,h',_⟩:=h.map;exact hmap h'
end
open Classical in
noncomputable def xZ (G:ByteArray→List ByteArray)(f:ByteArray)(us:List Us):List Pr:=us.filterMap fun u=>if u.2.2.toList≠[]∧f∈G u.2.2 then some (f,u.2.2) else none
theorem mF (G:ByteArray→List ByteArray)(f:ByteArray)(us:List Us)(u:Us):(u.2.2.toList≠[]→f∈G u.2.2→xZ G f (us++[u])=xZ G f us++[(f,u.2.2)])∧(u.2.2.toList=[]∨f∉G u.2.2→xZ G f (us++[u])=xZ G f us):=by
 unfold xZ
 rw [List.filterMap_append]
 refine ⟨fun h1 h2=> ?_,fun h=> ?_⟩
 · simp [h1,h2]
 · have:¬(u.2.2.toList≠[]∧f∈G u.2.2):=fun k=>h.elim (fun e=>k.1 e) (fun e=>e k.2)
   simp only [List.filterMap_cons,if_neg this,List.filterMap_nil,List.append_nil]
noncomputable def selC (G:ByteArray→List ByteArray)(us:ByteArray→List Us)(fs:List Fl):List Pr:=fs.flatMap fun f=>xZ G f.1 (us f.1)
theorem yJ (G:ByteArray→List ByteArray)(us:ByteArray→List Us)(fs:List Fl)(f:Fl):selC G us (fs++[f])=selC G us fs++xZ G f.1 (us f.1):=by
 unfold selC
 rw [List.flatMap_append]
 simp
def uo (files:List Fl)(ps:List ByteArray)(er:Int)(zs:List Pr):Prop:=
 (er≠0∧eY files=(er,none)∧zs=[])∨∃m,eY files=(0,some m)∧((ErrAt files ps er∧zs=[])∨((∀g∈files,aE files ps g.1=0)∧er=0∧SU ltP (selC (aL files ps) (usR m ps) files) zs))
theorem uo.det {files:List Fl}{ps:List ByteArray}{er er':Int}{l l':List Pr}(h:uo files ps er l)(k:uo files ps er' l'):er=er'∧l=l':=by
 rcases h with ⟨h1,h2,rfl⟩|⟨m,h1,⟨h2,rfl⟩|⟨h2,rfl,h3⟩⟩<;>rcases k with ⟨k1,k2,rfl⟩|⟨m',k1,⟨k2,rfl⟩|⟨k2,rfl,k3⟩⟩
 · rw [h2] at k2
   exact ⟨(Prod.ext_iff.1 k2).1,rfl⟩
 · rw [h2] at k1;cases (Prod.ext_iff.1 k1).2
 · rw [h2] at k1;cases (Prod.ext_iff.1 k1).2
 · rw [k2] at h1;cases (Prod.ext_iff.1 h1).2
 · exact ⟨h2.det k2,rfl⟩
 · exact (h2.not k2).elim
 · rw [k2] at h1;cases (Prod.ext_iff.1 h1).2
 · exact (k2.not h2).elim
 · rw [h1] at k1
   obtain rfl:=Option.some.inj (Prod.ext_iff.1 k1).2
   exact ⟨rfl,h3.det tK k3⟩
section
variable {W:World}{files:List Fl}{ps:List ByteArray}{A Ap:Option Addr}{c cp:Nat}
def MQ (W:World)(P:Int→List Pr→Prop)(e:Ending)(w':World):Prop:=
 ∃(er:Int) (A:Option Addr) (c:Nat) (zs:List Pr),e= .returned (.tuple #[.slice A zs.length c,.int .i64 er])∧Below W.heap.size W w'∧Kd.C kFl w' A zs.length zs∧zs.length≤c∧zs.length≤1000000∧P er zs
theorem sF {P:Int→List Pr→Prop}{er:Int}(he:P er []){w':World}(hb:Below W.heap.size W w'):MQ W P (.returned (.tuple #[.slice none 0 0,.int .i64 er])) w':=
 ⟨er,none,0,[],rfl,hb,Kd.Jj _ _,Nat.le_refl _,Nat.zero_le _,he⟩
theorem Ej (H:iG W files ps A Ap c cp):Calls Tryz.prog 17 #[.slice A files.length c,.slice Ap ps.length cp] W (MQ W (uo files ps)):=by
 have H31:=open_any files A c Ap ps.length cp W H.glob H.fc H.fl (by have:=H.nfl;omega) (fun f hf=>by have:=(H.fsz f hf).1;omega)
 rcases nR files with ⟨h1,h2⟩|⟨m,hm⟩
 · obtain ⟨er,om⟩:∃er,eY files=(er,none):=⟨(eY files).1,by rw [←h1]⟩
   rw [om] at H31 h2
   simp only at h2
   have er0:(er !=0)=true:=by simp;omega
   obtain ⟨P,hP⟩:∃P:Int→List Pr→Prop,P=uo files ps:=⟨_,rfl⟩
   have HER:ah (P er []):=⟨by rw [hP];exact .inl ⟨by omega,om,rfl⟩⟩
   rw [←hP]
   obtain ⟨n,hn⟩:∃n,n=files.length:=⟨_,rfl⟩
   obtain ⟨np,hnp⟩:∃np,np=ps.length:=⟨_,rfl⟩
   rw [←hn,←hnp] at H31
   rw [←hn,←hnp]
   clear H h1 h2 om hn hnp hP
   go_enter Tryz.func17,Tryz.ntmps17
   go_wp2_with (go_at_call 31;go_loud (refine H31.mono ?_;rintro e w5 ⟨rfl,hb5⟩;have HB5:=z0 hb5;clear hb5))
   go_ret2
   exact sF HER.out HB5.out
 · rw [hm] at H31
   have hmm:∀w,(Instr.makeMap 66 none).run Tryz.prog w= .ok (.map (some w.heap.size)) (w.alloc (.map #[] 0)):=fun _=>rfl
   have HGET:=z0 (nP hm).2
   have HENV:=z0 (fun (PB fm cm:Nat)=>H.env hm PB fm cm)
   have HALL:=z0 (fun (PB fm cm:Nat) (n:ByteArray) (hn:(eF m n).isSome=true) (w:World) P=>KU H hm PB fm cm n hn w P)
   have HPN:=z0 (fun (PB fm cm:Nat) (W':World) hP hb=>tu (W:=W) (ps:=ps) (Ap:=Ap) (cp:=cp) (m:=m) (PB:=PB) (fm:=fm) (cm:=cm) (W':=W') hP hb)
   have HRD:=z0 (fun (PB fm cm:Nat) (w:World) (n:ByteArray) (hn:(eF m n).isSome=true) P=>BR m ps Ap cp PB fm cm W w n (H.KT hm) hn P)
   have HUL:=z0 (fun n=>En m ps n (H.text hm n))
   have HFC:=z0 H.fc
   have HNF:=z0 H.nfl
   have HM:=z0 hm
   obtain ⟨n,hn⟩:∃n,n=files.length:=⟨_,rfl⟩
   obtain ⟨np,hnp⟩:∃np,np=ps.length:=⟨_,rfl⟩
   rw [←hn,←hnp] at H31
   rw [←hn] at HFC HNF
   rw [←hnp] at HENV HPN HRD HALL
   rw [←hn,←hnp]
   have HN:=z0 hn
   obtain ⟨F,hF⟩:∃F:ByteArray→Int,F=aE files ps:=⟨_,rfl⟩
   obtain ⟨G,hG⟩:∃G:ByteArray→List ByteArray,G=aL files ps:=⟨_,rfl⟩
   have HERR:ah (∀(i:Nat) (f:Fl) (er:Int),files[i]? =some f→(∀g∈files.take i,F g.1=0)→F f.1=er→er≠0→uo files ps er []):=⟨fun i f er h1 h2 h3 h4=> .inr ⟨m,hm,.inl ⟨⟨h4,i,f,h1,fun g hg=>by rw [←hF];exact h2 g hg,by rw [←hF];exact h3⟩,rfl⟩⟩⟩
   have HOK:ah (∀zs:List Pr,(∀g∈files,F g.1=0)→SU ltP (selC G (usR m ps) files) zs→uo files ps 0 zs):=⟨fun zs h1 h2=> .inr ⟨m,hm,.inr ⟨fun g hg=>by rw [←hF];exact h1 g hg,rfl,by rw [←hG];exact h2⟩⟩⟩
   rw [←hF,←hG] at HALL
   obtain ⟨P,hP⟩:∃P:Int→List Pr→Prop,P=uo files ps:=⟨_,rfl⟩
   rw [←hP] at HERR HOK ⊢
   clear H hn hnp hm hF hG hP
   have hn61:=HNF.out
   go_enter Tryz.func17,Tryz.ntmps17
   go_wp2_with (go_at_call 31;go_loud (refine H31.mono ?_;rintro e w5 ⟨⟨PB,fm,cm,rfl,hP⟩,hb5⟩;have HP5:=z0 (HPN.out PB fm cm w5 hP hb5);clear hP hb5))
   obtain ⟨mp,hmp⟩:∃mp,mp=w5.heap.size:=⟨_,rfl⟩
   obtain ⟨W6,hW6⟩:∃W6,W6=w5.alloc (Obj.map #[] 0):=⟨_,rfl⟩
   rw [←hmp,←hW6]
   have HC6:ah (CX (usR m ps) (erN m) F G W m (.slice Ap np cp) PB fm cm mp [] [] W6):=⟨by
    obtain ⟨c',hP',_⟩:=HP5.out.prj
    have h1:=hP'.hm.lt
    have h2:=hP'.hc.lt
    have h3:=HP5.out.below.size
    refine ⟨by rw [hW6];exact HP5.out.step (aA (Below.refl _ _) _),⟨_,_,by rw [hW6,hmp];exact dh _ _,rfl⟩,by omega,by omega,by omega,fun f hf=>by simp at hf⟩⟩
   clear hmp hW6 H31
   go_loopg [30] n (fun kq v30 w'=>∃(i:Nat) (al:AL),v30= .int .i64 i∧ah (kq+i=n)∧ah (CX (usR m ps) (erN m) F G W m (.slice Ap np cp) PB fm cm mp al (files.take i) w'))
   case atStart=>exact ⟨0,[],rfl,⟨rfl⟩,HC6⟩
   case round=>
    clear HC6 HP5
    obtain ⟨i,al,rfl,hki,hC⟩:=hrel
    have hki':=hki.out
    cases gk with
    |zero=>
     have hlt:decide ((i:Int)<(n:Int))=false:=decide_eq_false (by omega)
     have HCA:ah (CX (usR m ps) (erN m) F G W m (.slice Ap np cp) PB fm cm mp al files wr):=⟨by
      have:=hC.out
      rw [List.take_of_length_le (by rw [←HN.out];omega)] at this
      exact this⟩
     obtain rfl:n=i:=by omega
     clear hC hki hki'
     go_wp2_with (fail)
     have hmf:∀(fn:Fn) (first cap:Array Value) (w:World),(Instr.makeFunc fn first cap).run Tryz.prog w= .ok (.func fn first cap) w:=fun _ _ _ _=>rfl
     obtain ⟨wa,hwa⟩:∃wa,wa=wr:=⟨_,rfl⟩
     subst hwa
     go_loopg [13,51] n (fun kq v13 v51 w'=>∃(i:Nat) (xs:List Pr),v51= .int .i64 i∧ah (kq+i=n)∧ah (xs.length≤i*4001)∧ah (Kd.R kFl 43 w' W.heap.size (fun _=>True) v13 xs)∧ah (CX (usR m ps) (erN m) F G W m (.slice Ap np cp) PB fm cm mp al files w')∧ah (xs=selC G (usR m ps) (files.take i)))
     case atStart=>exact ⟨0,[],rfl,⟨rfl⟩,⟨by simp⟩,⟨Kd.gQ _ _ _ _ _⟩,HCA,⟨by rw [List.take_zero];rfl⟩⟩
     case round=>
      clear HCA
      obtain ⟨i,xs,rfl,hki,hxl,hR,hC,hX⟩:=hrel
      have hki':=hki.out
      cases gk with
      |zero=>
       have hlt:decide ((i:Int)<(n:Int))=false:=decide_eq_false (by omega)
       have H32:=G5 xs W.heap.size u13 wr (F7 hR.out) (by have:=hxl.out;omega)
       go_wp2_with (first|(go_at_call 32;go_loud (refine H32.mono ?_;rintro e w9 ⟨rfl,ys,hp9,ho9,hf9⟩;have hl9:=hp9.1.length_eq;have H36:=Dp ys W.heap.size u13 w9 ho9 (by have:=hxl.out;omega) hp9.2;have HQ:=z0 (And.intro hp9 hf9);have HL9:=z0 hl9;clear hp9 ho9 hf9 hl9))|(go_at_call 36;go_loud (refine H36.mono ?_;rintro e w8 ⟨A8,c8,zs,rfl,hc8,h81,h82,h83,hf8⟩;have HZ:=z0 (And.intro hc8 (And.intro h81 (And.intro h82 (And.intro h83 hf8))));clear hc8 h81 h82 h83 hf8)))
       go_ret2
       obtain ⟨q1,q2,q3,q4,q5⟩:=HZ.out
       have hl9:=HL9.out
       have hx9:=hxl.out
       refine ⟨0,A8,c8,zs,rfl,q5.below (HQ.out.2.below hC.out.ps.below),q1,q2,by omega,HOK.out zs (fun f hf=>(hC.out.rows f hf).1) ⟨q4.1,fun y=> ?_⟩⟩
       rw [q4.2,HQ.out.1.1.mem_iff,hX.out,List.take_of_length_le (by rw [←HN.out];omega)]
      |succ g1=>
       have hlt:decide ((i:Int)<(n:Int))=true:=decide_eq_true (by omega)
       have hii:(0:Int)≤(i:Int):=by omega
       obtain ⟨x,hx⟩:∃x,files[i]? =some x:=⟨_,List.getElem?_eq_getElem (by rw [←HN.out];omega)⟩
       obtain ⟨ad,hAd,hx0,hx1⟩:=oP (Kd.fC HFC.out hC.out.ps.below) i (by omega) x hx
       obtain rfl:=hAd
       have htk:=take_snoc files i x hx
       have hxm:=List.mem_of_getElem? hx
       obtain ⟨f1,f2⟩:=x
       simp only at hx0 hx1
       have hB4:=aA (Below.refl wr.heap.size wr) (Obj.cells #[Value.string f1,Value.string f2] 46)
       have H21:=HRD.out PB fm cm _ f1 (HGET.out _ hxm) (hC.out.ps.step hB4)
       have HTK:=z0 htk
       have HB4:=z0 hB4
       have HNW:ah ((wr.alloc (Obj.cells #[Value.string f1,Value.string f2] 46)).heap[wr.heap.size]? =some (.cells #[Value.string f1,Value.string f2] 46 (0,0))∧wr.heap.size≠cm):=⟨dh _ _,by obtain ⟨c',hP',_⟩:=hC.out.ps.prj;have:=hP'.hc.lt;omega⟩
       have HXM:=z0 hxm
       have hul:=HUL.out f1
       obtain ⟨l,hlus⟩:∃l,l=usR m ps f1:=⟨_,rfl⟩
       rw [←hlus] at H21 hul
       have HUS:=z0 hlus
       obtain ⟨L,hL⟩:∃L,L=l.length:=⟨_,rfl⟩
       rw [←hL] at hul
       have HLE:=z0 hL
       clear hx htk hxm hB4 hlus hL
       go_wp2_with (go_at_call 21;go_loud (refine H21.mono ?_;rintro e w6 ⟨rb,rfl,hrd,hps,hsz,hkp⟩;obtain ⟨vl,vu,hrb,hus⟩:=hrd.2;obtain ⟨Au,cu,rfl⟩:=Kd.bF hus;rw [←HLE.out] at hrb hus;have r1:w6.cell? ⟨rb,1,none⟩=some (.slice Au L cu):=(by have:=cell_of_row _ rb 1 _ _ _ hrb;simpa using this);have HCW:=z0 ((hC.out.step HB4.out).read hps hkp);have HR6:=z0 (Ba (Kd.dn hR.out HB4.out) (fun k cs hc=>hkp k (aT hc) ((hC.out.step HB4.out).ps.sG hc (by decide)).2.2));have HN6:ah (w6.heap[wr.heap.size]? =some (.cells #[Value.string f1,Value.string f2] 46 (0,0))):=⟨(hkp _ (aT HNW.out.1) HNW.out.2).trans HNW.out.1⟩;have HU6:=z0 hus;clear hrd hps hsz hkp hrb hus))
       obtain ⟨FB,hFB⟩:∃FB,FB=wr.heap.size:=⟨_,rfl⟩
       rw [←hFB] at HN6 ⊢
       have hX0:=hX
       have hxl0:=hxl
       clear hFB HNW HB4 hR hC hx0 hx1 r1 H21 hX hxl
       obtain ⟨i2,hi2⟩:∃i2,i2=i*4001:=⟨_,rfl⟩
       rw [←hi2] at hxl0
       have HI2:=z0 hi2
       clear hi2
       go_loopg [13,63] L (fun kq v13 v63 w'=>∃(j:Nat) (xs1:List Pr),v63= .int .i64 j∧ah (kq+j=L)∧ah (xs1.length≤i2+j)∧ah (Kd.R kFl 43 w' W.heap.size (fun _=>True) v13 xs1)∧ah (CX (usR m ps) (erN m) F G W m (.slice Ap np cp) PB fm cm mp al files w')∧ah (xs1=selC G (usR m ps) (files.take i)++xZ G f1 (l.take j))∧ah (w'.heap[FB]? =some (.cells #[Value.string f1,Value.string f2] 46 (0,0)))∧ah (Kd.R kUs 34 w' W.heap.size (fun _=>True) (.slice Au L cu) l))
       case atStart=>exact ⟨0,xs,rfl,⟨rfl⟩,⟨by have:=hxl0.out;omega⟩,HR6,HCW,⟨by rw [List.take_zero,hX0.out];exact (List.append_nil _).symm⟩,HN6,HU6⟩
       case round=>
        clear HR6 HCW hX0 HN6 HU6 hxl0
        obtain ⟨j,xs1,rfl,hkj,hxl,hR,hC,hX,hNB,hU⟩:=hrel
        have hkj':=hkj.out
        cases gk with
        |zero=>
         have hlt:decide ((j:Int)<(L:Int))=false:=decide_eq_false (by omega)
         go_wp2_with (fail)
         go_roundg g1
         case measure=>omega
         case rel=>
          refine ⟨i+1,xs1,(by (try simp)),⟨by omega⟩,⟨by have h1:=hxl.out;have h2:=HI2.out;omega⟩,hR,hC,⟨?_⟩⟩
          have e1:l.take j=l:=List.take_of_length_le (by rw [←HLE.out];omega)
          rw [HTK.out,yJ,hX.out,e1,HUS.out]
        |succ g2=>
         have hlt:decide ((j:Int)<(L:Int))=true:=decide_eq_true (by omega)
         have hjj:(0:Int)≤(j:Int):=by omega
         obtain ⟨x,hx⟩:∃x,l[j]? =some x:=⟨_,List.getElem?_eq_getElem (by rw [←HLE.out];omega)⟩
         obtain ⟨ad2,hAd2,hx0,hx1,hx2⟩:=Em (Kd.aZ hU.out).2.2 j (by rw [←HLE.out];omega) x hx
         obtain rfl:=hAd2
         have htk:=take_snoc l j x hx
         have hxm:=List.mem_of_getElem? hx
         obtain ⟨un,uq,uf⟩:=x
         simp only at hx0 hx1 hx2
         have hB8:=aA (Below.refl wr.heap.size wr) (Obj.cells #[Value.string un,Value.bool uq,Value.string uf] 34)
         have C8:=hC.out.step hB8
         have HT2:=z0 htk
         have HB8:=z0 hB8
         by_cases huf:uf.toList=[]
         · have e1:(uf.toList==([]:List UInt8))=true:=by rw [huf];rfl
           have HUF:=z0 huf
           clear hx hxm htk hB8 C8 huf
           go_wp2_with (fail)
           obtain ⟨We,hWe⟩:∃We,We=wr.alloc (Obj.cells #[Value.string un,Value.bool uq,Value.string uf] 34):=⟨_,rfl⟩
           rw [←hWe] at HB8 ⊢
           clear hWe
           go_roundg g2
           case measure=>omega
           case rel=>
            refine ⟨j+1,xs1,(by (try simp)),⟨by omega⟩,⟨by have:=hxl.out;omega⟩,⟨Ba hR.out (fun k cs hc=>HB8.out.block k (aT hc))⟩,⟨hC.out.step HB8.out⟩,⟨?_⟩,⟨(HB8.out.block _ (aT hNB.out)).trans hNB.out⟩,⟨Bc hU.out (fun k cs hc=>HB8.out.block k (aT hc))⟩⟩
            rw [HT2.out,(mF G f1 _ _).2 (.inl HUF.out)];exact hX.out
         · have e1:(uf.toList==([]:List UInt8))=false:=beq_eq_false_iff_ne.mpr huf
           obtain ⟨fu,hfu,hfn⟩:∃fu∈files,fu.1=uf:=by
            have h0:(un,uq,uf)∈usR m ps f1:=by rw [←HUS.out];exact hxm
            have h1:uf∈files.map (·.1):=(HENV.out PB fm cm).in_ f1 uf (EM h0 huf)
            obtain ⟨fu,h2,h3⟩:=List.mem_map.1 h1
            exact ⟨fu,h2,h3⟩
           obtain ⟨_,ou,vu,hau,hFu,hRu,hlu⟩:=C8.rows fu hfu
           rw [hfn] at hau hFu
           obtain ⟨Ao,co,rfl⟩:=Kd.bF hRu
           have hlk:=C8.map.get Tryz.underlying66 uf (.slice none 0 0) (fun _=>rfl)
           rw [hau] at hlk
           simp only [Option.getD_some] at hlk
           obtain ⟨bb,hbb,hbi⟩:=mg ou f1 (ou.length+1) (by omega) (by omega)
           have hRu':=Kd.aZ hRu
           have H28:=OCond.dA.calls (ou.length+1) Ao co ou f1 bb _ hRu'.2.2 hRu'.2.1 hbb
           have n8:(wr.alloc (Obj.cells #[Value.string un,Value.bool uq,Value.string uf] 34)).cell? ⟨FB,0,none⟩=some (.string f1):=by have:=cell_of_row _ FB 0 _ _ _ (dN hNB.out (Obj.cells #[Value.string un,Value.bool uq,Value.string uf] 34));simpa using this
           have HFU:=z0 (And.intro hFu hbi)
           have HC8:=z0 C8
           have HU8:=z0 (dh wr (Obj.cells #[Value.string un,Value.bool uq,Value.string uf] 34))
           have HNE:=z0 huf
           clear hx hxm htk hB8 C8 huf hFu hbi hRu' hRu hlu hau hfu hfn hbb
           go_wp2_with (first|(go_at_call 28;go_loud (refine H28.mono ?_;rintro e w9 ⟨rfl,hd9⟩;have hb9:=hd9.below;have hF9:=(hb9.block FB (aT (dN hNB.out _))).trans (dN hNB.out (Obj.cells #[Value.string un,Value.bool uq,Value.string uf] 34));have hU9:=(hb9.block wr.heap.size (aT HU8.out)).trans HU8.out;have c91:w9.cell? ⟨FB,0,none⟩=some (.string f1):=(by have:=cell_of_row _ FB 0 _ _ _ hF9;simpa using this);have c92:w9.cell? ⟨wr.heap.size,2,none⟩=some (.string uf):=(by have:=cell_of_row _ wr.heap.size 2 _ _ _ hU9;simpa using this);have HR9:=z0 (Ba hR.out (fun k cs hc=>(hb9.block k (Nat.lt_of_lt_of_le (aT hc) HB8.out.size)).trans (HB8.out.block k (aT hc))));have HUU9:=z0 (Bc hU.out (fun k cs hc=>(hb9.block k (Nat.lt_of_lt_of_le (aT hc) HB8.out.size)).trans (HB8.out.block k (aT hc))));have HC9:=z0 (HC8.out.step hb9);have HF9:=z0 hF9;clear hd9 hb9 hF9 hU9))|(at_builtin;go_loud (refine Kd.fH kFl (w0:=W) (W:=w9) W.heap.size rfl (.tmp 79) (.tmp 85) 40 43 (.agg #[(.string ⟨#[]⟩),(.string ⟨#[]⟩)]) 32 rfl Tryz.underlying40 II rfl (by decide) (by omega) u13 xs1 (f1,uf) [.string f1,.string uf] (fun _=>True) (fun _=>False) rfl rfl ⟨[.string f1],[.string uf],rfl,rfl,rfl⟩ (fun _ hk=>hk.elim) (fun _ _=>trivial) HR9.out HC9.out.ps.below HC9.out.ps.below.size ?aL ?_;(case aL=>have h1:=hxl.out;have h2:=HI2.out;omega);intro v1 wb ho hbb hgb hatb;have HOb:=z0 ho;have HGb:=z0 (And.intro hbb (And.intro hgb hatb));clear ho hbb hgb hatb)))
           · go_roundg g2
             case measure=>omega
             case rel=>
              obtain ⟨q1,q2,q3⟩:=HGb.out
              have hty:=Kd.fQ HR9.out
              have far:∀{k t:Nat} {cs:Array Value},w9.heap[k]? =some (.cells cs t (0,0))→t≠43→wb.heap[k]? =w9.heap[k]? :=fun {k t cs} h ht=>q2.block k (aT h) (Kd.AX HR9.out h (by omega))
              refine ⟨j+1,xs1++[(f1,uf)],(by (try simp)),⟨by omega⟩,⟨by rw [List.length_append,List.length_singleton];have:=hxl.out;omega⟩,HOb,⟨HC9.out.Lh q1 (fun k hk hn=>q2.block k hk (fun e=> ?_))⟩,⟨?_⟩,⟨(far HF9.out (by decide)).trans HF9.out⟩,⟨Bc HUU9.out (fun k cs hc=>far hc (by decide))⟩⟩
              · obtain ⟨cs,hc⟩:=hty k e.symm
                exact hn cs hc
              · rw [HT2.out,(mF G f1 _ _).1 HNE.out (by show f1∈G uf;rw [HFU.out.1];exact HFU.out.2.1 (by assumption)),hX.out,List.append_assoc]
           · rename_i hbt
             go_roundg g2
             case measure=>omega
             case rel=>
              refine ⟨j+1,xs1,(by (try simp)),⟨by omega⟩,⟨by have:=hxl.out;omega⟩,HR9,HC9,⟨?_⟩,HF9,HUU9⟩
              rw [HT2.out,(mF G f1 _ _).2 (.inr (by
               intro hm
               have hm2:f1∈G uf:=hm
               rw [HFU.out.1] at hm2
               rw [HFU.out.2.2 hm2] at hbt
               exact absurd hbt (by decide)))]
              exact hX.out
    |succ g1=>
     have hlt:decide ((i:Int)<(n:Int))=true:=decide_eq_true (by omega)
     have hii:(0:Int)≤(i:Int):=by omega
     obtain ⟨x,hx⟩:∃x,files[i]? =some x:=⟨_,List.getElem?_eq_getElem (by rw [←HN.out];omega)⟩
     obtain ⟨ad,hAd,hx0,hx1⟩:=oP (Kd.fC HFC.out hC.out.ps.below) i (by omega) x hx
     obtain rfl:=hAd
     have htk:=take_snoc files i x hx
     have hxm:=List.mem_of_getElem? hx
     obtain ⟨f1,f2⟩:=x
     simp only at hx0 hx1
     have hB4:=aA (Below.refl wr.heap.size wr) (Obj.cells #[Value.string f1,Value.string f2] 46)
     have H26:=HALL.out PB fm cm f1 (HGET.out _ hxm) _ (hC.out.ps.step hB4)
     have HX:=z0 hx
     have HTK:=z0 htk
     have HB4:=z0 hB4
     have HNW:ah ((wr.alloc (Obj.cells #[Value.string f1,Value.string f2] 46)).heap[wr.heap.size]? =some (.cells #[Value.string f1,Value.string f2] 46 (0,0))∧wr.heap.size≠cm):=⟨dh _ _,by obtain ⟨c',hP',_⟩:=hC.out.ps.prj;have:=hP'.hc.lt;omega⟩
     have HXM:=z0 hxm
     clear hx htk hxm hB4
     go_wp2_with (go_at_call 26;go_loud (refine H26.mono ?_;rintro e w6 ⟨er6,o6,v6,rfl,hw6,hr6,hp6,hs6,hk6,hl6⟩;obtain ⟨A6,c6,rfl⟩:=Kd.bF hr6;have hc6:w6.cell? ⟨wr.heap.size,0,none⟩=some (.string f1):=(by have:=cell_of_row _ _ 0 _ _ _ ((hk6 wr.heap.size (aT HNW.out.1) HNW.out.2).trans HNW.out.1);simpa using this);have HCW:=z0 ((hC.out.step HB4.out).read hp6 hk6);obtain ⟨w7,hrun7,hM7,hO7⟩:=HCW.out.map.put (mt:=66) (e:=23) Tryz.underlying66 f1 (.slice A6 o6.length c6);have HX6:=z0 (And.intro hw6 (And.intro hr6 (And.intro hM7 (And.intro hO7 (And.intro hs6 hl6)))));clear hw6 hr6 hp6 hs6 hk6 hM7 hO7))
     · rename_i h5
       have h5':er6≠0:=by simpa using h5
       go_ret2
       exact sF (HERR.out i _ er6 HX.out (fun g hg=>(hC.out.rows g hg).1) HX6.out.1.1 h5') HCW.out.ps.below
     · rename_i h5
       have h5':er6=0:=by simpa using h5
       subst h5'
       go_roundg g1
       case measure=>omega
       case rel=>
        obtain ⟨q1,q2,q3,q4,q5,q6⟩:=HX6.out
        refine ⟨i+1,lD al f1 (.slice A6 o6.length c6),(by (try simp)),⟨by omega⟩,⟨?_⟩⟩
        rw [HTK.out]
        exact HCW.out.put (f1,f2) q1.1 o6 _ q3 q4 q1.2 (Kd.fZ q2 (Nat.le_trans hC.out.ps.below.size (by rw [bT];exact Nat.le_succ _))) q6
end
end Go.Proofs.YtolaiebjmhieiaaGreatDoor.OScan
end
section
namespace Go.Proofs.YtolaiebjmhieiaaGreatDoor.OLaw
open Go.RowKit YtolaiebjmhieiaaGreatDoorW.PrintWords YtolaiebjmhieiaaGreatDoorW.PrintLast YtolaiebjmhieiaaGreatDoorW.PrintMore
attribute [local go_sem] jF jD ku jZ jc iZ jE jC
structure S46 where
 f0:ByteArray
 f1:ByteArray
def z46:S46:=⟨(⟨#[]⟩:ByteArray),(⟨#[]⟩:ByteArray)⟩
def k46:Kd S46:=Kd.iso (Kd.pair Kd.string Kd.string) (fun x:S46=>(x.f0,x.f1))
theorem wY {w:World}{x:S46}{cs:List Value}(h:k46.K w x cs):cs=[.string x.f0,.string x.f1]:=by
 obtain ⟨_,_,rfl,rfl,rfl⟩:=h
 exact rfl
def iU (xs:List S46)(i:Int):S46:=xs.getD i.toNat z46
theorem oL {w:World}{A:Option Addr}{n:Nat}{xs:List S46}(h:Kd.C k46 w A n xs)(i:Int)(h0:0≤i)(h1:i<n):∃ad,A=some ad∧w.cell? (ad.add (i.toNat*2))=some (.string (iU xs i).f0)∧w.cell? ⟨(ad.add (i.toNat*2)).block,(ad.add (i.toNat*2)).off+1,none⟩=some (.string (iU xs i).f1):=by
 obtain ⟨ad,c,e,_,hK,hc0⟩:=Kd.pJ h z46 i h0 h1
 have hc:∀j u,c[j]? =some u→w.cell? (ad.add (i.toNat*2+j))=some u:=hc0
 obtain rfl:=wY hK
 exact ⟨ad,e,hc 0 _ rfl,by rw [←gZ _ _ 1 (by omega)];exact hc 1 _ rfl⟩
def dY.l0:Nat→List (S46)→List ByteArray→Int→Int→Option (Bool)
 |0,_,_,_,_=>none
 |k+1,x0,x1,x5,x6=>if x6<(x0.length:Int) then (if x5≤4000 then (if 0≤x6 then (dY.l0 k x0 x1 (wrap64 ((wrap64 ((wrap64 (x5+1))+(((iU x0 x6).f0).size:Int)))+(((iU x0 x6).f1).size:Int))) (wrap64 (x6+1))) else (none)) else (if x5>4000 then (some true) else (if (x0.length:Int)>12 then (if (x0.length:Int)≤60 then (some true) else (if (x0.length:Int)>61 then (some true) else (some (decide ((x1.length:Int)>5))))) else (if (x0.length:Int)>61 then (some true) else (some (decide ((x1.length:Int)>5))))))) else (if x5>4000 then (some true) else (if (x0.length:Int)>12 then (if (x0.length:Int)≤60 then (some true) else (if (x0.length:Int)>61 then (some true) else (some (decide ((x1.length:Int)>5))))) else (if (x0.length:Int)>61 then (some true) else (some (decide ((x1.length:Int)>5))))))
def dY.f (k:Nat)(l0:List (S46))(l1:List ByteArray):Option (Bool):=dY.l0 k l0 l1 0 0
theorem dY.calls (k:Nat)(A0:Option Addr)(c0:Nat)(l0:List (S46))(A1:Option Addr)(c1:Nat)(l1:List ByteArray)(r:Bool)(w:World)(hr0:Kd.C k46 w A0 l0.length l0)(hc0:l0.length≤c0)(hr1:Kd.C Kd.string w A1 l1.length l1)(hc1:l1.length≤c1)(h:dY.f k l0 l1=some r):
 Calls Tryz.prog 6 #[.slice A0 l0.length c0,.slice A1 l1.length c1] w fun e w'=>e= .returned (.bool r)∧dM w w':=by
 have HR0:=z0 hr0
 have HC0:=z0 hc0
 clear hr0 hc0
 have HR1:=z0 hr1
 have HC1:=z0 hc1
 clear hr1 hc1
 have H:=h
 clear h
 unfold dY.f at H
 have H':=z0 H
 clear H
 go_enter Tryz.func6,Tryz.ntmps6
 go_wp2
 repeat (go_quiet (fail);try go_wp2)
 go_loopg [5,6] k (fun kq v5 v6 w'=>∃(x5_1:Int) (x6_1:Int),v5= .int .i64 x5_1∧v6= .int .i64 x6_1∧ah (dY.l0 kq l0 l1 x5_1 x6_1=some r)∧ah (kq≤k)∧dM w w')
 case atStart=>exact ⟨(0),(0),zr,zr,H',⟨Nat.le_refl _⟩,zq⟩
 case round=>
  clear H'
  obtain ⟨x5_1,x6_1,rfl,rfl,HA,HK1,⟨m1,rfl⟩⟩:=hrel
  cases gk with
  |zero=>exact absurd HA.out (by simp [dY.l0])
  |succ k1=>
   have H:=HA.out
   clear HA
   simp only [dY.l0] at H
   replace H:=zd H
   rcases H with ⟨c3b0,H⟩|⟨c3b0,H⟩
   · replace H:=zd H
     rcases H with ⟨c4b0,H⟩|⟨c4b0,H⟩
     · replace H:=zdn H
       obtain ⟨c5b0,H⟩:=H
       have H':=z0 H
       clear H
       have p101:0≤(x6_1:Int):=of_decide_eq_true (by first|(with_reducible assumption)|assumption)
       have q101:x6_1<(l0.length:Int):=of_decide_eq_true (by first|(with_reducible assumption)|assumption)
       obtain ⟨ad101,e101,hx101_0,hx101_1⟩:=oL HR0.out x6_1 p101 q101
       cases e101
       replace p101:=eq_true p101
       replace q101:=eq_true q101
       have p102:0≤(x6_1:Int):=of_decide_eq_true (by first|(with_reducible assumption)|assumption)
       have q102:x6_1<(l0.length:Int):=of_decide_eq_true (by first|(with_reducible assumption)|assumption)
       obtain ⟨ad102,e102,hx102_0,hx102_1⟩:=oL HR0.out x6_1 p102 q102
       obtain rfl:ad101=ad102:=(by injection e102)
       replace p102:=eq_true p102
       replace q102:=eq_true q102
       go_wp2
       repeat (go_quiet (fail);try go_wp2)
       go_roundg k1
       case measure=>have:=HK1.out;omega
       case rel=>exact ⟨(wrap64 ((wrap64 ((wrap64 (x5_1+1))+(((iU l0 x6_1).f0).size:Int)))+(((iU l0 x6_1).f1).size:Int))),(wrap64 (x6_1+1)),zr,zr,H',⟨by have:=HK1.out;omega⟩,zq⟩
     · replace H:=zt H
       rcases H with ⟨c6b0,H⟩|⟨c6b0,H⟩
       · obtain rfl:=Option.some.inj H
         go_wp2
         repeat (go_quiet (fail);try go_wp2)
         go_ret
         exact ⟨zr,zq⟩
       · by_cases c7:(l0.length:Int)>12
         · rw [if_pos c7] at H
           have c7b0:decide (12<(l0.length:Int))=true:=decide_eq_true c7
           have c7b1:decide (12<l0.length)=true:=decide_eq_true (by omega)
           clear c7
           by_cases c8:(l0.length:Int)≤60
           · rw [if_pos c8] at H
             have c8b0:decide ((l0.length:Int)≤60)=true:=decide_eq_true c8
             have c8b1:decide (l0.length≤60)=true:=decide_eq_true (by omega)
             clear c8
             obtain rfl:=Option.some.inj H
             go_wp2
             repeat (go_quiet (fail);try go_wp2)
             go_ret
             exact ⟨zr,zq⟩
           · rw [if_neg c8] at H
             have c8b0:decide ((l0.length:Int)≤60)=false:=decide_eq_false c8
             have c8b1:decide (l0.length≤60)=false:=decide_eq_false (by omega)
             clear c8
             by_cases c9:(l0.length:Int)>61
             · rw [if_pos c9] at H
               have c9b0:decide (61<(l0.length:Int))=true:=decide_eq_true c9
               have c9b1:decide (61<l0.length)=true:=decide_eq_true (by omega)
               clear c9
               obtain rfl:=Option.some.inj H
               go_wp2
               repeat (go_quiet (fail);try go_wp2)
               go_ret
               exact ⟨zr,zq⟩
             · rw [if_neg c9] at H
               have c9b0:decide (61<(l0.length:Int))=false:=decide_eq_false c9
               have c9b1:decide (61<l0.length)=false:=decide_eq_false (by omega)
               clear c9
               obtain rfl:=Option.some.inj H
               go_wp2
               repeat (go_quiet (fail);try go_wp2)
               go_ret
               exact ⟨zr,zq⟩
         · rw [if_neg c7] at H
           have c7b0:decide (12<(l0.length:Int))=false:=decide_eq_false c7
           have c7b1:decide (12<l0.length)=false:=decide_eq_false (by omega)
           clear c7
           by_cases c10:(l0.length:Int)>61
           · rw [if_pos c10] at H
             have c10b0:decide (61<(l0.length:Int))=true:=decide_eq_true c10
             have c10b1:decide (61<l0.length)=true:=decide_eq_true (by omega)
             clear c10
             obtain rfl:=Option.some.inj H
             go_wp2
             repeat (go_quiet (fail);try go_wp2)
             go_ret
             exact ⟨zr,zq⟩
           · rw [if_neg c10] at H
             have c10b0:decide (61<(l0.length:Int))=false:=decide_eq_false c10
             have c10b1:decide (61<l0.length)=false:=decide_eq_false (by omega)
             clear c10
             obtain rfl:=Option.some.inj H
             go_wp2
             repeat (go_quiet (fail);try go_wp2)
             go_ret
             exact ⟨zr,zq⟩
   · replace H:=zt H
     rcases H with ⟨c11b0,H⟩|⟨c11b0,H⟩
     · obtain rfl:=Option.some.inj H
       go_wp2
       repeat (go_quiet (fail);try go_wp2)
       go_ret
       exact ⟨zr,zq⟩
     · by_cases c12:(l0.length:Int)>12
       · rw [if_pos c12] at H
         have c12b0:decide (12<(l0.length:Int))=true:=decide_eq_true c12
         have c12b1:decide (12<l0.length)=true:=decide_eq_true (by omega)
         clear c12
         by_cases c13:(l0.length:Int)≤60
         · rw [if_pos c13] at H
           have c13b0:decide ((l0.length:Int)≤60)=true:=decide_eq_true c13
           have c13b1:decide (l0.length≤60)=true:=decide_eq_true (by omega)
           clear c13
           obtain rfl:=Option.some.inj H
           go_wp2
           repeat (go_quiet (fail);try go_wp2)
           go_ret
           exact ⟨zr,zq⟩
         · rw [if_neg c13] at H
           have c13b0:decide ((l0.length:Int)≤60)=false:=decide_eq_false c13
           have c13b1:decide (l0.length≤60)=false:=decide_eq_false (by omega)
           clear c13
           by_cases c14:(l0.length:Int)>61
           · rw [if_pos c14] at H
             have c14b0:decide (61<(l0.length:Int))=true:=decide_eq_true c14
             have c14b1:decide (61<l0.length)=true:=decide_eq_true (by omega)
             clear c14
             obtain rfl:=Option.some.inj H
             go_wp2
             repeat (go_quiet (fail);try go_wp2)
             go_ret
             exact ⟨zr,zq⟩
           · rw [if_neg c14] at H
             have c14b0:decide (61<(l0.length:Int))=false:=decide_eq_false c14
             have c14b1:decide (61<l0.length)=false:=decide_eq_false (by omega)
             clear c14
             obtain rfl:=Option.some.inj H
             go_wp2
             repeat (go_quiet (fail);try go_wp2)
             go_ret
             exact ⟨zr,zq⟩
       · rw [if_neg c12] at H
         have c12b0:decide (12<(l0.length:Int))=false:=decide_eq_false c12
         have c12b1:decide (12<l0.length)=false:=decide_eq_false (by omega)
         clear c12
         by_cases c15:(l0.length:Int)>61
         · rw [if_pos c15] at H
           have c15b0:decide (61<(l0.length:Int))=true:=decide_eq_true c15
           have c15b1:decide (61<l0.length)=true:=decide_eq_true (by omega)
           clear c15
           obtain rfl:=Option.some.inj H
           go_wp2
           repeat (go_quiet (fail);try go_wp2)
           go_ret
           exact ⟨zr,zq⟩
         · rw [if_neg c15] at H
           have c15b0:decide (61<(l0.length:Int))=false:=decide_eq_false c15
           have c15b1:decide (61<l0.length)=false:=decide_eq_false (by omega)
           clear c15
           obtain rfl:=Option.some.inj H
           go_wp2
           repeat (go_quiet (fail);try go_wp2)
           go_ret
           exact ⟨zr,zq⟩
end Go.Proofs.YtolaiebjmhieiaaGreatDoor.OLaw
end
section
namespace Go.Proofs.YtolaiebjmhieiaaGreatDoor.OScan
open Go.RowKit YtolaiebjmhieiaaGreatDoorW.PrintWords YtolaiebjmhieiaaGreatDoorW.PrintLast YtolaiebjmhieiaaGreatDoorW.PrintMore
def fA:Fl:=(⟨#[97,46,99]⟩,⟨#[35,105,110,99,108,117,100,101,32,34,98,46,104,34,10]⟩)
def fB:Fl:=(⟨#[98,46,104]⟩,⟨#[105,110,116,32,120,59,10]⟩)
def mA:AL:=[(fA.1,.string fA.2),(fB.1,.string fB.2)]
theorem Nj:eY [fA,fB]=(0,some mA):=by kernel_rfl
theorem NS:erN mA fA.1=0:=by kernel_rfl
theorem NR:erN mA fB.1=0:=by kernel_rfl
theorem MX:gR mA [] fA.1=[fB.1]:=by kernel_rfl
theorem NJ:gR mA [] fB.1=[]:=by kernel_rfl
theorem outA {out:List ByteArray}(h:Graph.Found (erN mA) (gR mA []) fA.1 out):out=[fB.1,fA.1]:=by
 have hr:∀x,Graph.Reach (gR mA []) fA.1 x→x=fA.1∨x=fB.1:=by
  have key:∀a x,Graph.Reach (gR mA []) a x→(a=fA.1∨a=fB.1)→(x=fA.1∨x=fB.1):=fun a x h=>by
   induction h with
   |refl=>exact id
   | @step a b c hb _ ih=>
     intro ha
     refine ih ?_
     rcases ha with rfl|rfl
     · rw [MX] at hb
       exact .inr (List.mem_singleton.1 hb)
     · rw [NJ] at hb
       simp at hb
  exact fun x h=>key _ x h (.inl rfl)
 have hne:fB.1≠fA.1:=by decide
 have hB:fB.1∈out:=(h.mem _).2 (.step (by rw [MX];exact List.mem_singleton.2 rfl) (.refl _))
 obtain ⟨o,rfl⟩:=h.last
 have hnd:=h.nd
 rw [List.nodup_append] at hnd
 obtain ⟨n1,_,n3⟩:=hnd
 have ho:∀x∈o,x=fB.1:=fun x hx=>by
  rcases hr x ((h.mem x).1 (List.mem_append_left _ hx)) with e|e
  · exact absurd e (n3 x hx fA.1 (List.mem_singleton.2 rfl))
  · exact e
 have hBo:fB.1∈o:=by
  rcases List.mem_append.1 hB with h|h
  · exact h
  · exact absurd (List.mem_singleton.1 h) hne
 cases o with
 |nil=>simp at hBo
 |cons a l=>
  obtain rfl:=ho a (List.mem_cons_self ..)
  cases l with
  |nil=>rfl
  |cons b l=>
   have:=ho b (List.mem_cons_of_mem _ (List.mem_cons_self ..))
   rw [this] at n1
   simp at n1
section
variable {W:World}{files:List Fl}{ps:List ByteArray}{A Ap:Option Addr}{c cp:Nat}{m:AL}
theorem MV (H:iG W files ps A Ap c cp)(hm:eY files=(0,some m))(hall:∀f∈files,erN m f.1=0)(name:ByteArray)(hsome:(eF m name).isSome=true):
 Calls Tryz.prog 9 #[.slice A files.length c,.string name,.slice Ap ps.length cp] W fun e w'=>∃(v:Value) (out:List ByteArray),e= .returned (.tuple #[v,.int .i64 0])∧Below W.heap.size W w'∧Kd.R Kd.string 9 w' W.heap.size (fun _=>True) v out∧Graph.Found (erN m) (gR m ps) name out:=by
 have H20:=Bj files name A c Ap ps.length cp W H.glob H.fc H.fl (by have:=H.nfl;omega) (fun f hf=>by have:=(H.fsz f hf).1;omega)
 have hw:jB files name=(0,some m):=by unfold jB;rw [hm];simp only;rw [if_pos hsome]
 rw [hw] at H20
 obtain ⟨n,hn⟩:∃n,n=files.length:=⟨_,rfl⟩
 obtain ⟨np,hnp⟩:∃np,np=ps.length:=⟨_,rfl⟩
 have H26:ah (∀(w5:World) (PB fm cm:Nat),uU W.heap.size w5 PB fm cm (.slice Ap np cp) m []→Below W.heap.size W w5→Calls Tryz.prog 26 #[.pointer (some ⟨PB,0,none⟩),.string name] w5 fun e w'=>∃(v:Value) (out:List ByteArray),e= .returned (.tuple #[v,.int .i64 0])∧Below W.heap.size W w'∧Kd.R Kd.string 9 w' W.heap.size (fun _=>True) v out∧Graph.Found (erN m) (gR m ps) name out):=⟨fun w5 PB fm cm hP hb=>by
  rw [hnp] at hP
  refine (Md H hm hall PB fm cm name hsome w5 (tu hP hb)).mono ?_
  rintro e w' ⟨out,v,rfl,hF,hr,hps,_⟩
  exact ⟨v,out,rfl,hps.below,Kd.fZ hr hb.size,hF⟩⟩
 rw [←hn,←hnp] at H20
 rw [←hn,←hnp]
 clear H hw hn hnp hm hsome hall
 go_enter Tryz.func9,Tryz.ntmps9
 go_wp2_with (first|(go_at_call 20;go_loud (refine H20.mono ?_;rintro e w5 ⟨⟨PB,fm,cm,rfl,hP⟩,hb5⟩;have H26':=H26.out w5 PB fm cm hP hb5;clear hP hb5))|(go_at_call 26;go_loud (refine H26'.mono ?_;rintro e w6 ⟨v6,out6,rfl,h1,h2,h3⟩;obtain ⟨A6,c6,rfl⟩:=Kd.bF h2;have HX:=z0 (And.intro h1 (And.intro h2 h3));clear h1 h2 h3)))
 go_ret2
 exact ⟨_,out6,rfl,HX.out.1,HX.out.2.1,HX.out.2.2⟩
end
theorem eqA:ORef.cZ.f 5 [fB.1,fA.1] [fB.1,fA.1]=some true:=by kernel_rfl
theorem Gq (w:World)(hG:jg w):Calls Tryz.prog 14 #[] w fun e w'=>e= .returned (.bool true)∧Below w.heap.size w w':=by
 obtain ⟨W1,hW1⟩:∃W1,W1=w.alloc (Obj.cells #[Value.string ⟨#[97,46,99]⟩,Value.string ⟨#[35,105,110,99,108,117,100,101,32,34,98,46,104,34,10]⟩,Value.string ⟨#[98,46,104]⟩,Value.string ⟨#[105,110,116,32,120,59,10]⟩] 46):=⟨_,rfl⟩
 have hb1:Below w.heap.size w W1:=by rw [hW1];exact aA (Below.refl _ _) _
 have hnew:W1.heap[w.heap.size]? =some (.cells #[Value.string ⟨#[97,46,99]⟩,Value.string ⟨#[35,105,110,99,108,117,100,101,32,34,98,46,104,34,10]⟩,Value.string ⟨#[98,46,104]⟩,Value.string ⟨#[105,110,116,32,120,59,10]⟩] 46 (0,0)):=by rw [hW1];exact dh _ _
 have HA:iG W1 [fA,fB] [] (some ⟨w.heap.size,0,none⟩) none 2 0:={
  glob:=hG.below hb1
  fc:=by
   refine ⟨rfl,by decide,fun _=>⟨⟨w.heap.size,0,none⟩,rfl,fun j p hj=>⟨[.string p.1,.string p.2],rfl,⟨[.string p.1],[.string p.2],rfl,rfl,rfl⟩,fun i u hu=> ?_⟩⟩⟩
   rw [add_plain,cell_of_row W1 _ _ _ _ _ hnew]
   match j,i with
   |0,0=>obtain rfl:=Option.some.inj hj;exact hu
   |0,1=>obtain rfl:=Option.some.inj hj;exact hu
   |1,0=>obtain rfl:=Option.some.inj hj;exact hu
   |1,1=>obtain rfl:=Option.some.inj hj;exact hu
   |j+2,_=>simp at hj
   |0,i+2=>simp at hu
   |1,i+2=>simp at hu
  fl:=Nat.le_refl _
  pc:=Kd.Jj _ _
  hA:= .inl rfl
  npl:=by decide
  nfl:=by decide
  fsz:=fun f hf=>by
   rcases List.mem_cons.1 hf with rfl|hf
   · exact ⟨by decide,by decide⟩
   · rw [List.mem_singleton.1 hf];exact ⟨by decide,by decide⟩
  psz:=fun p hp=>by simp at hp}
 have H9:=MV HA Nj (fun f hf=>by
  rcases List.mem_cons.1 hf with rfl|hf
  · exact NS
  · rw [List.mem_singleton.1 hf];exact NR) fA.1 rfl
 have H9':Calls Tryz.prog 9 #[.slice (some ⟨w.heap.size,0,none⟩) 2 2,.string ⟨#[97,46,99]⟩,.slice none 0 0] W1 fun e w'=>∃A5 c5,e= .returned (.tuple #[.slice A5 2 c5,.int .i64 0])∧ah (Below W1.heap.size W1 w')∧Calls Tryz.prog 13 #[.slice A5 2 c5,.slice (some ⟨w'.heap.size,0,none⟩) 2 2] (w'.alloc (Obj.cells #[Value.string ⟨#[98,46,104]⟩,Value.string ⟨#[97,46,99]⟩] 9)) fun e w''=>e= .returned (.bool true)∧dM (w'.alloc (Obj.cells #[Value.string ⟨#[98,46,104]⟩,Value.string ⟨#[97,46,99]⟩] 9)) w'':=H9.mono (by
  rintro e w' ⟨v,out,rfl,h1,h2,h3⟩
  rw [outA h3] at h2
  obtain ⟨A5,c5,rfl⟩:=Kd.bF h2
  have hr:=Kd.aZ h2
  refine ⟨A5,c5,rfl,⟨h1⟩,?_⟩
  have hC:=GX (w:=w'.alloc (Obj.cells #[Value.string ⟨#[98,46,104]⟩,Value.string ⟨#[97,46,99]⟩] 9)) (g:=w'.heap.size) (zs:=[fB.1,fA.1]) (t:=9) (dh _ _) (by decide)
  exact ORef.cZ.calls 5 A5 c5 [fB.1,fA.1] (some ⟨w'.heap.size,0,none⟩) 2 [fB.1,fA.1] true _ (Kd.fC hr.2.2 (aA (Below.refl _ _) _)) hr.2.1 hC (Nat.le_refl _) eqA)
 rw [hW1] at H9'
 have HB1:=z0 hb1
 have HW1:=z0 hW1
 clear H9 HA hnew hb1 hW1
 go_enter Tryz.func14,Tryz.ntmps14
 go_wp2_with (first|(go_at_call 9;go_loud (refine H9'.mono ?_;rintro e w5 ⟨A5,c5,rfl,HB5,H13⟩))|(go_at_call 13;go_loud (refine H13.mono ?_;rintro e w6 ⟨rfl,hd6⟩;have HD6:=z0 hd6;clear hd6)))
 go_ret
 have hb5:=HB5.out
 rw [←HW1.out] at hb5
 exact ⟨rfl,ak (aA (ak HB1.out hb5) _) HD6.out.below⟩
theorem uY {x y:ByteArray}(h:x.toList=y.toList):x=y:=by
 rw [ByteArray.toList_eq,ByteArray.toList_eq] at h
 exact Go.WideShapes.bytes_inj h
theorem IK (xs:List ByteArray)(a:ByteArray)(hl:xs.length≤1000000):∀(d k i:Nat),i≤xs.length→xs.length-i≤d→d<k→a∉xs.take i→
 ∃r,ORef.bH.l0 k xs a (i:Int)=some r∧((r= -1∧a∉xs)∨∃j:Nat,r=j∧xs[j]? =some a∧a∉xs.take j)
 |d,0,i,_,_,hk,_=>by omega
 |d,k+1,i,h1,hd,hk,hn=>by
  rw [ORef.bH.l0]
  by_cases h:i<xs.length
  · rw [if_pos (by omega),if_pos (by omega)]
    have hrd:jv ByteArray.empty xs (i:Int)=xs[i]:=by
     show xs.getD (i:Int).toNat ByteArray.empty=_
     rw [List.getD_eq_getElem?_getD,show (i:Int).toNat=i from rfl,List.getElem?_eq_getElem h];rfl
    rw [hrd]
    by_cases he:xs[i].toList=a.toList
    · rw [if_pos he]
      exact ⟨i,rfl,.inr ⟨i,rfl,by rw [List.getElem?_eq_getElem h,uY he],hn⟩⟩
    · rw [if_neg he,wr (by omega) (by omega)]
      cases d with
      |zero=>omega
      |succ d=>
       have hn':a∉xs.take (i+1):=fun hm=>by
        rw [List.take_add_one,List.getElem?_eq_getElem h] at hm
        rcases List.mem_append.1 hm with hm|hm
        · exact hn hm
        · have hm':a=xs[i]:=by simpa using hm
          exact he (by rw [hm'])
       exact IK xs a hl d k (i+1) (by omega) (by omega) (by omega) hn'
  · rw [if_neg (by omega)]
    have:xs.take i=xs:=List.take_of_length_le (by omega)
    rw [this] at hn
    exact ⟨-1,rfl,.inl ⟨rfl,hn⟩⟩
theorem Am (xs:List ByteArray)(a:ByteArray)(hl:xs.length≤1000000):∃r,ORef.bH.f (xs.length+1) xs a=some r∧((r= -1∧a∉xs)∨∃j:Nat,r=j∧xs[j]? =some a∧a∉xs.take j):=
 IK xs a hl xs.length (xs.length+1) 0 (by omega) (by omega) (by omega) (by simp)
def BD (x:Fl):OLaw.S46:=⟨x.1,x.2⟩
theorem NW {w:World}{A:Option Addr}{n:Nat}{xs:List Fl}(h:Kd.C kFl w A n xs):Kd.C OLaw.k46 w A n (xs.map BD):=by
 refine ⟨by rw [List.length_map];exact h.1,h.2.1,fun hn=> ?_⟩
 obtain ⟨ad,e,hc⟩:=h.2.2 hn
 refine ⟨ad,e,fun j p hj=> ?_⟩
 rw [List.getElem?_map] at hj
 obtain ⟨q,hq,rfl⟩:=Option.map_eq_some_iff.1 hj
 exact hc j q hq
theorem CZ (xs:List OLaw.S46)(ps:List ByteArray)(hs:∀x∈xs,x.f0.size≤140737488355328∧x.f1.size≤140737488355328)(hl:xs.length≤140737488355328):∀(d k i:Nat) (n:Int),i≤xs.length→xs.length-i≤d→d<k→0≤n→n≤281474976715000→
 ∃r,OLaw.dY.l0 k xs ps n (i:Int)=some r∧(r=false→n≤4000∧xs.length≤61∧ps.length≤5∧∀(j:Nat) (x:OLaw.S46),i≤j→xs[j]? =some x→x.f0.size≤4000∧x.f1.size≤4000)
 |d,0,i,n,_,_,hk,_,_=>by omega
 |d,k+1,i,n,h1,hd,hk,hn0,hn1=>by
  rw [OLaw.dY.l0]
  have fin:(∀(j:Nat) (x:OLaw.S46),i≤j→xs[j]? =some x→x.f0.size≤4000∧x.f1.size≤4000)∨4000<n→∃r,(if n>4000 then (some true) else (if (xs.length:Int)>12 then (if (xs.length:Int)≤60 then (some true) else (if (xs.length:Int)>61 then (some true) else (some (decide ((ps.length:Int)>5))))) else (if (xs.length:Int)>61 then (some true) else (some (decide ((ps.length:Int)>5))))))=some r∧(r=false→n≤4000∧xs.length≤61∧ps.length≤5∧∀(j:Nat) (x:OLaw.S46),i≤j→xs[j]? =some x→x.f0.size≤4000∧x.f1.size≤4000):=fun hh=>by
   by_cases g1:n>4000
   · rw [if_pos g1];exact ⟨true,rfl,fun h=>absurd h (by decide)⟩
   · rw [if_neg g1]
     have hh':=hh.resolve_right (by omega)
     by_cases g2:(xs.length:Int)>12
     · rw [if_pos g2]
       by_cases g3:(xs.length:Int)≤60
       · rw [if_pos g3];exact ⟨true,rfl,fun h=>absurd h (by decide)⟩
       · rw [if_neg g3]
         by_cases g4:(xs.length:Int)>61
         · rw [if_pos g4];exact ⟨true,rfl,fun h=>absurd h (by decide)⟩
         · rw [if_neg g4]
           exact ⟨_,rfl,fun h=>⟨by omega,by omega,by have h5:=of_decide_eq_false h;omega,hh'⟩⟩
     · rw [if_neg g2]
       by_cases g4:(xs.length:Int)>61
       · rw [if_pos g4];exact ⟨true,rfl,fun h=>absurd h (by decide)⟩
       · rw [if_neg g4]
         exact ⟨_,rfl,fun h=>⟨by omega,by omega,by have h5:=of_decide_eq_false h;omega,hh'⟩⟩
  by_cases h:i<xs.length
  · rw [if_pos (by omega)]
    by_cases hn:n≤4000
    · rw [if_pos hn,if_pos (by omega)]
      have hrd:OLaw.iU xs (i:Int)=xs[i]:=by
       show xs.getD (i:Int).toNat OLaw.z46=_
       rw [List.getD_eq_getElem?_getD,show (i:Int).toNat=i from rfl,List.getElem?_eq_getElem h];rfl
      rw [hrd]
      obtain ⟨b0,b1⟩:=hs _ (List.getElem_mem h)
      rw [wr (a:=n+1) (by omega) (by omega),wr (a:=n+1+(xs[i].f0.size:Int)) (by omega) (by omega),wr (a:=n+1+(xs[i].f0.size:Int)+(xs[i].f1.size:Int)) (by omega) (by omega),wr (a:=(i:Int)+1) (by omega) (by omega)]
      cases d with
      |zero=>omega
      |succ d=>
       obtain ⟨r,hr,hf⟩:=CZ xs ps hs hl d k (i+1) (n+1+(xs[i].f0.size:Int)+(xs[i].f1.size:Int)) (by omega) (by omega) (by omega) (by omega) (by omega)
       refine ⟨r,hr,fun h0=> ?_⟩
       obtain ⟨q1,q2,q3,q4⟩:=hf h0
       refine ⟨hn,q2,q3,fun j x hj hx=> ?_⟩
       by_cases hji:j=i
       · subst hji
         rw [List.getElem?_eq_getElem h] at hx
         obtain rfl:=Option.some.inj hx
         exact ⟨by omega,by omega⟩
       · exact q4 j x (by omega) hx
    · rw [if_neg hn]
      exact fin (.inr (by omega))
  · rw [if_neg (by omega)]
    exact fin (.inl fun j x hj hx=>by
     rw [List.getElem?_eq_none (by omega)] at hx
     cases hx)
theorem Gi (files:List Fl)(ps:List ByteArray)(hs:∀x∈files,x.1.size≤140737488355328∧x.2.size≤140737488355328)(hl:files.length≤140737488355328):
 ∃r,OLaw.dY.f (files.length+1) (files.map BD) ps=some r∧(r=false→files.length≤61∧ps.length≤5∧∀f∈files,f.1.size≤4000∧f.2.size≤4000):=by
 obtain ⟨r,hr,hf⟩:=CZ (files.map BD) ps (fun x hx=>by
  obtain ⟨q,hq,rfl⟩:=List.mem_map.1 hx
  exact hs q hq) (by rw [List.length_map];exact hl) files.length (files.length+1) 0 0 (by omega) (by rw [List.length_map];omega) (by omega) (by omega) (by omega)
 refine ⟨r,hr,fun h0=> ?_⟩
 obtain ⟨_,q2,q3,q4⟩:=hf h0
 rw [List.length_map] at q2
 refine ⟨q2,q3,fun f hfm=> ?_⟩
 obtain ⟨j,hj⟩:=List.getElem?_of_mem hfm
 exact q4 j (BD f) (Nat.zero_le _) (by rw [List.getElem?_map,hj];rfl)
structure NI (W:World)(files:List Fl)(ps:List ByteArray)(A Ap:Option Addr)(c cp:Nat):Prop where
 glob:jg W
 fc:Kd.C kFl W A files.length files
 fl:files.length≤c
 pc:Kd.C Kd.string W Ap ps.length ps
 pl:ps.length≤cp
 hA:Ap=none∨∃b o,Ap=some ⟨b,o,none⟩
 flen:files.length≤140737488355328
 fsz:∀f∈files,f.1.size≤140737488355328∧f.2.size≤140737488355328
 psz:∀p∈ps,p.size≤140737488355328
theorem vF (x y:ByteArray):(Op.bytesLess x.toList y.toList=true↔ltB x y):=by
 rw [Go.Proofs.bytesLess_eq,decide_eq_true_iff,ByteArray.toList_eq,ByteArray.toList_eq]
 exact Iff.rfl
theorem vX {α:Type}(a:List α)(y x:α)(b:List α):((a++y::x::b).set (a.length+1) y).set a.length x=a++x::y::b:=by
 rw [List.set_append_right _ _ (by omega),show a.length+1-a.length=1 by omega,List.set_append_right _ _ (by omega),Nat.sub_self]
 rfl
theorem Ci {lt:ByteArray→ByteArray→Prop}{a b:List ByteArray}{x:ByteArray}(htr:∀p q r,lt p q→lt q r→lt p r)(h:(a++b).Pairwise lt)(hb:∀y∈b,lt x y)(ha:a=[]∨∃a' y,a=a'++[y]∧lt y x):(a++x::b).Pairwise lt:=by
 rw [List.pairwise_append] at h ⊢
 refine ⟨h.1,List.pairwise_cons.2 ⟨hb,h.2.1⟩,fun p hp q hq=> ?_⟩
 rcases List.mem_cons.1 hq with rfl|hq
 · rcases ha with rfl|⟨a',y,rfl,hyx⟩
   · simp at hp
   · rcases List.mem_append.1 hp with hp|hp
     · have h1:=h.1
       rw [List.pairwise_append] at h1
       exact htr _ _ _ (h1.2.2 p hp y (List.mem_singleton.2 rfl)) hyx
     · obtain rfl:=List.mem_singleton.1 hp
       exact hyx
 · exact h.2.2 p hp q hq
theorem yD {l s a b:List ByteArray}{x:ByteArray}(h:SU ltB l s)(e:s=a++b)(hb:∀y∈b,ltB x y)(ha:a=[]∨∃a' y,a=a'++[y]∧ltB y x):SU ltB (l++[x]) (a++x::b):=by
 subst e
 refine ⟨Ci (fun _ _ _=>tN) h.1 hb ha,fun y=> ?_⟩
 have:=h.2 y
 simp only [List.mem_append,List.mem_cons,List.mem_singleton,List.not_mem_nil,or_false] at this ⊢
 constructor
 · rintro (q|q|q)
   · exact .inl (this.1 (.inl q))
   · exact .inr q
   · exact .inl (this.1 (.inr q))
 · rintro (q|q)
   · rcases this.2 q with q|q
     · exact .inl q
     · exact .inr (.inr q)
   · exact .inr (.inl q)
theorem Nc {w:World}{base:Nat}{ok:Nat→Prop}{v:Value}{xs:List ByteArray}(h:Kd.R Kd.string 9 w base ok v xs)(hx:xs≠[]):∃g c,v= .slice (some ⟨g,0,none⟩) xs.length c:=by
 obtain ⟨inner,ho⟩:=Kd.uT h
 rcases ho.2 with ⟨rfl,h0⟩|⟨g,cap,cur,rfl,_⟩
 · exact absurd (List.length_eq_zero_iff.1 h0) hx
 · exact ⟨g,cap,rfl⟩
theorem Cb (xs:List ByteArray)(A:Option Addr)(c:Nat)(w:World)(HC:Kd.C Kd.string w A xs.length xs)(hc:xs.length≤c)(hl:xs.length≤1000):
 Calls Tryz.prog 30 #[.slice A xs.length c] w fun e w'=>∃v ys,e= .returned v∧SU ltB xs ys∧Kd.R Kd.string 9 w' w.heap.size (fun _=>True) v ys∧Below w.heap.size w w':=by
 obtain ⟨n,hn⟩:∃n,n=xs.length:=⟨_,rfl⟩
 have HN:=z0 hn
 rw [←hn] at HC hc hl ⊢
 have HC0:=z0 HC
 have HB0:=z0 (Below.refl w.heap.size w)
 clear hn HC
 go_enter Tryz.func30,Tryz.ntmps30
 go_wp2
 go_loopg [3,4] n (fun kq v3 v4 w'=>∃(i:Nat) (s:List ByteArray),v4= .int .i64 i∧ah (kq+i=n)∧ah (s.length≤i)∧ah (Kd.R Kd.string 9 w' w.heap.size (fun _=>True) v3 s)∧ah (Below w.heap.size w w')∧ah (SU ltB (xs.take i) s))
 case atStart=>exact ⟨0,[],rfl,⟨rfl⟩,⟨Nat.le_refl _⟩,⟨Kd.gQ _ _ _ _ _⟩,HB0,⟨.nil,fun y=>by simp⟩⟩
 case round=>
  obtain ⟨i,s,rfl,hki,hsl,hR,hB,hX⟩:=hrel
  have hki':=hki.out
  obtain ⟨A3,c3,rfl⟩:=Kd.bF hR.out
  cases gk with
  |zero=>
   have hlt:decide ((i:Int)<(n:Int))=false:=decide_eq_false (by omega)
   go_wp2
   go_ret
   exact ⟨_,s,rfl,by have h:=hX.out;rwa [List.take_of_length_le (by rw [←HN.out];omega)] at h,hR.out,hB.out⟩
  |succ g1=>
   have hlt:decide ((i:Int)<(n:Int))=true:=decide_eq_true (by omega)
   have hii:(0:Int)≤(i:Int):=by omega
   have hin:i<n:=by omega
   obtain ⟨x,hx⟩:∃x,xs[i]? =some x:=⟨_,List.getElem?_eq_getElem (by rw [←HN.out];omega)⟩
   obtain ⟨ad,hAd,hc1⟩:=oW (Kd.fC HC0.out hB.out) i hin x hx
   obtain rfl:=hAd
   rw [Nat.mul_one] at hc1
   have HTK:=z0 (take_snoc xs i x hx)
   obtain ⟨r,hr,hrr⟩:=Am s x (by have:=hsl.out;omega)
   have H19:=ORef.bH.calls (s.length+1) A3 c3 s x r wr (Kd.aZ hR.out).2.2 (Kd.aZ hR.out).2.1 hr
   obtain ⟨m,hm⟩:∃m,m=s.length:=⟨_,rfl⟩
   have HM:=z0 hm
   rw [←hm] at H19 hR hsl ⊢
   have hml:=hsl.out
   clear hx hr hm
   by_cases hmem:x∈s
   · have hr0:decide (0≤r)=true:=by
      rcases hrr with ⟨_,h⟩|⟨q,h,_⟩
      · exact absurd hmem h
      · exact decide_eq_true (by omega)
     have HMEM:=z0 hmem
     clear hrr hmem
     go_wp2_with (go_at_call 19;go_loud (refine H19.mono ?_;rintro e w8 ⟨rfl,hd8⟩;have HB8:=z0 hd8.below;clear hd8))
     go_roundg g1
     case measure=>omega
     case rel=>
      refine ⟨i+1,s,by (try simp),⟨by omega⟩,⟨by have:=HM.out;omega⟩,⟨Kd.dn hR.out HB8.out⟩,⟨ak hB.out HB8.out⟩,⟨hX.out.1,fun y=> ?_⟩⟩
      rw [HTK.out,List.mem_append,List.mem_singleton]
      constructor
      · exact fun h=> .inl ((hX.out.2 y).1 h)
      · rintro (h|rfl)
        · exact (hX.out.2 y).2 h
        · exact HMEM.out
   · have hr0:decide (0≤r)=false:=by
      rcases hrr with ⟨h,_⟩|⟨q,_,h,_⟩
      · exact decide_eq_false (by omega)
      · exact absurd (List.mem_of_getElem? h) hmem
     have HMEM:=z0 hmem
     clear hrr hmem
     go_wp2_with (first|(go_at_call 19;go_loud (refine H19.mono ?_;rintro e w8 ⟨rfl,hd8⟩;have hc8:=jw hd8.below hc1;have HR8:=z0 (Kd.dn hR.out hd8.below);have HB8:=z0 (ak hB.out hd8.below);clear hd8))|(at_builtin;go_loud (refine Kd.fH Kd.string (w0:=w) w.heap.size rfl (.tmp 20) (.tmp 25) 23 9 (.string ⟨#[]⟩) 16 rfl Tryz.underlying23 info9 rfl (by decide) (by omega) (.slice A3 m c3) s x [.string x] (fun _=>True) (fun _=>False) rfl rfl rfl (fun _ hk=>hk.elim) (fun _ _=>trivial) HR8.out HB8.out HB8.out.size ?aL ?_;(case aL=>have:=HM.out;omega);intro v1 w9 ho hb9 hg9 _;obtain ⟨g9,c9,rfl⟩:=Nc ho (by simp);rw [show (s++[x]).length=m+1 by rw [List.length_append,←HM.out];rfl] at ho ⊢;have HR9:=z0 ho;have HB9:=z0 hb9;clear ho hb9 hg9;obtain ⟨M,hM⟩:∃M,M=m+1:=⟨_,rfl⟩;rw [←hM] at HR9 ⊢;have HMM:=z0 hM;clear hM;have hw1:IntKind.i64.wrap ((M:Int)-1)=(m:Int):=(by have:=HMM.out;rw [IntWalk.i64_in _ (by omega)];omega))))
     clear hc1 hc8 hr0 H19
     go_loopg [5,6] m (fun kq v5 v6 w'=>∃(a b:List ByteArray),v5= .int .i64 (kq:Int)∧ah (a.length=kq∧s=a++b∧∀y∈b,ltB x y)∧ah (Kd.R Kd.string 9 w' w.heap.size (fun _=>True) (.slice (some ⟨g9,0,none⟩) M c9) (a++x::b))∧ah (Below w.heap.size w w'))
     case atStart=>exact ⟨s,[],rfl,⟨HM.out.symm,by simp,by simp⟩,HR9,HB9⟩
     case round=>
      obtain ⟨a,b,rfl,hab,hRi,hBi⟩:=hrel
      have hwi:IntKind.i64.wrap ((i:Int)+1)=(i:Int)+1:=by rw [IntWalk.i64_in _ (by omega)]
      clear hw1 hR hB HR8 HB8
      by_cases hg0:gk=0
      · have hgt:decide (0<gk)=false:=decide_eq_false (by omega)
        have HG0:=z0 hg0
        clear hg0
        go_wp2_with (fail)
        go_quiet (fail)
        have HY:=z0 (And.intro (Kd.dS hRi.out nq) (aY hBi.out nq))
        generalize wr.drewN nq=w5 at *
        go_wp2_with (fail)
        go_roundg g1
        case measure=>omega
        case rel=>
         obtain ⟨h1,h2,h3⟩:=hab.out
         have ha:a=[]:=List.eq_nil_of_length_eq_zero (h1.trans HG0.out)
         refine ⟨i+1,a++x::b,by (try simp),⟨by omega⟩,⟨?_⟩,⟨?_⟩,⟨HY.out.2⟩,⟨?_⟩⟩
         · have:=congrArg List.length h2;simp only [List.length_append,List.length_cons] at this ⊢;have:=HM.out;omega
         · exact HY.out.1
         · rw [HTK.out];exact yD hX.out h2 h3 (.inl ha)
      · obtain ⟨p,hp⟩:∃p,gk=p+1:=⟨gk-1,by omega⟩
        obtain ⟨h1,h2,h3⟩:=hab.out
        obtain ⟨a',y,rfl⟩:∃a' y,a=a'++[y]:=⟨a.dropLast,a.getLast (by intro e;subst e;simp at h1;omega),(List.dropLast_concat_getLast _).symm⟩
        have hla:a'.length=p:=by rw [List.length_append,List.length_singleton] at h1;omega
        have hl3:p+2+b.length=M:=by have h5:=congrArg List.length h2;simp only [List.length_append,List.length_cons,List.length_nil] at h5;have:=HM.out;have:=HMM.out;omega
        have HR0:ah (Kd.R Kd.string 9 wr w.heap.size (fun _=>True) (.slice (some ⟨g9,0,none⟩) M c9) (a'++y::x::b)):=⟨by have h:=hRi.out;rwa [List.append_assoc] at h⟩
        obtain ⟨hcx,hfx⟩:=Kd.sQ (⟨#[]⟩:ByteArray) HR0.out (gk:Int) (by omega) (by omega)
        obtain ⟨hcy,hfy⟩:=Kd.sQ (⟨#[]⟩:ByteArray) HR0.out (p:Int) (by omega) (by omega)
        have e1:jv (⟨#[]⟩:ByteArray) (a'++y::x::b) (gk:Int)=x:=by show (a'++y::x::b).getD (gk:Int).toNat _=x;rw [Int.toNat_natCast,hp,←hla,List.getD_eq_getElem?_getD,List.getElem?_append_right (by omega),show a'.length+1-a'.length=1 by omega];rfl
        have e2:jv (⟨#[]⟩:ByteArray) (a'++y::x::b) (p:Int)=y:=by show (a'++y::x::b).getD (p:Int).toNat _=y;rw [Int.toNat_natCast,←hla,List.getD_eq_getElem?_getD,List.getElem?_append_right (by omega),Nat.sub_self];rfl
        rw [e1,Int.toNat_natCast] at hcx
        rw [e2,Int.toNat_natCast] at hcy
        rw [Int.toNat_natCast] at hfx hfy
        have hgt:decide (0<gk)=true:=decide_eq_true (by omega)
        have hwp:IntKind.i64.wrap ((gk:Int)-1)=(p:Int):=by
         have:=HMM.out
         rw [IntWalk.i64_in _ (by omega)];omega
        have j0:(0:Int)≤(gk:Int):=by omega
        have j1:(0:Int)≤(p:Int):=by omega
        have j2:gk<M:=by omega
        have j3:p<M:=by omega
        have HP:=z0 hp
        have HLA:=z0 hla
        have HH:=z0 (And.intro h2 h3)
        clear hp hla h1 h2 h3 e1 e2 hl3 hab hg0
        by_cases hlt2:ltB x y
        · have hless:Op.bytesLess x.toList y.toList=true:=(vF x y).2 hlt2
          have HLT:=z0 hlt2
          clear hlt2
          go_wp2_with (fail)
          go_quiet (fail)
          have HY:ah (Kd.R Kd.string 9 (wr.drewN nq) w.heap.size (fun _=>True) (.slice (some ⟨g9,0,none⟩) M c9) (a'++y::x::b)∧Below w.heap.size w (wr.drewN nq)):=⟨Kd.dS HR0.out nq,aY hBi.out nq⟩
          have hcx':(wr.drewN nq).cell? ⟨g9,gk,none⟩=some (.string x):=hcx
          have hcy':(wr.drewN nq).cell? ⟨g9,p,none⟩=some (.string y):=hcy
          have hfx':(wr.drewN nq).frozen? ⟨g9,gk,none⟩=false:=hfx
          have hfy':(wr.drewN nq).frozen? ⟨g9,p,none⟩=false:=hfy
          clear hcx hcy hfx hfy hless
          generalize wr.drewN nq=w5 at *
          have HP1:=(Kd.xH HY.out.1 (gk:Int) y).1
          rw [Int.toNat_natCast] at HP1
          obtain ⟨hcz,hfz⟩:=Kd.sQ (⟨#[]⟩:ByteArray) HP1 (p:Int) (by omega) (by omega)
          rw [Int.toNat_natCast] at hcz hfz
          have HP2:=(Kd.xH HP1 (p:Int) x).1
          rw [Int.toNat_natCast] at HP2
          have HQ2:=z0 HP2
          have hge:w.heap.size≤g9:=Kd.pI HY.out.1 g9 rfl
          have HBB:ah (Below w.heap.size w ((w5.setCell ⟨g9,gk,none⟩ (.string y)).setCell ⟨g9,p,none⟩ (.string x))):=⟨bC (bC HY.out.2 hge) hge⟩
          clear HP1 HP2 hge
          go_wp2_with (fail)
          go_roundg p
          case measure=>have:=HP.out;omega
          case rel=>
           obtain ⟨h2,h3⟩:=HH.out
           refine ⟨a',y::b,rfl,⟨HLA.out,by rw [h2];simp,fun q hq=> ?_⟩,⟨?_⟩,HBB⟩
           · rcases List.mem_cons.1 hq with rfl|hq
             · exact HLT.out
             · exact h3 q hq
           · have h5:=HQ2.out
             rwa [show ((a'++y::x::b).set gk y).set p x=a'++x::y::b by rw [HP.out,←HLA.out,vX]] at h5
        · have hless:Op.bytesLess x.toList y.toList=false:=by
           rw [←Bool.not_eq_true];exact fun h=>hlt2 ((vF x y).1 h)
          have HLT:ah (ltB y x∨y=x):=⟨by
           rcases nT x y with h|h|h
           · exact absurd h hlt2
           · exact .inr h.symm
           · exact .inl h⟩
          clear hlt2
          go_wp2_with (fail)
          go_quiet (fail)
          have HY:=z0 (And.intro (Kd.dS HR0.out nq) (aY hBi.out nq))
          clear hcx hcy hfx hfy hless
          generalize wr.drewN nq=w5 at *
          go_wp2_with (fail)
          go_roundg g1
          case measure=>omega
          case rel=>
           obtain ⟨h2,h3⟩:=HH.out
           have hyx:ltB y x:=HLT.out.resolve_right (by
            rintro rfl
            exact HMEM.out (by rw [h2];simp))
           refine ⟨i+1,a'++y::x::b,by (try simp),⟨by omega⟩,⟨?_⟩,⟨HY.out.1⟩,⟨HY.out.2⟩,⟨?_⟩⟩
           · have:=congrArg List.length h2;simp only [List.length_append,List.length_cons,List.length_nil] at this ⊢;have:=HM.out;omega
           · rw [HTK.out,show a'++y::x::b=(a'++[y])++x::b by simp]
             exact yD hX.out h2 h3 (.inr ⟨a',y,rfl,hyx⟩)
theorem Hu {us:ByteArray→List ByteArray}{names:List ByteArray}(hus:∀x,∀y∈us x,y∈names){a b:ByteArray}(h:Graph.Reach us a b):a∈names→b∈names:=by
 induction h with
 |refl _=>exact id
 |step h1 _ ih=>exact fun _=>ih (hus _ _ h1)
theorem all_in {W:World}{files:List Fl}{ps:List ByteArray}{A Ap:Option Addr}{c cp:Nat}(H:iG W files ps A Ap c cp){name:ByteArray}{al:List ByteArray}(h:sS files ps name 0 al):
 ∃m,eY files=(0,some m)∧al.length≤60∧∀n∈al,∃(k:Nat) (f:Fl),files[k]? =some f∧f.1=n∧iQ files n=k:=by
 rcases h with ⟨h0,_⟩|⟨m,met,out,hw,hwk,rfl⟩
 · exact absurd rfl h0
 · rcases Af files name with ⟨k0,k1⟩|⟨k0,_,k1⟩|⟨m',k,f,hm,hk,hf,rfl,k1⟩
   · rw [k1] at hw;cases (Prod.ext_iff.1 hw).2
   · rw [k1] at hw;cases (Prod.ext_iff.1 hw).2
   · rw [k1] at hw
     obtain rfl:=Option.some.inj (Prod.ext_iff.1 hw).2
     have hin:=(H.env hm 0 0 0).in_
     have hF:=Graph.qC (erN m') (gR m' ps) hwk
     have hnm:f.1∈files.map (·.1):=List.mem_map.2 ⟨f,List.mem_of_getElem? hf,rfl⟩
     refine ⟨m',hm,?_,fun n hn=> ?_⟩
     · have h1:=(Graph.nN (erN m') (gR m' ps) hin _ _ _ _ _ _ hwk hnm).2
       have h2:=left_le (files.map (·.1)) ([]:List ByteArray)
       rw [List.length_map] at h2
       have h3:=(jU hm).2
       simp only [List.length_nil] at h1
       omega
     · have h1:=Hu hin ((hF.mem n).1 hn) hnm
       obtain ⟨g,hg,rfl⟩:=List.mem_map.1 h1
       obtain ⟨j,hj⟩:=List.getElem?_of_mem hg
       exact ⟨j,g,hj,rfl,Ar hm hj⟩
theorem IV (xs:List ByteArray)(hl:xs.length≤100000000):∀(d k i:Nat),i≤xs.length→xs.length-i≤d→d<k→ORef.cZ.l0 k xs xs (i:Int)=some true
 |d,0,i,_,_,hk=>by omega
 |d,k+1,i,h1,hd,hk=>by
  rw [ORef.cZ.l0]
  by_cases h:i<xs.length
  · rw [if_pos (by omega),if_pos (by omega),if_pos (by omega),if_pos rfl,wr (by omega) (by omega)]
    cases d with
    |zero=>omega
    |succ d=>exact IV xs hl d k (i+1) (by omega) (by omega) (by omega)
  · rw [if_neg (by omega)]
theorem Ko (xs:List ByteArray)(hl:xs.length≤100000000)(w:World)(A A':Option Addr)(n c c':Nat)(hn:n=xs.length)(hC:Kd.C Kd.string w A n xs)(hc:n≤c)(hC':Kd.C Kd.string w A' n xs)(hc':n≤c'):
 Calls Tryz.prog 13 #[.slice A n c,.slice A' n c'] w fun e w'=>e= .returned (.bool true)∧Below w.heap.size w w':=by
 subst hn
 refine (ORef.cZ.calls (xs.length+1) A c xs A' c' xs true w hC hc hC' hc' ?_).mono fun e w' h=>⟨h.1,by first|exact h.2|exact h.2.below⟩
 unfold ORef.cZ.f
 rw [if_pos rfl]
 exact IV xs hl xs.length (xs.length+1) 0 (by omega) (by omega) (by omega)
theorem Du {W:World}{files:List Fl}{ps:List ByteArray}{A Ap:Option Addr}{c cp:Nat}(H:iG W files ps A Ap c cp){name:ByteArray}{er:Int}{l:List ByteArray}(h:sS files ps name er l):l.length≤60:=by
 by_cases h0:er=0
 · subst h0
   obtain ⟨m,_,h1,_⟩:=all_in H h
   exact h1
 · rcases h with ⟨_,_,rfl⟩|⟨_,_,_,_,_,rfl⟩
   · simp
   · rw [if_neg h0];simp
theorem EK {l:List ByteArray}{x:ByteArray}{r:Int}(h:(r= -1∧x∉l)∨∃j:Nat,r=j∧l[j]? =some x∧x∉l.take j):0≤r↔x∈l:=by
 rcases h with ⟨rfl,h⟩|⟨j,rfl,h,_⟩
 · exact ⟨fun q=>absurd q (by omega),fun q=>absurd q h⟩
 · exact ⟨fun _=>List.mem_of_getElem? h,fun _=>by omega⟩
section
variable {W:World}{files:List Fl}{ps:List ByteArray}{A Ap:Option Addr}{c cp:Nat}
theorem Ia (H:iG W files ps A Ap c cp)(hcp:ps.length≤cp)(name:ByteArray):
 Calls Tryz.prog 10 #[.slice A files.length c,.string name,.slice Ap ps.length cp] W fun e w'=>∃v,e= .returned (.tuple #[v,.int .i64 (aE files ps name)])∧Kd.R Kd.string 9 w' W.heap.size (fun _=>True) v (aL files ps name)∧Below W.heap.size W w'∧(aL files ps name).length≤1000000:=by
 refine (Ib H hcp name).mono ?_
 rintro e w' ⟨v,er,l,rfl,h1,h2,h3⟩
 obtain ⟨rfl,rfl⟩:=a_eq h1
 exact ⟨v,rfl,h2,h3,Nat.le_trans (Du H h1) (by decide)⟩
theorem DU (H:iG W files ps A Ap c cp)(hcp:ps.length≤cp)(name:ByteArray):
 Calls Tryz.prog 16 #[.slice A files.length c,.string name,.slice Ap ps.length cp] W fun e w'=>∃(v:Value) (er:Int) (xs:List ByteArray),e= .returned (.tuple #[v,.int .i64 er])∧sK files ps name er xs∧Kd.R Kd.string 9 w' W.heap.size (fun _=>True) v xs∧Below W.heap.size W w':=by
 have H23:=o8 H
 have H24:ah (∀w:World,Below W.heap.size W w→Calls Tryz.prog 24 #[.slice A files.length c,.string name] w fun e w'=>e= .returned (.int .i64 (iQ files name))∧Below w.heap.size w w'):=⟨fun w hb=>pX files name w A c (Kd.fC H.fc hb) H.fl (by have:=H.nfl;omega)⟩
 rcases Af files name with ⟨h0,hw⟩|⟨h0,hf,hw⟩|⟨m,k,f,hm,hk,hf,hfn,hw⟩
 · obtain ⟨er,her⟩:∃er,er=(eY files).1:=⟨_,rfl⟩
   rw [←her] at H23 h0 hw
   have HA:ah (sK files ps name er []):=⟨.inl ⟨h0,hw,rfl⟩⟩
   have hb':(er !=0)=true:=bne_iff_ne.mpr h0
   obtain ⟨n,hn⟩:∃n,n=files.length:=⟨_,rfl⟩
   rw [←hn] at H23 ⊢
   obtain ⟨np,hnp⟩:∃np,np=ps.length:=⟨_,rfl⟩
   rw [←hnp]
   clear H hcp H24 hw her h0 hn hnp
   go_enter Tryz.func16,Tryz.ntmps16
   go_wp2_with (go_at_call 23;go_loud (refine H23.mono ?_;rintro e w5 ⟨rfl,hb5⟩;have HB5:=z0 hb5;clear hb5))
   go_ret2
   exact ⟨_,_,_,rfl,HA.out,Kd.gQ _ _ _ _ _,HB5.out⟩
 · have HA:ah (sK files ps name 4 []):=⟨.inl ⟨by decide,hw,rfl⟩⟩
   rw [h0] at H23
   obtain ⟨x,hx⟩:∃x,x=iQ files name:=⟨_,rfl⟩
   rw [←hx] at H24 hf
   have hlt:decide (x<0)=true:=decide_eq_true hf
   obtain ⟨n,hn⟩:∃n,n=files.length:=⟨_,rfl⟩
   rw [←hn] at H23 H24 ⊢
   obtain ⟨np,hnp⟩:∃np,np=ps.length:=⟨_,rfl⟩
   rw [←hnp]
   clear H hcp hw hx hf h0 hn hnp
   go_enter Tryz.func16,Tryz.ntmps16
   go_wp2_with (first|(go_at_call 23;go_loud (refine H23.mono ?_;rintro e w5 ⟨rfl,hb5⟩;have HB5:=z0 hb5;clear hb5))|(go_at_call 24;go_loud (refine (H24.out _ HB5.out).mono ?_;rintro e w6 ⟨rfl,hb6⟩;have HB6:=z0 (ak HB5.out hb6);clear hb6)))
   go_ret2
   exact ⟨_,_,_,rfl,HA.out,Kd.gQ _ _ _ _ _,HB6.out⟩
 · rw [hm] at H23
   rw [hk] at H24
   have hlt0:decide ((k:Int)<0)=false:=decide_eq_false (by omega)
   have HALL:=z0 (fun (w:World) (hb:Below W.heap.size W w) (n:ByteArray)=>Ia (H.below hb) hcp n)
   have HFC:=z0 H.fc
   have HNF:=z0 H.nfl
   have HW:ah ((jB files name).2.isSome=true):=⟨by rw [hw];rfl⟩
   obtain ⟨n,hn⟩:∃n,n=files.length:=⟨_,rfl⟩
   obtain ⟨np,hnp⟩:∃np,np=ps.length:=⟨_,rfl⟩
   rw [←hn] at H23 H24 HFC HNF
   rw [←hn,←hnp] at HALL
   rw [←hn,←hnp]
   have HN:=z0 hn
   obtain ⟨F,hF⟩:∃F:ByteArray→Int,F=aE files ps:=⟨_,rfl⟩
   obtain ⟨G,hG⟩:∃G:List Fl→List ByteArray,G=Ac files ps name:=⟨_,rfl⟩
   obtain ⟨GL,hGL⟩:∃GL:ByteArray→List ByteArray,GL=aL files ps:=⟨_,rfl⟩
   have HERR:ah (∀(i:Nat) (f:Fl) (er:Int),files[i]? =some f→(∀g∈files.take i,F g.1=0)→F f.1=er→er≠0→sK files ps name er []):=⟨fun i f er h1 h2 h3 h4=> .inr ⟨HW.out,.inl ⟨⟨h4,i,f,h1,fun g hg=>by rw [←hF];exact h2 g hg,by rw [←hF];exact h3⟩,rfl⟩⟩⟩
   have HOK:ah (∀ys:List ByteArray,(∀g∈files,F g.1=0)→SU ltB (G files) ys→sK files ps name 0 ys):=⟨fun ys h1 h2=> .inr ⟨HW.out,.inr ⟨fun g hg=>by rw [←hF];exact h1 g hg,rfl,by rw [←hG];exact h2⟩⟩⟩
   have HSN:ah (∀(fs:List Fl) (f:Fl),(name∈GL f.1→G (fs++[f])=G fs++[f.1])∧(¬name∈GL f.1→G (fs++[f])=G fs)):=⟨fun fs f=>by rw [hG,hGL];exact yI files ps name fs f⟩
   have HGN:ah (G []=[]):=⟨by rw [hG];rfl⟩
   rw [←hF,←hGL] at HALL
   obtain ⟨P,hP⟩:∃P:Int→List ByteArray→Prop,P=sK files ps name:=⟨_,rfl⟩
   rw [←hP] at HERR HOK ⊢
   clear H hcp hw hm hk hf hfn hn hnp HW hF hG hGL hP
   have hn61:=HNF.out
   go_enter Tryz.func16,Tryz.ntmps16
   go_wp2_with (first|(go_at_call 23;go_loud (refine H23.mono ?_;rintro e w5 ⟨rfl,hb5⟩;have HB5:=z0 hb5;clear hb5))|(go_at_call 24;go_loud (refine (H24.out _ HB5.out).mono ?_;rintro e w6 ⟨rfl,hb6⟩;have HB6:=z0 (ak HB5.out hb6);clear hb6)))
   go_loopg [9,10] n (fun kq v9 v10 w'=>∃(i:Nat) (xs:List ByteArray),v10= .int .i64 i∧ah (kq+i=n)∧ah (xs.length≤i)∧ah (Kd.R Kd.string 9 w' W.heap.size (fun _=>True) v9 xs)∧ah (Below W.heap.size W w')∧ah ((∀f∈files.take i,F f.1=0)∧xs=G (files.take i)))
   case atStart=>exact ⟨0,[],rfl,⟨rfl⟩,⟨Nat.le_refl _⟩,⟨Kd.gQ _ _ _ _ _⟩,HB6,⟨fun f hf=>by simp at hf,by rw [List.take_zero,HGN.out]⟩⟩
   case round=>
    obtain ⟨i,xs,rfl,hki,hxl,hR,hB,hX⟩:=hrel
    have hki':=hki.out
    cases gk with
    |zero=>
     have hlt:decide ((i:Int)<(n:Int))=false:=decide_eq_false (by omega)
     obtain ⟨A9,c9,rfl⟩:=Kd.bF hR.out
     have hr9:=Kd.aZ hR.out
     have H30:=Cb xs A9 c9 wr hr9.2.2 hr9.2.1 (by have:=hxl.out;omega)
     obtain ⟨m,hm⟩:∃m,m=xs.length:=⟨_,rfl⟩
     rw [←hm] at H30 hR ⊢
     clear hr9 hm
     go_wp2_with (go_at_call 30;go_loud (refine H30.mono ?_;rintro e w9 ⟨v9,ys,rfl,hs9,hr9,hb9⟩;obtain ⟨A8,c8,rfl⟩:=Kd.bF hr9;have HQ:=z0 (And.intro hs9 (And.intro (Kd.fZ hr9 hB.out.size) (ak hB.out hb9)));clear hs9 hr9 hb9))
     obtain ⟨q1,q2,q3⟩:=HQ.out
     have hx2:=hX.out
     rw [List.take_of_length_le (by rw [←HN.out];omega)] at hx2
     go_ret2
     exact ⟨_,0,ys,rfl,HOK.out ys hx2.1 (by rw [←hx2.2];exact q1),q2,q3⟩
    |succ g1=>
     have hlt:decide ((i:Int)<(n:Int))=true:=decide_eq_true (by omega)
     have hii:(0:Int)≤(i:Int):=by omega
     have hin:i<n:=by omega
     obtain ⟨x,hx⟩:∃x,files[i]? =some x:=⟨_,List.getElem?_eq_getElem (by rw [←HN.out];omega)⟩
     obtain ⟨ad,hAd,hx0,hx1⟩:=oP (Kd.fC HFC.out hB.out) i hin x hx
     obtain rfl:=hAd
     have HTK:=z0 (take_snoc files i x hx)
     have HX:=z0 hx
     obtain ⟨f1,f2⟩:=x
     simp only at hx0 hx1
     have H10:=HALL.out wr hB.out f1
     obtain ⟨er,her⟩:∃er,er=F f1:=⟨_,rfl⟩
     obtain ⟨l,hl⟩:∃l,l=GL f1:=⟨_,rfl⟩
     rw [←her,←hl] at H10
     have HFE:=z0 (And.intro her hl)
     clear hx her hl
     go_wp2_with (first|(go_at_call 10;go_loud (refine H10.mono ?_;rintro e w6 ⟨v6,rfl,hr6,hb6,hl6⟩;obtain ⟨A6,c6,rfl⟩:=Kd.bF hr6;have hr6':=Kd.aZ hr6;have HQ6:=z0 (And.intro hr6' (And.intro hb6 hl6));have hx7:=jw hb6 hx0;have HR6:=z0 (Kd.dn hR.out hb6);have HB6':=z0 (ak hB.out hb6);obtain ⟨r,hr,hrr⟩:=Am l name hl6;have H19:=ORef.bH.calls (l.length+1) A6 c6 l name r w6 hr6'.2.2 hr6'.2.1 hr;have HRR:ah (0≤r↔name∈l):=⟨EK hrr⟩;clear hr6 hb6 hl6 hr6' hr hrr))|(go_at_call 19;go_loud (refine H19.mono ?_;rintro e w8 ⟨rfl,hd8⟩;have hx8:=jw hd8.below hx7;have HR8:=z0 (Kd.dn HR6.out hd8.below);have HB8:=z0 (ak HB6'.out hd8.below);clear hd8))|(at_builtin;go_loud (refine Kd.fH Kd.string (w0:=W) W.heap.size rfl (.tmp 46) (.tmp 52) 23 9 (.string ⟨#[]⟩) 16 rfl Tryz.underlying23 info9 rfl (by decide) (by omega) u9 xs f1 [.string f1] (fun _=>True) (fun _=>False) rfl rfl rfl (fun _ hk=>hk.elim) (fun _ _=>trivial) HR8.out HB8.out HB8.out.size ?aL ?_;(case aL=>have:=hxl.out;omega);intro v1 w9 ho hb9 hg9 hat;have HR9:=z0 ho;have HB9:=z0 hb9;clear ho hb9 hg9 hat)))
     · rename_i her
       have he:er≠0:=by simpa using her
       go_ret2
       exact ⟨_,er,[],rfl,HERR.out i _ er HX.out hX.out.1 HFE.out.1.symm he,Kd.gQ _ _ _ _ _,HB6'.out⟩
     · rename_i her hbt
       have he:er=0:=by simpa using her
       have hmem:name∈l:=HRR.out.1 (by simpa using hbt)
       go_roundg g1
       case measure=>omega
       case rel=>
        refine ⟨i+1,xs++[f1],by (try simp),⟨by omega⟩,⟨by rw [List.length_append,List.length_singleton];have:=hxl.out;omega⟩,HR9,HB9,⟨fun f hf=> ?_,?_⟩⟩
        · rw [HTK.out] at hf
          rcases List.mem_append.1 hf with hf|hf
          · exact hX.out.1 f hf
          · obtain rfl:=List.mem_singleton.1 hf
            exact HFE.out.1.symm.trans he
        · rw [HTK.out,(HSN.out _ (f1,f2)).1 (by show name∈GL f1;rw [←HFE.out.2];exact hmem),hX.out.2]
     · rename_i her hbt
       have he:er=0:=by simpa using her
       have hmem:name∉l:=fun h=>by
        have:=HRR.out.2 h
        first|omega|(simp at hbt;omega)
       go_roundg g1
       case measure=>omega
       case rel=>
        refine ⟨i+1,xs,by (try simp),⟨by omega⟩,⟨by have:=hxl.out;omega⟩,HR8,HB8,⟨fun f hf=> ?_,?_⟩⟩
        · rw [HTK.out] at hf
          rcases List.mem_append.1 hf with hf|hf
          · exact hX.out.1 f hf
          · obtain rfl:=List.mem_singleton.1 hf
            exact HFE.out.1.symm.trans he
        · rw [HTK.out,(HSN.out _ (f1,f2)).2 (by show name∉GL f1;rw [←HFE.out.2];exact hmem),hX.out.2]
end
section
variable {w:World}{base g n cap c:Nat}{ok:Nat→Prop}{xs:List Pr}{A:Option Addr}
theorem kY (h:Kd.R kFl 43 w base ok (.slice (some ⟨g,0,none⟩) n cap) xs)(k:Nat)(x:Pr)(hx:xs[k]? =some x):w.cell? ⟨g,k*2,none⟩=some (.string x.1)∧w.cell? ⟨g,k*2+1,none⟩=some (.string x.2)∧w.frozen? ⟨g,k*2,none⟩=false∧w.frozen? ⟨g,k*2+1,none⟩=false:=by
 have hk:k<xs.length:=(List.getElem?_eq_some_iff.1 hx).1
 have hn:=(Kd.aZ h).1
 obtain ⟨c,hcl,hM,hcc,hf⟩:=Kd.kZ h x (k:Int) (by omega) (by omega)
 have hxk:xs.getD (k:Int).toNat x=x:=by simp [List.getD_eq_getElem?_getD,hx]
 rw [hxk] at hM
 obtain ⟨_,_,h5,rfl,h6⟩:=hM
 have e2:c=[Value.string x.1,Value.string x.2]:=h5.trans (by rw [show _=[Value.string x.2] from h6];rfl)
 subst e2
 exact ⟨hcc 0 _ rfl,hcc 1 _ rfl,hf 0,hf 1⟩
theorem vJ (h:Kd.R kFl 43 w base ok (.slice (some ⟨g,0,none⟩) n cap) xs)(k:Nat)(hk:k<n)(x:Pr):Kd.R kFl 43 ((w.setCell ⟨g,k*2,none⟩ (.string x.1)).setCell ⟨g,k*2+1,none⟩ (.string x.2)) base ok (.slice (some ⟨g,0,none⟩) n cap) (xs.set k x):=by
 have hn:=(Kd.aZ h).1
 obtain ⟨c,hcl,hM,hcc,hf⟩:=Kd.kZ h x (k:Int) (by omega) (by omega)
 obtain ⟨hrow,_⟩:=Kd.Je h (k:Int) (by omega) (by omega) hcl hcc (j:=0) (seg:=[.string x.1,.string x.2]) (x':=x) (okp:=fun _=>False) (show 0+2≤2 by omega) ⟨[.string x.1],[.string x.2],by rw [show c.drop (0+[Value.string x.1,Value.string x.2].length)=[] from List.drop_eq_nil_of_le (by rw [hcl];exact Nat.le_refl 2)];rfl,rfl,rfl⟩ (fun _ h=>h.elim)
 exact hrow
structure oh (w w':World)(A:Option Addr)(m c:Nat):Prop where
 size:w.heap.size≤w'.heap.size
 keep:∀k,k<w.heap.size→some k≠(Value.slice A m c).ownBlock→w'.heap[k]? =w.heap[k]?
theorem oh.drewN {w w':World}{A:Option Addr}{m c:Nat}(h:oh w w' A m c)(q:Nat):oh w (w'.drewN q) A m c:=⟨h.size,h.keep⟩
theorem JM {w wr w9:World}{A:Option Addr}{m c M c9 g9:Nat}(h:oh w wr A m c)(hg:wr.grownBy w9 (Value.slice A m c).ownBlock)(hat:(Value.slice (some ⟨g9,0,none⟩) M c9).ownBlock=(Value.slice A m c).ownBlock∨∃b,(Value.slice (some ⟨g9,0,none⟩) M c9).ownBlock=some b∧wr.heap.size≤b):(∀k,k<w.heap.size→some k≠(Value.slice A m c).ownBlock→k≠g9)∧oh w w9 A m c:=by
 refine ⟨fun k hk hne e=> ?_,⟨Nat.le_trans h.size hg.size,fun k hk hne=>(hg.block k (Nat.lt_of_lt_of_le hk h.size) hne).trans (h.keep k hk hne)⟩⟩
 subst e
 rcases hat with hat|⟨b,hb,hle⟩
 · exact hne hat
 · have:k=b:=by injection hb
   have:=h.size
   omega
theorem qI {l a b:List Pr}{x:Pr}(h:l.Pairwise ltP)(e:l=a++b)(hb:∀y∈b,ltP x y)(ha:a=[]∨∃a' y,a=a'++[y]∧ltP y x):SU ltP (l++[x]) (a++x::b):=by
 subst e
 refine ⟨?_,fun y=> ?_⟩
 · rw [List.pairwise_append] at h ⊢
   refine ⟨h.1,List.pairwise_cons.2 ⟨hb,h.2.1⟩,fun p hp q hq=> ?_⟩
   rcases List.mem_cons.1 hq with rfl|hq
   · rcases ha with rfl|⟨a',y,rfl,hyx⟩
     · simp at hp
     · rcases List.mem_append.1 hp with hp|hp
       · have h1:=h.1
         rw [List.pairwise_append] at h1
         exact tJ (h1.2.2 p hp y (List.mem_singleton.2 rfl)) hyx
       · obtain rfl:=List.mem_singleton.1 hp
         exact hyx
   · exact h.2.2 p hp q hq
 · simp only [List.mem_append,List.mem_cons,List.mem_singleton,List.not_mem_nil,or_false]
   constructor
   · rintro (q|q|q)
     · exact .inl (.inl q)
     · exact .inr q
     · exact .inl (.inr q)
   · rintro ((q|q)|q)
     · exact .inl q
     · exact .inr (.inr q)
     · exact .inr (.inl q)
theorem FY (p1 p2 y1 y2:ByteArray):(Op.bytesLess p1.toList y1.toList=true∧ltP (p1,p2) (y1,y2))∨(Op.bytesLess p1.toList y1.toList=false∧(p1.toList==y1.toList)=true∧Op.bytesLess p2.toList y2.toList=true∧ltP (p1,p2) (y1,y2))∨
 (Op.bytesLess p1.toList y1.toList=false∧(p1.toList==y1.toList)=true∧Op.bytesLess p2.toList y2.toList=false∧¬ltP (p1,p2) (y1,y2))∨(Op.bytesLess p1.toList y1.toList=false∧(p1.toList==y1.toList)=false∧¬ltP (p1,p2) (y1,y2)):=by
 have e1:=vF p1 y1
 have e2:=vF p2 y2
 have e3:(p1.toList==y1.toList)=true↔p1=y1:=by
  rw [beq_iff_eq,ByteArray.toList_eq,ByteArray.toList_eq]
  exact ⟨fun h=>Go.WideShapes.bytes_inj h,fun h=>by rw [h]⟩
 unfold ltP
 simp only
 rw [←e1,←e2,←e3]
 generalize Op.bytesLess p1.toList y1.toList=a
 generalize Op.bytesLess p2.toList y2.toList=b
 generalize (p1.toList==y1.toList)=c
 cases a<;>cases b<;>cases c<;>simp
theorem oh.put {w W5:World}{A:Option Addr}{m c g9:Nat}(h:oh w W5 A m c)(hg:∀k,k<w.heap.size→some k≠(Value.slice A m c).ownBlock→k≠g9)(o:Obj)(o1 o2 o3 o4:Nat)(u1 u2 u3 u4:Value):
 oh w (((((W5.alloc o).setCell ⟨g9,o1,none⟩ u1).setCell ⟨g9,o2,none⟩ u2).setCell ⟨g9,o3,none⟩ u3).setCell ⟨g9,o4,none⟩ u4) A m c:=by
 have ha:=aA (Below.refl W5.heap.size W5) o
 refine ⟨?_,fun k hk hne=> ?_⟩
 · have h1:=h.size
   have h2:=ha.size
   have h3:(((((W5.alloc o).setCell ⟨g9,o1,none⟩ u1).setCell ⟨g9,o2,none⟩ u2).setCell ⟨g9,o3,none⟩ u3).setCell ⟨g9,o4,none⟩ u4).heap.size=(W5.alloc o).heap.size:=by simp
   omega
 · have hn:=hg k hk hne
   rw [Below.heap_setCell _ ⟨g9,o4,none⟩ _ k hn,Below.heap_setCell _ ⟨g9,o3,none⟩ _ k hn,Below.heap_setCell _ ⟨g9,o2,none⟩ _ k hn,Below.heap_setCell _ ⟨g9,o1,none⟩ _ k hn,ha.block k (Nat.lt_of_lt_of_le hk h.size)]
   exact h.keep k hk hne
theorem Ii (h:Kd.R kFl 43 w base ok (.slice A n c) xs)(hx:xs≠[]):∃g,A=some ⟨g,0,none⟩:=by
 obtain ⟨inner,ho⟩:=Kd.uT h
 rcases ho.2 with ⟨he,h0⟩|⟨g,cap,cur,he,_⟩
 · exact absurd (List.length_eq_zero_iff.1 h0) hx
 · injection he with h1 h2 h3
   exact ⟨g,h1⟩
theorem put_any {W0 w:World}(xs:List Pr)(p1 p2:ByteArray)(A:Option Addr)(m c:Nat)(HR:Kd.R kFl 43 w W0.heap.size (fun _=>True) (.slice A m c) xs)(HB:Below W0.heap.size W0 w)(hl:xs.length≤1000000)(hs:xs.Pairwise ltP):
 Calls Tryz.prog 37 #[.slice A m c,.agg #[.string p1,.string p2]] w fun e w'=>∃v' ys,e= .returned v'∧SU ltP (xs++[(p1,p2)]) ys∧ys.length≤xs.length+1∧Kd.R kFl 43 w' W0.heap.size (fun _=>True) v' ys∧Below W0.heap.size W0 w'∧(∀k,k<w.heap.size→some k≠(Value.slice A m c).ownBlock→w'.heap[k]? =w.heap[k]?)∧w.heap.size≤w'.heap.size:=by
 have hm:=(Kd.aZ HR).1
 have HM:=z0 hm
 have HRA:=z0 HR
 have HBA:=z0 HB
 have HS:=z0 hs
 have hml:m≤1000000:=by omega
 clear HR HB hm hl hs
 go_enter Tryz.func37,Tryz.ntmps37
 go_wp2
 obtain ⟨W1,hW1⟩:∃W1,W1=w.alloc (Obj.cells #[Value.string p1,Value.string p2] 43):=⟨_,rfl⟩
 obtain ⟨pb,hpb⟩:∃pb,pb=w.heap.size:=⟨_,rfl⟩
 rw [←hW1,←hpb]
 have HF1:ah (oh w W1 A m c):=⟨⟨by rw [hW1];exact (aA (Below.refl _ _) _).size,fun k hk _=>by rw [hW1];exact (aA (Below.refl _ _) _).block k hk⟩⟩
 have HR1:ah (Kd.R kFl 43 W1 W0.heap.size (fun _=>True) (.slice A m c) xs):=⟨by rw [hW1];exact Kd.dP HRA.out _⟩
 have HB1:ah (Below W0.heap.size W0 W1):=⟨by rw [hW1];exact aA HBA.out _⟩
 have HN1:ah (W1.heap[pb]? =some (.cells #[Value.string p1,Value.string p2] 43 (0,0))):=⟨by rw [hW1,hpb];exact dh _ _⟩
 have HPB:ah (w.heap.size≤pb):=⟨by rw [hpb];exact Nat.le_refl _⟩
 clear hW1 hpb HRA HBA
 go_loopg [5] m (fun kq v5 w'=>∃(i:Nat),v5= .int .i64 i∧ah (kq+i=m)∧ah ((p1,p2)∉xs.take i)∧ah (∃q,w'=W1.drewN q))
 case atStart=>exact ⟨0,rfl,⟨rfl⟩,⟨by simp⟩,⟨⟨0,rfl⟩⟩⟩
 case round=>
  obtain ⟨i,rfl,hki,hni,hdr⟩:=hrel
  have hki':=hki.out
  have HRr:ah (Kd.R kFl 43 wr W0.heap.size (fun _=>True) (.slice A m c) xs∧Below W0.heap.size W0 wr∧wr.heap[pb]? =some (.cells #[Value.string p1,Value.string p2] 43 (0,0))∧oh w wr A m c):=⟨by
   obtain ⟨q,rfl⟩:=hdr.out
   exact ⟨Kd.dS HR1.out q,aY HB1.out q,HN1.out,⟨HF1.out.size,HF1.out.keep⟩⟩⟩
  have hq0:wr.cell? ⟨pb,0,none⟩=some (.string p1):=(aC HRr.out.2.2.1 0).trans rfl
  have hq1:wr.cell? ⟨pb,1,none⟩=some (.string p2):=(aC HRr.out.2.2.1 1).trans rfl
  cases gk with
  |zero=>
   have hlt:decide ((i:Int)<(m:Int))=false:=decide_eq_false (by omega)
   have HNX:ah ((p1,p2)∉xs):=⟨by have h:=hni.out;rwa [List.take_of_length_le (by rw [←HM.out];omega)] at h⟩
   clear hni hdr HR1 HB1 HN1 HF1
   go_wp2_with (at_builtin;go_loud (refine Kd.fH kFl (w0:=W0) W0.heap.size rfl (.tmp 21) (.tmp 23) 40 43 (.agg #[(.string ⟨#[]⟩),(.string ⟨#[]⟩)]) 32 rfl Tryz.underlying40 II rfl (by decide) (by omega) (.slice A m c) xs (p1,p2) [.string p1,.string p2] (fun _=>True) (fun _=>False) rfl rfl ⟨[.string p1],[.string p2],rfl,rfl,rfl⟩ (fun _ hk=>hk.elim) (fun _ _=>trivial) HRr.out.1 HRr.out.2.1 HRr.out.2.1.size ?aL ?_;(case aL=>have:=HM.out;omega);intro v1 w9 ho hb9 hg9 hat;obtain ⟨A9,c9,rfl⟩:=Kd.bF ho;obtain ⟨g9,rfl⟩:=Ii ho (by simp);have HG9:ah ((∀k,k<w.heap.size→some k≠(Value.slice A m c).ownBlock→k≠g9)∧oh w w9 A m c):=⟨JM HRr.out.2.2.2 hg9 hat⟩;rw [show (xs++[(p1,p2)]).length=m+1 by rw [List.length_append,←HM.out];rfl] at ho ⊢;have HR9:=z0 ho;have HB9:=z0 hb9;clear ho hb9 hg9 hat;obtain ⟨M,hM⟩:∃M,M=m+1:=⟨_,rfl⟩;rw [←hM] at HR9 ⊢;have HMM:=z0 hM;clear hM;have hw1:IntKind.i64.wrap ((M:Int)-1)=(m:Int):=(by have:=HMM.out;rw [IntWalk.i64_in _ (by omega)];omega)))
   clear hq0 hq1 HRr hlt hki hki'
   go_loopg [6,7] m (fun kq v6 v7 w'=>∃(a b:List Pr),v6= .int .i64 (kq:Int)∧ah (a.length=kq∧xs=a++b∧∀y∈b,ltP (p1,p2) y)∧ah (Kd.R kFl 43 w' W0.heap.size (fun _=>True) (.slice (some ⟨g9,0,none⟩) M c9) (a++(p1,p2)::b))∧ah (Below W0.heap.size W0 w')∧ah (oh w w' A m c))
   case atStart=>exact ⟨xs,[],rfl,⟨HM.out.symm,by simp,by simp⟩,HR9,HB9,⟨HG9.out.2⟩⟩
   case round=>
    obtain ⟨a,b,rfl,hab,hRi,hBi,hFi⟩:=hrel
    clear hw1 HR9 HB9
    by_cases hg0:gk=0
    · have hgt:decide (0<gk)=false:=decide_eq_false (by omega)
      have HG0:=z0 hg0
      clear hg0
      go_wp2_with (fail)
      go_quiet (fail)
      have HY:=z0 (And.intro (Kd.dS hRi.out nq) (And.intro (aY hBi.out nq) (oh.drewN hFi.out nq)))
      generalize wr.drewN nq=w5 at *
      go_wp2_with (fail)
      go_ret
      obtain ⟨h1,h2,h3⟩:=hab.out
      have ha:a=[]:=List.eq_nil_of_length_eq_zero (h1.trans HG0.out)
      refine ⟨_,a++(p1,p2)::b,rfl,qI HS.out h2 h3 (.inl ha),by have:=congrArg List.length h2;simp only [List.length_append,List.length_cons] at this ⊢;omega,?_,HY.out.2.1,HY.out.2.2.keep,HY.out.2.2.size⟩
      have h5:=HY.out.1
      exact h5
    · obtain ⟨p,hp⟩:∃p,gk=p+1:=⟨gk-1,by omega⟩
      obtain ⟨h1,h2,h3⟩:=hab.out
      obtain ⟨a',y,rfl⟩:∃a' y,a=a'++[y]:=⟨a.dropLast,a.getLast (by intro e;subst e;simp at h1;omega),(List.dropLast_concat_getLast _).symm⟩
      have hla:a'.length=p:=by rw [List.length_append,List.length_singleton] at h1;omega
      have hl3:p+2+b.length=M:=by have h5:=congrArg List.length h2;simp only [List.length_append,List.length_cons,List.length_nil] at h5;have:=HM.out;have:=HMM.out;omega
      have HR0:ah (Kd.R kFl 43 wr W0.heap.size (fun _=>True) (.slice (some ⟨g9,0,none⟩) M c9) (a'++y::(p1,p2)::b)):=⟨by have h:=hRi.out;rwa [List.append_assoc] at h⟩
      have e1:(a'++y::(p1,p2)::b)[gk]? =some (p1,p2):=by rw [hp,←hla,List.getElem?_append_right (by omega),show a'.length+1-a'.length=1 by omega];rfl
      have e2:(a'++y::(p1,p2)::b)[p]? =some y:=by rw [←hla,List.getElem?_append_right (by omega),Nat.sub_self];rfl
      obtain ⟨hcx0,hcx1,_,_⟩:=kY HR0.out gk _ e1
      obtain ⟨hcy0,hcy1,_,_⟩:=kY HR0.out p _ e2
      obtain ⟨y1,y2⟩:=y
      simp only at hcx0 hcx1 hcy0 hcy1
      have hgt:decide (0<gk)=true:=decide_eq_true (by omega)
      have hwp:IntKind.i64.wrap ((gk:Int)-1)=(p:Int):=by
       have:=HMM.out
       rw [IntWalk.i64_in _ (by omega)];omega
      have j0:(0:Int)≤(gk:Int):=by omega
      have j1:(0:Int)≤(p:Int):=by omega
      have j2:gk<M:=by omega
      have j3:p<M:=by omega
      have HP:=z0 hp
      have HLA:=z0 hla
      have HH:=z0 (And.intro h2 h3)
      clear hp hla h1 h2 h3 e1 e2 hl3 hab hg0 hRi
      have HD:=z0 (FY p1 p2 y1 y2)
      rcases HD.out with ⟨b1,hlt2⟩|⟨b1,b2,b3,hlt2⟩|⟨b1,b2,b3,hlt2⟩|⟨b1,b2,hlt2⟩
      · have HLT:=z0 hlt2
        clear hlt2 HD
        go_wp2_with (fail)
        go_quiet (fail)
        obtain ⟨W5,hW5⟩:∃W5,W5=wr.drewN nq:=⟨_,rfl⟩
        have W5R:=Kd.dS HR0.out nq
        have HF5:=oh.drewN hFi.out nq
        have HB5:=aY hBi.out nq
        rw [←hW5] at W5R HF5 HB5 ⊢
        clear hcx0 hcx1 hcy0 hcy1 b1 hW5
        have e1:(a'++(y1,y2)::(p1,p2)::b)[gk]? =some (p1,p2):=by rw [HP.out,←HLA.out,List.getElem?_append_right (by omega),show a'.length+1-a'.length=1 by omega];rfl
        have e2:(a'++(y1,y2)::(p1,p2)::b)[p]? =some (y1,y2):=by rw [←HLA.out,List.getElem?_append_right (by omega),Nat.sub_self];rfl
        have e3:((a'++(y1,y2)::(p1,p2)::b).set gk (y1,y2))[p]? =some (y1,y2):=by rw [List.getElem?_set_ne (by have:=HP.out;omega)];exact e2
        obtain ⟨v0,v1,_,_⟩:=kY W5R gk _ e1
        have W6R:=Kd.dP W5R (Obj.cells #[Value.string p1,Value.string p2] 43)
        obtain ⟨x0,x1,x2,x3⟩:=kY W6R gk _ e1
        obtain ⟨q6,q7,_,_⟩:=kY W6R p _ e2
        have W7R:Kd.R kFl 43 (((W5.alloc (Obj.cells #[Value.string p1,Value.string p2] 43)).setCell ⟨g9,gk*2,none⟩ (.string y1)).setCell ⟨g9,gk*2+1,none⟩ (.string y2)) W0.heap.size (fun _=>True) (.slice (some ⟨g9,0,none⟩) M c9) ((a'++(y1,y2)::(p1,p2)::b).set gk (y1,y2)):=vJ W6R gk j2 (y1,y2)
        obtain ⟨t0,t1,t2,t3⟩:=kY W7R p _ e3
        obtain ⟨_,hty⟩:=Kd.fQ W5R g9 rfl
        have hng:W5.heap.size≠g9:=by have:=aT hty;omega
        have hN7:=dX (p:=⟨g9,gk*2+1,none⟩) (dX (p:=⟨g9,gk*2,none⟩) (dh W5 (Obj.cells #[Value.string p1,Value.string p2] 43)) hng (.string y1)) hng (.string y2)
        have n0:=(aC hN7 0).trans (show _=some (Value.string p1) from rfl)
        have n1:=(aC hN7 1).trans (show _=some (Value.string p2) from rfl)
        have W8R:Kd.R kFl 43 (((((W5.alloc (Obj.cells #[Value.string p1,Value.string p2] 43)).setCell ⟨g9,gk*2,none⟩ (.string y1)).setCell ⟨g9,gk*2+1,none⟩ (.string y2)).setCell ⟨g9,p*2,none⟩ (.string p1)).setCell ⟨g9,p*2+1,none⟩ (.string p2)) W0.heap.size (fun _=>True) (.slice (some ⟨g9,0,none⟩) M c9) (((a'++(y1,y2)::(p1,p2)::b).set gk (y1,y2)).set p (p1,p2)):=vJ W7R p j3 (p1,p2)
        rw [show ((a'++(y1,y2)::(p1,p2)::b).set gk (y1,y2)).set p (p1,p2)=a'++(p1,p2)::(y1,y2)::b by rw [HP.out,←HLA.out,vX]] at W8R
        have hge:W0.heap.size≤g9:=Kd.pI W5R g9 rfl
        have HEND:=z0 (And.intro W8R (And.intro (bC (g:=g9) (j:=p*2+1) (v:= .string p2) (bC (g:=g9) (j:=p*2) (v:= .string p1) (bC (g:=g9) (j:=gk*2+1) (v:= .string y2) (bC (g:=g9) (j:=gk*2) (v:= .string y1) (aA HB5 (Obj.cells #[Value.string p1,Value.string p2] 43)) hge) hge) hge) hge) (oh.put HF5 HG9.out.1 (Obj.cells #[Value.string p1,Value.string p2] 43) (gk*2) (gk*2+1) (p*2) (p*2+1) (.string y1) (.string y2) (.string p1) (.string p2))))
        clear W5R W6R W7R W8R HF5 HB5 e1 e2 e3 hty hN7 hge HR0
        go_wp2_with (fail)
        go_roundg p
        case measure=>have:=HP.out;omega
        case rel=>
         obtain ⟨h2,h3⟩:=HH.out
         refine ⟨a',(y1,y2)::b,rfl,⟨HLA.out,by rw [h2];simp,fun q hq=> ?_⟩,⟨HEND.out.1⟩,⟨HEND.out.2.1⟩,⟨HEND.out.2.2⟩⟩
         rcases List.mem_cons.1 hq with rfl|hq
         · exact HLT.out
         · exact h3 q hq
      · have HLT:=z0 hlt2
        clear hlt2 HD
        go_wp2_with (fail)
        go_quiet (fail)
        obtain ⟨W5,hW5⟩:∃W5,W5=wr.drewN nq:=⟨_,rfl⟩
        have W5R:=Kd.dS HR0.out nq
        have HF5:=oh.drewN hFi.out nq
        have HB5:=aY hBi.out nq
        rw [←hW5] at W5R HF5 HB5 ⊢
        clear hcx0 hcx1 hcy0 hcy1 b1 b2 b3 hW5
        have e1:(a'++(y1,y2)::(p1,p2)::b)[gk]? =some (p1,p2):=by rw [HP.out,←HLA.out,List.getElem?_append_right (by omega),show a'.length+1-a'.length=1 by omega];rfl
        have e2:(a'++(y1,y2)::(p1,p2)::b)[p]? =some (y1,y2):=by rw [←HLA.out,List.getElem?_append_right (by omega),Nat.sub_self];rfl
        have e3:((a'++(y1,y2)::(p1,p2)::b).set gk (y1,y2))[p]? =some (y1,y2):=by rw [List.getElem?_set_ne (by have:=HP.out;omega)];exact e2
        obtain ⟨v0,v1,_,_⟩:=kY W5R gk _ e1
        have W6R:=Kd.dP W5R (Obj.cells #[Value.string p1,Value.string p2] 43)
        obtain ⟨x0,x1,x2,x3⟩:=kY W6R gk _ e1
        obtain ⟨q6,q7,_,_⟩:=kY W6R p _ e2
        have W7R:Kd.R kFl 43 (((W5.alloc (Obj.cells #[Value.string p1,Value.string p2] 43)).setCell ⟨g9,gk*2,none⟩ (.string y1)).setCell ⟨g9,gk*2+1,none⟩ (.string y2)) W0.heap.size (fun _=>True) (.slice (some ⟨g9,0,none⟩) M c9) ((a'++(y1,y2)::(p1,p2)::b).set gk (y1,y2)):=vJ W6R gk j2 (y1,y2)
        obtain ⟨t0,t1,t2,t3⟩:=kY W7R p _ e3
        obtain ⟨_,hty⟩:=Kd.fQ W5R g9 rfl
        have hng:W5.heap.size≠g9:=by have:=aT hty;omega
        have hN7:=dX (p:=⟨g9,gk*2+1,none⟩) (dX (p:=⟨g9,gk*2,none⟩) (dh W5 (Obj.cells #[Value.string p1,Value.string p2] 43)) hng (.string y1)) hng (.string y2)
        have n0:=(aC hN7 0).trans (show _=some (Value.string p1) from rfl)
        have n1:=(aC hN7 1).trans (show _=some (Value.string p2) from rfl)
        have W8R:Kd.R kFl 43 (((((W5.alloc (Obj.cells #[Value.string p1,Value.string p2] 43)).setCell ⟨g9,gk*2,none⟩ (.string y1)).setCell ⟨g9,gk*2+1,none⟩ (.string y2)).setCell ⟨g9,p*2,none⟩ (.string p1)).setCell ⟨g9,p*2+1,none⟩ (.string p2)) W0.heap.size (fun _=>True) (.slice (some ⟨g9,0,none⟩) M c9) (((a'++(y1,y2)::(p1,p2)::b).set gk (y1,y2)).set p (p1,p2)):=vJ W7R p j3 (p1,p2)
        rw [show ((a'++(y1,y2)::(p1,p2)::b).set gk (y1,y2)).set p (p1,p2)=a'++(p1,p2)::(y1,y2)::b by rw [HP.out,←HLA.out,vX]] at W8R
        have hge:W0.heap.size≤g9:=Kd.pI W5R g9 rfl
        have HEND:=z0 (And.intro W8R (And.intro (bC (g:=g9) (j:=p*2+1) (v:= .string p2) (bC (g:=g9) (j:=p*2) (v:= .string p1) (bC (g:=g9) (j:=gk*2+1) (v:= .string y2) (bC (g:=g9) (j:=gk*2) (v:= .string y1) (aA HB5 (Obj.cells #[Value.string p1,Value.string p2] 43)) hge) hge) hge) hge) (oh.put HF5 HG9.out.1 (Obj.cells #[Value.string p1,Value.string p2] 43) (gk*2) (gk*2+1) (p*2) (p*2+1) (.string y1) (.string y2) (.string p1) (.string p2))))
        clear W5R W6R W7R W8R HF5 HB5 e1 e2 e3 hty hN7 hge HR0
        go_wp2_with (fail)
        go_roundg p
        case measure=>have:=HP.out;omega
        case rel=>
         obtain ⟨h2,h3⟩:=HH.out
         refine ⟨a',(y1,y2)::b,rfl,⟨HLA.out,by rw [h2];simp,fun q hq=> ?_⟩,⟨HEND.out.1⟩,⟨HEND.out.2.1⟩,⟨HEND.out.2.2⟩⟩
         rcases List.mem_cons.1 hq with rfl|hq
         · exact HLT.out
         · exact h3 q hq
      · have HLT:=z0 hlt2
        clear hlt2 HD
        go_wp2_with (fail)
        go_quiet (fail)
        have HY:=z0 (And.intro (Kd.dS HR0.out nq) (And.intro (aY hBi.out nq) (oh.drewN hFi.out nq)))
        clear hcx0 hcx1 hcy0 hcy1 b1 b2 b3 HR0
        generalize wr.drewN nq=w5 at *
        go_wp2_with (fail)
        go_ret
        obtain ⟨h2,h3⟩:=HH.out
        have hyx:ltP (y1,y2) (p1,p2):=by
         rcases nS (p1,p2) (y1,y2) with h|h|h
         · exact absurd h HLT.out
         · exact absurd (show (p1,p2)∈xs by rw [h2,h];simp) HNX.out
         · exact h
        refine ⟨_,a'++(y1,y2)::(p1,p2)::b,rfl,?_,?_,HY.out.1,HY.out.2.1,HY.out.2.2.keep,HY.out.2.2.size⟩
        · rw [show a'++(y1,y2)::(p1,p2)::b=(a'++[(y1,y2)])++(p1,p2)::b by simp]
          exact qI HS.out h2 h3 (.inr ⟨a',(y1,y2),rfl,hyx⟩)
        · have:=congrArg List.length h2;simp only [List.length_append,List.length_cons,List.length_nil] at this ⊢;omega
      · have HLT:=z0 hlt2
        clear hlt2 HD
        go_wp2_with (fail)
        go_quiet (fail)
        have HY:=z0 (And.intro (Kd.dS HR0.out nq) (And.intro (aY hBi.out nq) (oh.drewN hFi.out nq)))
        clear hcx0 hcx1 hcy0 hcy1 b1 b2 HR0
        generalize wr.drewN nq=w5 at *
        go_wp2_with (fail)
        go_ret
        obtain ⟨h2,h3⟩:=HH.out
        have hyx:ltP (y1,y2) (p1,p2):=by
         rcases nS (p1,p2) (y1,y2) with h|h|h
         · exact absurd h HLT.out
         · exact absurd (show (p1,p2)∈xs by rw [h2,h];simp) HNX.out
         · exact h
        refine ⟨_,a'++(y1,y2)::(p1,p2)::b,rfl,?_,?_,HY.out.1,HY.out.2.1,HY.out.2.2.keep,HY.out.2.2.size⟩
        · rw [show a'++(y1,y2)::(p1,p2)::b=(a'++[(y1,y2)])++(p1,p2)::b by simp]
          exact qI HS.out h2 h3 (.inr ⟨a',(y1,y2),rfl,hyx⟩)
        · have:=congrArg List.length h2;simp only [List.length_append,List.length_cons,List.length_nil] at this ⊢;omega
  |succ g1=>
   have hlt:decide ((i:Int)<(m:Int))=true:=decide_eq_true (by omega)
   have hii:(0:Int)≤(i:Int):=by omega
   have him:i<m:=by omega
   obtain ⟨x,hx⟩:∃x,xs[i]? =some x:=⟨_,List.getElem?_eq_getElem (by rw [←HM.out];omega)⟩
   obtain ⟨g,rfl⟩:=Ii HRr.out.1 (by intro e;rw [e] at hx;simp at hx)
   obtain ⟨cx0,cx1,_,_⟩:=kY HRr.out.1 i x hx
   have HX:=z0 hx
   obtain ⟨x1,x2⟩:=x
   simp only at cx0 cx1
   have heq:=fun w=>Ns x1 x2 p1 p2 w
   clear hx
   by_cases he:(x1.toList==p1.toList&&x2.toList==p2.toList)=true
   · rw [he] at heq
     have hdup:ah ((x1,x2)=(p1,p2)):=⟨by
      simp only [Bool.and_eq_true,beq_iff_eq,ByteArray.toList_eq] at he
      rw [Go.WideShapes.bytes_inj he.1,Go.WideShapes.bytes_inj he.2]⟩
     clear he
     go_wp2_with (fail)
     go_quiet (fail)
     have HY:ah (Kd.R kFl 43 (wr.drewN nq) W0.heap.size (fun _=>True) (.slice (some ⟨g,0,none⟩) m c) xs∧Below W0.heap.size W0 (wr.drewN nq)∧oh w (wr.drewN nq) (some ⟨g,0,none⟩) m c):=⟨Kd.dS HRr.out.1 nq,aY HRr.out.2.1 nq,⟨HRr.out.2.2.2.size,HRr.out.2.2.2.keep⟩⟩
     clear heq cx0 cx1 hq0 hq1
     generalize wr.drewN nq=w5 at *
     go_wp2_with (fail)
     go_ret
     refine ⟨_,xs,rfl,⟨HS.out,fun y=> ?_⟩,Nat.le_succ _,HY.out.1,HY.out.2.1,HY.out.2.2.keep,HY.out.2.2.size⟩
     rw [List.mem_append,List.mem_singleton]
     exact ⟨.inl,fun h=>h.elim id (fun e=>by rw [e,←hdup.out];exact List.mem_of_getElem? HX.out)⟩
   · have he':(x1.toList==p1.toList&&x2.toList==p2.toList)=false:=by simpa using he
     rw [he'] at heq
     have HNE:ah ((p1,p2)≠(x1,x2)):=⟨fun e=>he (by obtain ⟨e1,e2⟩:=Prod.ext_iff.1 e;simp only at e1 e2;rw [e1,e2];simp)⟩
     clear he he'
     go_wp2_with (fail)
     go_quiet (fail)
     have HY:ah (∃q,wr.drewN nq=W1.drewN q):=⟨by obtain ⟨q,rfl⟩:=hdr.out;exact ⟨q+nq,by rw [World.drewN_drewN]⟩⟩
     clear heq cx0 cx1 hq0 hq1 HRr hdr
     generalize wr.drewN nq=w5 at *
     go_wp2_with (fail)
     go_roundg g1
     case measure=>omega
     case rel=>
      refine ⟨i+1,by (try simp),⟨by omega⟩,⟨?_⟩,HY⟩
      rw [take_snoc' xs i _ HX.out,List.mem_append,List.mem_singleton]
      exact fun h=>h.elim hni.out HNE.out
end
def ES (x:Option Addr × Nat × Nat):Value:= .slice x.1 x.2.1 x.2.2
abbrev kSl:Kd (Option Addr × Nat × Nat):=Kd.scalar ES (fun _=>rfl)
theorem Eh {α:Type}{d:Kd α}{e:Nat}(hE:d.E=[]){w w':World}{base:Nat}{v:Value}{xs:List α}(h:d.R e w base (fun _=>True) v xs)(hk:∀(k:Nat) (cs:Array Value),w.heap[k]? =some (Obj.cells cs e (0,0))→w'.heap[k]? =w.heap[k]?):d.R e w' base (fun _=>True) v xs:=
 Kd.fM (Kd.lJ (Kd.iJ h) (fun k ho _=>by
  obtain ⟨_,_,_,q,hq,cs,hc⟩:=ho
  obtain rfl:q=e:=by
   rcases List.mem_cons.1 hq with h|h
   · exact h
   · exact absurd (show q∈([]:List Nat) from by rw [←hE];exact h) (by simp)
  exact hk _ _ hc)) (fun _ _=>trivial)
structure qZ (W:World)(G:ByteArray→List ByteArray)(n g c:Nat)(vs:List (Option Addr × Nat × Nat))(fs:List Fl)(w:World):Prop where
 row:Kd.R kSl 23 w W.heap.size (fun _=>True) (.slice (some ⟨g,0,none⟩) n c) vs
 each:∀(i:Nat) (f:Fl),fs[i]? =some f→∃v,vs[i]? =some v∧Kd.R Kd.string 9 w W.heap.size (fun _=>True) (ES v) (G f.1)
section
variable {W:World}{G:ByteArray→List ByteArray}{n g c:Nat}{vs:List (Option Addr × Nat × Nat)}{fs:List Fl}{w w':World}
theorem qZ.keep (h:qZ W G n g c vs fs w)(hk:∀(k t:Nat) (cs:Array Value),w.heap[k]? =some (Obj.cells cs t (0,0))→t≠43→w'.heap[k]? =w.heap[k]?):qZ W G n g c vs fs w':=
 ⟨Eh rfl h.row (fun k cs hc=>hk k 23 cs hc (by decide)),fun i f hf=>by
  obtain ⟨v,h1,h2⟩:=h.each i f hf
  exact ⟨v,h1,Eh rfl h2 (fun k cs hc=>hk k 9 cs hc (by decide))⟩⟩
theorem qZ.below (h:qZ W G n g c vs fs w)(hb:Below w.heap.size w w'):qZ W G n g c vs fs w':=h.keep fun k t cs hc _=>hb.block k (aT hc)
theorem qZ.put (h:qZ W G n g c vs fs w)(hfs:fs.length<n)(f:Fl)(v:Option Addr × Nat × Nat)(hv:Kd.R Kd.string 9 w W.heap.size (fun _=>True) (ES v) (G f.1)):qZ W G n g c (vs.set fs.length v) (fs++[f]) (w.setCell ⟨g,fs.length,none⟩ (ES v)):=by
 obtain ⟨cs,hc⟩:=Kd.fQ h.row g rfl
 have hn:=(Kd.aZ h.row).1
 have h1:=(Kd.xH h.row (fs.length:Int) v).1
 rw [Int.toNat_natCast] at h1
 refine ⟨h1,fun i f' hf'=> ?_⟩
 by_cases hi:i<fs.length
 · rw [List.getElem?_append_left hi] at hf'
   obtain ⟨v',q1,q2⟩:=h.each i f' hf'
   exact ⟨v',by rw [List.getElem?_set_ne (by omega)];exact q1,Kd.lV q2 hc (by decide) _ _⟩
 · rw [List.getElem?_append_right (by omega)] at hf'
   have hi2:i=fs.length:=by
    have:=(List.getElem?_eq_some_iff.1 hf').1
    simp at this
    omega
   subst hi2
   rw [Nat.sub_self] at hf'
   obtain rfl:=Option.some.inj hf'
   exact ⟨v,by rw [List.getElem?_set_self (by omega)],Kd.lV hv hc (by decide) _ _⟩
end
theorem Jt {α:Type}{lt:α→α→Prop}{S xs ys:List α}{p:α}(h:SU lt S xs)(k:SU lt (xs++[p]) ys):SU lt (S++[p]) ys:=
 ⟨k.1,fun y=>by rw [k.2 y,List.mem_append,List.mem_append,h.2 y]⟩
section
variable {W:World}{files:List Fl}{ps:List ByteArray}{A Ap:Option Addr}{c cp:Nat}
theorem Me (H:iG W files ps A Ap c cp)(name:ByteArray):(aL files ps name).length≤60:=by
 unfold aL
 split
 · rename_i h
   exact Du H h.choose_spec.choose_spec
 · simp
theorem Ah (H:iG W files ps A Ap c cp)(hcp:ps.length≤cp):Calls Tryz.prog 18 #[.slice A files.length c,.slice Ap ps.length cp] W (MQ W (uo files ps)):=by
 have H23:=o8 H
 rcases nR files with ⟨h1,h2⟩|⟨m,hm⟩
 · have om:eY files=((eY files).1,none):=by rw [←h1]
   obtain ⟨er,her⟩:∃er,er=(eY files).1:=⟨_,rfl⟩
   rw [←her] at H23 om h2
   obtain ⟨P,hP⟩:∃P:Int→List Pr→Prop,P=uo files ps:=⟨_,rfl⟩
   have HER:ah (P er []):=⟨by rw [hP];exact .inl ⟨by omega,om,rfl⟩⟩
   have hb':(er !=0)=true:=bne_iff_ne.mpr (by omega)
   obtain ⟨n,hn⟩:∃n,n=files.length:=⟨_,rfl⟩
   obtain ⟨np,hnp⟩:∃np,np=ps.length:=⟨_,rfl⟩
   rw [←hn] at H23
   rw [←hn,←hnp,←hP]
   clear H hcp h1 h2 om her hn hnp hP
   go_enter Tryz.func18,Tryz.ntmps18
   go_wp2_with (go_at_call 23;go_loud (refine H23.mono ?_;rintro e w5 ⟨rfl,hb5⟩;have HB5:=z0 hb5;clear hb5))
   go_ret2
   exact sF HER.out HB5.out
 · rw [hm] at H23
   have HALL:=z0 (fun (w:World) (hb:Below W.heap.size W w) (n:ByteArray)=>Ia (H.below hb) hcp n)
   have HUSE:=z0 (fun (w:World) (hb:Below W.heap.size W w) (k:Nat) (f:Fl) (hf:files[k]? =some f)=>by have h:=yT (H.below hb) hcp k f hf;rw [KP hm ps hf] at h;exact h)
   have HFIND:=z0 (fun (w:World) (hb:Below W.heap.size W w) (k:Nat) (f:Fl) (hf:files[k]? =some f)=>by
    have h:=ORef.aW.calls (files.length+1) A c (files.map jq) f.1 _ w (by rw [List.length_map];exact Jk (Kd.fC H.fc hb)) (by rw [List.length_map];exact H.fl) (qL files f.1 (by have:=H.nfl;omega)).1
    rw [List.length_map,Ar hm hf] at h
    exact h)
   have HIN:=z0 ((H.env hm 0 0 0).in_)
   have HUL:=z0 (fun n=>En m ps n (H.text hm n))
   have HLL:=z0 (fun (n:ByteArray)=>Me H n)
   have HFC:=z0 H.fc
   have HNF:=z0 H.nfl
   obtain ⟨n,hn⟩:∃n,n=files.length:=⟨_,rfl⟩
   obtain ⟨np,hnp⟩:∃np,np=ps.length:=⟨_,rfl⟩
   rw [←hn] at H23 HFC HNF HFIND
   rw [←hn,←hnp] at HALL HUSE
   rw [←hn,←hnp]
   have HN:=z0 hn
   obtain ⟨F,hF⟩:∃F:ByteArray→Int,F=aE files ps:=⟨_,rfl⟩
   obtain ⟨G,hG⟩:∃G:ByteArray→List ByteArray,G=aL files ps:=⟨_,rfl⟩
   have HERR:ah (∀(i:Nat) (f:Fl) (er:Int),files[i]? =some f→(∀g∈files.take i,F g.1=0)→F f.1=er→er≠0→uo files ps er []):=⟨fun i f er h1 h2 h3 h4=> .inr ⟨m,hm,.inl ⟨⟨h4,i,f,h1,fun g hg=>by rw [←hF];exact h2 g hg,by rw [←hF];exact h3⟩,rfl⟩⟩⟩
   have HOK:ah (∀zs:List Pr,(∀g∈files,F g.1=0)→SU ltP (selC G (usR m ps) files) zs→uo files ps 0 zs):=⟨fun zs h1 h2=> .inr ⟨m,hm,.inr ⟨fun g hg=>by rw [←hF];exact h1 g hg,rfl,by rw [←hG];exact h2⟩⟩⟩
   rw [←hF,←hG] at HALL
   rw [←hG] at HLL
   obtain ⟨P,hP⟩:∃P:Int→List Pr→Prop,P=uo files ps:=⟨_,rfl⟩
   rw [←hP] at HERR HOK ⊢
   clear H hcp hn hnp hm hF hG hP
   have hn61:=HNF.out
   go_enter Tryz.func18,Tryz.ntmps18
   go_wp2_with (first|(go_at_call 23;go_loud (refine H23.mono ?_;rintro e w5 ⟨rfl,hb5⟩;have HB5:=z0 hb5;clear hb5))|(refine lC (.makeSlice 72 (.tmp 20) (.tmp 20)) rfl ?_;go_loud (refine Kd.Ed kSl (w0:=W) W.heap.size 23 rfl (N:=21) rfl 72 (.tmp 20) (.tmp 20) rfl (n:Int) rfl rfl Tryz.underlying72 (.slice none 0 0) 24 (by kernel_rfl) rfl (by decide) (by omega) (none,0,0) (ok:=fun _=>True) (okp:=fun _=>False) rfl (fun _ h=>h.elim) trivial (by omega) (by simp;omega) HB5.out (aQ HB5.out) ?_;intro v7 w7 ho hb hg7 hat;rw [Int.toNat_natCast] at ho;obtain ⟨b7,hat,_⟩:=hat;obtain ⟨A7,c7,rfl⟩:=Kd.bF ho;rw [List.length_replicate] at ho ⊢;obtain ⟨g7,rfl⟩:∃g,A7=some ⟨g,0,none⟩:=(by cases A7 with|none=>simp [Value.ownBlock] at hat|some a=>obtain ⟨g,rfl⟩:=Kd.Ef ho;exact ⟨g,rfl⟩);have HR7:=z0 ho;have HB7:=z0 hb;clear ho hb hg7 hat)))
   have HT0:ah (qZ W G n g7 c7 (List.replicate n (none,0,0)) [] w7):=⟨⟨HR7.out,fun i f hf=>by simp at hf⟩⟩
   go_loopg [8] n (fun kq v8 w'=>∃(i:Nat) (vs:List (Option Addr × Nat × Nat)),v8= .int .i64 i∧ah (kq+i=n)∧ah (qZ W G n g7 c7 vs (files.take i) w')∧ah (Below W.heap.size W w')∧ah (∀f∈files.take i,F f.1=0))
   case atStart=>exact ⟨0,_,rfl,⟨rfl⟩,HT0,HB7,⟨fun f hf=>by simp at hf⟩⟩
   case round=>
    clear HT0 HR7 HB7
    obtain ⟨i,vs,rfl,hki,hT,hB,hF0⟩:=hrel
    have hki':=hki.out
    cases gk with
    |zero=>
     have hlt:decide ((i:Int)<(n:Int))=false:=decide_eq_false (by omega)
     have hti:files.take i=files:=List.take_of_length_le (by rw [←HN.out];omega)
     have HT1:ah (qZ W G n g7 c7 vs files wr):=⟨by have h:=hT.out;rwa [hti] at h⟩
     have HF1:ah (∀f∈files,F f.1=0):=⟨by have h:=hF0.out;rwa [hti] at h⟩
     have HB1:=hB
     have hltn:decide (i<n)=false:=decide_eq_false (by omega)
     clear hti hT hF0 hB hki hki'
     go_wp2_with (fail)
     obtain ⟨wa,hwa⟩:∃wa,wa=wr:=⟨_,rfl⟩
     subst hwa
     go_loopg [9,10] n (fun kq v9 v10 w'=>∃(i:Nat) (xs:List Pr),v10= .int .i64 i∧ah (kq+i=n)∧ah (xs.length≤i*4001)∧ah (Kd.R kFl 43 w' W.heap.size (fun _=>True) v9 xs)∧ah (qZ W G n g7 c7 vs files w')∧ah (Below W.heap.size W w')∧ah (SU ltP (selC G (usR m ps) (files.take i)) xs))
     case atStart=>exact ⟨0,[],rfl,⟨rfl⟩,⟨by simp⟩,⟨Kd.gQ _ _ _ _ _⟩,HT1,HB1,⟨.nil,fun y=>by rw [List.take_zero];exact Iff.rfl⟩⟩
     case round=>
      clear HT1 HB1
      obtain ⟨i,xs,rfl,hki,hxl,hR,hT,hB,hS⟩:=hrel
      have hki':=hki.out
      cases gk with
      |zero=>
       have hlt:decide ((i:Int)<(n:Int))=false:=decide_eq_false (by omega)
       obtain ⟨A9,c9,rfl⟩:=Kd.bF hR.out
       have hr9:=Kd.aZ hR.out
       go_wp2_with (fail)
       go_ret2
       refine ⟨0,A9,c9,xs,rfl,hB.out,hr9.2.2,hr9.2.1,by have:=hxl.out;omega,HOK.out xs HF1.out ?_⟩
       have h:=hS.out
       rwa [List.take_of_length_le (by rw [←HN.out];omega)] at h
      |succ g1=>
       have hlt:decide ((i:Int)<(n:Int))=true:=decide_eq_true (by omega)
       have hii:(0:Int)≤(i:Int):=by omega
       have hin:i<n:=by omega
       obtain ⟨x,hx⟩:∃x,files[i]? =some x:=⟨_,List.getElem?_eq_getElem (by rw [←HN.out];omega)⟩
       have HTK:=z0 (take_snoc files i x hx)
       have H25:=HUSE.out wr hB.out i x hx
       have HX:=z0 hx
       obtain ⟨f1,f2⟩:=x
       simp only at H25
       have hul:=HUL.out f1
       obtain ⟨l,hlus⟩:∃l,l=usR m ps f1:=⟨_,rfl⟩
       rw [←hlus] at H25 hul
       have HUS:=z0 hlus
       obtain ⟨L,hL⟩:∃L,L=l.length:=⟨_,rfl⟩
       rw [←hL] at hul
       have HLE:=z0 hL
       obtain ⟨i2,hi2⟩:∃i2,i2=i*4001:=⟨_,rfl⟩
       rw [←hi2] at hxl
       have HI2:=z0 hi2
       clear hx hlus hL hi2
       go_wp2_with (go_at_call 25;go_loud (refine H25.mono ?_;rintro e w6 ⟨v6,rfl,hr6,hb6⟩;obtain ⟨Au,cu,rfl⟩:=Kd.bF hr6;rw [←HLE.out] at hr6 ⊢;have HU6:=z0 (Kd.fZ hr6 hB.out.size);have HR6:=z0 (Kd.dn hR.out hb6);have HT6:=z0 (hT.out.below hb6);have HB6:=z0 (ak hB.out hb6);clear hr6 hb6))
       have HS0:=hS
       have HXL0:=hxl
       clear hR hT hB hS hxl H25
       go_loopg [9,13] L (fun kq v9 v13 w'=>∃(j:Nat) (xs1:List Pr),v13= .int .i64 j∧ah (kq+j=L)∧ah (xs1.length≤i2+j)∧ah (Kd.R kFl 43 w' W.heap.size (fun _=>True) v9 xs1)∧ah (qZ W G n g7 c7 vs files w')∧ah (Below W.heap.size W w')∧ah (Kd.R kUs 33 w' W.heap.size (fun _=>True) (.slice Au L cu) l)∧ah (SU ltP (selC G (usR m ps) (files.take i)++xZ G f1 (l.take j)) xs1))
       case atStart=>exact ⟨0,xs,rfl,⟨rfl⟩,⟨by have:=HXL0.out;omega⟩,HR6,HT6,HB6,HU6,⟨by rw [List.take_zero,show xZ G f1 []=[] from rfl,List.append_nil];exact HS0.out⟩⟩
       case round=>
        clear HR6 HT6 HB6 HU6 HS0 HXL0
        obtain ⟨j,xs1,rfl,hkj,hxl,hR,hT,hB,hU,hS⟩:=hrel
        have hkj':=hkj.out
        cases gk with
        |zero=>
         have hlt:decide ((j:Int)<(L:Int))=false:=decide_eq_false (by omega)
         go_wp2_with (fail)
         go_roundg g1
         case measure=>omega
         case rel=>
          refine ⟨i+1,xs1,(by (try simp)),⟨by omega⟩,⟨by have h1:=hxl.out;have h2:=HI2.out;omega⟩,hR,hT,hB,⟨?_⟩⟩
          have e1:l.take j=l:=List.take_of_length_le (by rw [←HLE.out];omega)
          have h:=hS.out
          rw [e1,HUS.out] at h
          rw [HTK.out,yJ]
          exact h
        |succ g2=>
         have hlt:decide ((j:Int)<(L:Int))=true:=decide_eq_true (by omega)
         have hjj:(0:Int)≤(j:Int):=by omega
         have hjL:j<L:=by omega
         obtain ⟨x,hx⟩:∃x,l[j]? =some x:=⟨_,List.getElem?_eq_getElem (by rw [←HLE.out];omega)⟩
         obtain ⟨A9,c9,rfl⟩:=Kd.bF hR.out
         obtain ⟨M9,hM9⟩:∃M9,M9=xs1.length:=⟨_,rfl⟩
         rw [←hM9] at hR ⊢
         have HM9:=z0 hM9
         clear hM9
         obtain ⟨ad2,hAd2,hx0,hx1,hx2⟩:=Em (Kd.aZ hU.out).2.2 j (by rw [←HLE.out];omega) x hx
         obtain rfl:=hAd2
         have HT2:=z0 (take_snoc l j x hx)
         have hxm:=List.mem_of_getElem? hx
         obtain ⟨un,uq,uf⟩:=x
         simp only at hx0 hx1 hx2
         obtain ⟨ad,hAd,fx0,fx1⟩:=oP (Kd.fC HFC.out hB.out) i hin _ HX.out
         obtain rfl:=hAd
         clear hx hx0 hx1 fx1
         by_cases huf:uf.toList=[]
         · have e1:(uf.toList==([]:List UInt8))=true:=by rw [huf];rfl
           have HUF:=z0 huf
           clear hxm huf
           go_wp2_with (fail)
           go_quiet (fail)
           have HY:=z0 (And.intro (Kd.dS hR.out nq) (And.intro (hT.out.below (aY (Below.refl _ _) nq)) (And.intro (aY hB.out nq) (Kd.dS hU.out nq))))
           clear hx2 fx0 e1
           generalize wr.drewN nq=w5 at *
           go_wp2_with (fail)
           go_roundg g2
           case measure=>omega
           case rel=>exact ⟨j+1,xs1,(by (try simp)),⟨by omega⟩,⟨by have:=hxl.out;omega⟩,⟨HY.out.1⟩,⟨HY.out.2.1⟩,⟨HY.out.2.2.1⟩,⟨HY.out.2.2.2⟩,⟨by rw [HT2.out,(mF G f1 _ _).2 (.inl HUF.out)];exact hS.out⟩⟩
         · have e1:(uf.toList==([]:List UInt8))=false:=beq_eq_false_iff_ne.mpr huf
           have HNE:=z0 huf
           obtain ⟨fu,k1,hk1,hfn⟩:∃(fu:Fl) (k1:Nat),files[k1]? =some fu∧fu.1=uf:=by
            have h0:(un,uq,uf)∈usR m ps f1:=by rw [←HUS.out];exact hxm
            have h1:uf∈files.map (·.1):=HIN.out f1 uf (EM h0 huf)
            obtain ⟨fu,h2,h3⟩:=List.mem_map.1 h1
            obtain ⟨k1,hk1⟩:=List.getElem?_of_mem h2
            exact ⟨fu,k1,hk1,h3⟩
           have hk1n:k1<n:=by rw [HN.out];exact (List.getElem?_eq_some_iff.1 hk1).1
           have hk10:(0:Int)≤(k1:Int):=by omega
           obtain ⟨⟨A8,L8,c8⟩,hv8,hR8⟩:=hT.out.each k1 fu hk1
           obtain ⟨hct,_⟩:=Kd.sQ (none,0,0) hT.out.row (k1:Int) hk10 (by omega)
           rw [Int.toNat_natCast,show jv (none,0,0) vs (k1:Int)=(A8,L8,c8) by show vs.getD (k1:Int).toNat _=_;rw [Int.toNat_natCast,List.getD_eq_getElem?_getD,hv8];rfl] at hct
           have hct':wr.cell? ⟨g7,k1,none⟩=some (.slice A8 L8 c8):=hct
           have H24:ah (∀q,Calls Tryz.prog 24 #[.slice (some ad) n c,.string uf] (wr.drewN q) fun e w''=>e= .returned (.int .i64 (k1:Int))∧∃m,w''=wr.drewN m):=⟨fun q=>by
            have h:=HFIND.out (wr.drewN q) (aY hB.out q) k1 fu hk1
            rw [hfn] at h
            refine h.mono ?_
            rintro e w'' ⟨rfl,m2,rfl⟩
            exact ⟨rfl,q+m2,by rw [World.drewN_drewN]⟩⟩
           rw [hfn] at hR8
           have hgl:=HLL.out uf
           obtain ⟨r,hr,hrr⟩:=Am (G uf) f1 (by omega)
           have hrm:=EK hrr
           have hr8:=Kd.aZ (show Kd.R Kd.string 9 wr W.heap.size (fun _=>True) (.slice A8 L8 c8) (G uf) from hR8)
           have H19:ah (∀q,Calls Tryz.prog 19 #[.slice A8 L8 c8,.string f1] (wr.drewN q) fun e w''=>e= .returned (.int .i64 r)∧∃m,w''=wr.drewN m):=⟨fun q=>by
            have h:=ORef.bH.calls ((G uf).length+1) A8 c8 (G uf) f1 r (wr.drewN q) (Kd.lN hr8.2.2 q) (by rw [←hr8.1];exact hr8.2.1) hr
            rw [←hr8.1] at h
            refine h.mono ?_
            rintro e w'' ⟨rfl,m2,rfl⟩
            exact ⟨rfl,q+m2,by rw [World.drewN_drewN]⟩⟩
           clear hct hv8 hR8 hr8 hr hrr hk1 hfn hxm huf hgl
           by_cases hmem:f1∈G uf
           · have hr0:decide (r<0)=false:=decide_eq_false (by have:=hrm.2 hmem;omega)
             have HMEM:=z0 hmem
             clear hmem hrm
             go_wp2_with (fail)
             go_quiet (first|(go_at_call 24;exact H24.out _)|(go_at_call 19;exact H19.out _))
             have HY:=z0 (And.intro (Kd.dS hR.out nq) (And.intro (hT.out.below (aY (Below.refl _ _) nq)) (And.intro (aY hB.out nq) (Kd.dS hU.out nq))))
             have fx0':(wr.drewN nq).cell? (ad.add (i*2))=some (.string f1):=fx0
             have hx2':(wr.drewN nq).cell? ⟨(ad2.add (j*3)).block,(ad2.add (j*3)).off+2,none⟩=some (.string uf):=hx2
             clear hx2 fx0 e1 H24 H19 hct' hr0
             generalize wr.drewN nq=w5 at *
             go_wp2_with (fail)
             go_still_tail 12,(by kernel_rfl)
             change wpList _ _ _ _ _ w5.drew
             obtain ⟨w6,hw6⟩:∃w6,w6=w5.drew:=⟨_,rfl⟩
             rw [←hw6]
             have HY6:ah (Kd.R kFl 43 w6 W.heap.size (fun _=>True) (.slice A9 M9 c9) xs1∧qZ W G n g7 c7 vs files w6∧Below W.heap.size W w6∧Kd.R kUs 33 w6 W.heap.size (fun _=>True) (.slice (some ad2) L cu) l):=⟨by
              rw [hw6]
              exact ⟨Kd.fU HY.out.1,HY.out.2.1.below (fE (Below.refl _ _)),fE HY.out.2.2.1,Kd.fU HY.out.2.2.2⟩⟩
             have H37:=put_any xs1 f1 uf A9 M9 c9 HY6.out.1 HY6.out.2.2.1 (by have h1:=hxl.out;have h2:=HI2.out;omega) hS.out.1
             clear hw6 HY fx0' hx2'
             go_wp2_with (go_at_call 37;go_loud (refine H37.mono ?_;rintro e w7 ⟨v7,ys,rfl,hs7,hl7,hr7,hb7,hk7,_⟩;have HP7:=z0 (And.intro hs7 (And.intro hl7 (And.intro hr7 (And.intro hb7 hk7))));clear hs7 hl7 hr7 hb7 hk7))
             go_roundg g2
             case measure=>omega
             case rel=>
              obtain ⟨q1,q2,q3,q4,q5⟩:=HP7.out
              exact ⟨j+1,ys,(by (try simp)),⟨by omega⟩,⟨by have:=hxl.out;omega⟩,⟨q3⟩,⟨HY6.out.2.1.keep (fun k t cs hc ht=>q5 k (aT hc) (Kd.AX HY6.out.1 hc (by omega)))⟩,⟨q4⟩,⟨Eh rfl HY6.out.2.2.2 (fun k cs hc=>q5 k (aT hc) (Kd.AX HY6.out.1 hc (by decide)))⟩,⟨by rw [HT2.out,(mF G f1 _ _).1 HNE.out HMEM.out,←List.append_assoc];exact Jt hS.out q1⟩⟩
           · have hr0:decide (r<0)=true:=decide_eq_true (by rcases Int.lt_or_le r 0 with h|h;exact h;exact absurd (hrm.1 h) hmem)
             have HMEM:=z0 hmem
             clear hmem hrm
             go_wp2_with (fail)
             go_quiet (first|(go_at_call 24;exact H24.out _)|(go_at_call 19;exact H19.out _))
             have HY:=z0 (And.intro (Kd.dS hR.out nq) (And.intro (hT.out.below (aY (Below.refl _ _) nq)) (And.intro (aY hB.out nq) (Kd.dS hU.out nq))))
             clear hx2 fx0 e1 H24 H19 hct' hr0
             generalize wr.drewN nq=w5 at *
             go_wp2_with (fail)
             go_roundg g2
             case measure=>omega
             case rel=>exact ⟨j+1,xs1,(by (try simp)),⟨by omega⟩,⟨by have:=hxl.out;omega⟩,⟨HY.out.1⟩,⟨HY.out.2.1⟩,⟨HY.out.2.2.1⟩,⟨HY.out.2.2.2⟩,⟨by rw [HT2.out,(mF G f1 _ _).2 (.inr HMEM.out)];exact hS.out⟩⟩
    |succ g1=>
     have hlt:decide ((i:Int)<(n:Int))=true:=decide_eq_true (by omega)
     have hii:(0:Int)≤(i:Int):=by omega
     have hin:i<n:=by omega
     obtain ⟨x,hx⟩:∃x,files[i]? =some x:=⟨_,List.getElem?_eq_getElem (by rw [←HN.out];omega)⟩
     obtain ⟨ad,hAd,hx0,hx1⟩:=oP (Kd.fC HFC.out hB.out) i hin x hx
     obtain rfl:=hAd
     have HTK:=z0 (take_snoc files i x hx)
     have HX:=z0 hx
     obtain ⟨f1,f2⟩:=x
     simp only at hx0 hx1
     have H10:=HALL.out wr hB.out f1
     obtain ⟨er,her⟩:∃er,er=F f1:=⟨_,rfl⟩
     obtain ⟨l,hl⟩:∃l,l=G f1:=⟨_,rfl⟩
     rw [←her,←hl] at H10
     have HFE:=z0 (And.intro her hl)
     clear hx her hl
     go_wp2_with (go_at_call 10;go_loud (refine H10.mono ?_;rintro e w6 ⟨v6,rfl,hr6,hb6,hl6⟩;obtain ⟨A6,c6,rfl⟩:=Kd.bF hr6;have hT6:=hT.out.below hb6;obtain ⟨hcz,hfz⟩:=Kd.sQ (none,0,0) hT6.row (i:Int) hii (by omega);rw [Int.toNat_natCast] at hcz hfz;have HQ6:=z0 (And.intro hT6 (And.intro (Kd.fZ hr6 hB.out.size) (ak hB.out hb6)));clear hr6 hb6 hT6 hl6))
     · rename_i he
       have he':er≠0:=by simpa using he
       go_ret2
       exact sF (HERR.out i _ er HX.out hF0.out HFE.out.1.symm he') (bC HQ6.out.2.2 (Kd.pI HQ6.out.1.row g7 rfl))
     · rename_i he
       have he':er=0:=by simpa using he
       go_roundg g1
       case measure=>omega
       case rel=>
        have hlen:(files.take i).length=i:=by rw [List.length_take,←HN.out];omega
        have h:=HQ6.out.1.put (by rw [hlen];exact hin) (f1,f2) (A6,l.length,c6) (by rw [←HFE.out.2];exact HQ6.out.2.1)
        rw [hlen] at h
        refine ⟨i+1,vs.set i (A6,l.length,c6),by (try simp),⟨by omega⟩,⟨by rw [HTK.out];exact h⟩,⟨bC HQ6.out.2.2 (Kd.pI HQ6.out.1.row g7 rfl)⟩,⟨fun f hf=> ?_⟩⟩
        rw [HTK.out] at hf
        rcases List.mem_append.1 hf with hf|hf
        · exact hF0.out f hf
        · obtain rfl:=List.mem_singleton.1 hf
          exact HFE.out.1.symm.trans he'
end
section
variable {W:World}{files:List Fl}{ps:List ByteArray}{A Ap:Option Addr}{c cp:Nat}
theorem Fg (H:NI W files ps A Ap c cp)(name:ByteArray):
 Calls Tryz.prog 4 #[.slice A files.length c,.string name,.slice Ap ps.length cp] W fun e w'=>e= .returned (.bool true)∧Below W.heap.size W w':=by
 obtain ⟨r,hr,hrf⟩:=Gi files ps H.fsz H.flen
 have H6:=OLaw.dY.calls (files.length+1) A c (files.map BD) Ap cp ps r W (by rw [List.length_map];exact NW H.fc) (by rw [List.length_map];exact H.fl) H.pc H.pl hr
 rw [List.length_map] at H6
 cases r with
 |true=>
  obtain ⟨n,hn⟩:∃n,n=files.length:=⟨_,rfl⟩
  obtain ⟨np,hnp⟩:∃np,np=ps.length:=⟨_,rfl⟩
  rw [←hn,←hnp] at H6
  rw [←hn,←hnp]
  clear H hr hrf hn hnp
  go_enter Tryz.func4,Tryz.ntmps4
  go_wp2_with (go_at_call 6;go_loud (refine H6.mono ?_;rintro e w5 ⟨rfl,hd5⟩;have HB5:=z0 hd5.below;clear hd5))
  go_ret
  exact ⟨rfl,HB5.out⟩
 |false=>
  obtain ⟨hf1,hf2,hf3⟩:=hrf rfl
  have HA:iG W files ps A Ap c cp:=⟨H.glob,H.fc,H.fl,H.pc,H.hA,hf2,hf1,hf3,H.psz⟩
  have H15:=z0 (fun (w:World) (hb:Below W.heap.size W w)=>I9 (HA.below hb) name)
  have H16:=z0 (fun (w:World) (hb:Below W.heap.size W w)=>DU (HA.below hb) H.pl name)
  have H17:=z0 (fun (w:World) (hb:Below W.heap.size W w)=>Ej (HA.below hb))
  have H18:=z0 (fun (w:World) (hb:Below W.heap.size W w)=>Ah (HA.below hb) H.pl)
  have H14:=z0 (fun (w:World) (hb:Below W.heap.size W w)=>Gq w (H.glob.below hb))
  obtain ⟨n,hn⟩:∃n,n=files.length:=⟨_,rfl⟩
  obtain ⟨np,hnp⟩:∃np,np=ps.length:=⟨_,rfl⟩
  rw [←hn,←hnp] at H6 H15 H16 H17 H18
  rw [←hn,←hnp]
  clear H hr hrf hn hnp HA hf1 hf2 hf3
  go_enter Tryz.func4,Tryz.ntmps4
  go_wp2_with (first|(go_at_call 6;go_loud (refine H6.mono ?_;rintro e w1 ⟨rfl,hd1⟩;have HB1:=z0 hd1.below;clear hd1))|(go_at_call 15;go_loud (refine (H15.out w1 HB1.out).mono ?_;rintro e w2 ⟨v2,e2,l2,rfl,hu2,hr2,hb2,hl2⟩;obtain ⟨A2,c2,q2⟩:=Kd.bF hr2;obtain ⟨N,hN⟩:∃N,N=l2.length:=⟨_,rfl⟩;have HN:=z0 hN;clear hN;rw [←HN.out] at q2;subst q2;have HU2:=z0 hu2;have HR2:=z0 hr2;have HL2:=z0 hl2;have HB2:=z0 (ak HB1.out hb2);clear hu2 hr2 hb2 hl2))|(go_at_call 16;go_loud (refine (H16.out w2 HB2.out).mono ?_;rintro e w3 ⟨v3,e3,l3,rfl,hu3,hr3,hb3⟩;obtain ⟨rfl,rfl⟩:=HU2.out.det hu3;obtain ⟨A3,c3,q3⟩:=Kd.bF hr3;rw [←HN.out] at q3;subst q3;have HR3:=z0 hr3;have HR23:=z0 (Kd.dn HR2.out hb3);have HB3:=z0 (ak HB2.out hb3);clear hu3 hr3 hb3))|(go_at_call 17;go_loud (refine (H17.out w3 HB3.out).mono ?_;rintro e w4 ⟨e4,A4,c4,zs,rfl,hb4,hc4,hle4,hz4,hx4⟩;obtain ⟨Z,hZ⟩:∃Z,Z=zs.length:=⟨_,rfl⟩;have HZ:=z0 hZ;rw [←hZ] at hc4 hle4 hz4 ⊢;have HC4:=z0 hc4;have HX4:=z0 hx4;have HR24:=z0 (Kd.dn HR23.out hb4);have HR34:=z0 (Kd.dn HR3.out hb4);have HB4:=z0 (ak HB3.out hb4);clear hb4 hc4 hx4 hZ))|(go_at_call 18;go_loud (refine (H18.out w4 HB4.out).mono ?_;rintro e w5 ⟨e5,A5,c5,ys,rfl,hb5,hc5,hle5,hz5,hx5⟩;obtain ⟨rfl,rfl⟩:=HX4.out.det hx5;rw [←HZ.out] at hc5 hle5 ⊢;have HC5:=z0 hc5;have HC45:=z0 (Kd.fC HC4.out hb5);have HR25:=z0 (Kd.dn HR24.out hb5);have HR35:=z0 (Kd.dn HR34.out hb5);have HB5:=z0 (ak HB4.out hb5);clear hb5 hc5 hx5 hz5))|(go_at_call 13;go_loud (refine (Ko l2 (by have:=HL2.out;omega) w5 A2 A3 N c2 c3 HN.out (by have h:=(Kd.aZ HR25.out).2.2;rwa [←HN.out] at h) (by have h:=(Kd.aZ HR25.out).2.1;exact h) (by have h:=(Kd.aZ HR35.out).2.2;rwa [←HN.out] at h) (by have h:=(Kd.aZ HR35.out).2.1;exact h)).mono ?_;rintro e w6 ⟨rfl,hb6⟩;have HC46:=z0 (Kd.fC HC45.out hb6);have HC56:=z0 (Kd.fC HC5.out hb6);have HB6:=z0 (ak HB5.out hb6);clear hb6)))
  go_loopg [15] Z (fun kq v15 wr=>∃(i:Nat),v15= .int .i64 i∧ah (kq+i=Z)∧ah (Below w6.heap.size w6 wr))
  case atStart=>exact ⟨0,rfl,⟨rfl⟩,⟨Below.refl _ _⟩⟩
  case round=>
   obtain ⟨i,rfl,hki,hB⟩:=hrel
   have hki':=hki.out
   have HBW:=z0 (ak HB6.out hB.out)
   cases gk with
   |zero=>
    have hlt:decide ((i:Int)<(Z:Int))=false:=decide_eq_false (by omega)
    go_wp2_with (go_at_call 14;go_loud (refine (H14.out wr HBW.out).mono ?_;rintro e w7 ⟨rfl,hb7⟩;have HB7:=z0 (ak HBW.out hb7);clear hb7))
    go_ret
    exact ⟨rfl,HB7.out⟩
   |succ g1=>
    have hlt:decide ((i:Int)<(Z:Int))=true:=decide_eq_true (by omega)
    have hin:i<Z:=by omega
    have hii:(0:Int)≤(i:Int):=by omega
    obtain ⟨x,hx⟩:∃x,zs[i]? =some x:=⟨_,List.getElem?_eq_getElem (by rw [←HZ.out];exact hin)⟩
    obtain ⟨ad4,hA4,a0,a1⟩:=oP (Kd.fC HC46.out hB.out) i hin x hx
    obtain ⟨ad5,hA5,b0,b1⟩:=oP (Kd.fC HC56.out hB.out) i hin x hx
    obtain rfl:=hA4
    obtain rfl:=hA5
    obtain ⟨x1,x2⟩:=x
    simp only at a0 a1 b0 b1
    have hne:∀w,(binOp BinOp.neq 43 (.agg #[.string x1,.string x2]) (.agg #[.string x1,.string x2])).run Tryz.prog w= .ok (.bool false) w:=fun w=>by have h:=Nk x1 x2 x1 x2 w;simpa using h
    have HX:=z0 hB.out
    clear hx hB HBW hki HR2 HR3 HR23 HR24 HR34 HR25 HR35 HC4 HC5 HC45 HC46 HC56 H6 H14 H15 H16 H17 H18
    go_wp2_with (fail)
    go_quiet (fail)
    have HY:=z0 (aY HX.out nq)
    clear a0 a1 b0 b1 hne HX
    generalize wr.drewN nq=w7 at *
    go_wp2_with (fail)
    go_roundg g1
    case measure=>omega
    case rel=>exact ⟨i+1,(by (try simp)),⟨by omega⟩,⟨HY.out⟩⟩
end
end Go.Proofs.YtolaiebjmhieiaaGreatDoor.OScan
end
