/- Parts of the proof of HeadUsers; no condition. -/
import Derived.Test.YtolaiebjmhieiaaGreatDoorM06
import Derived.Test.YtolaiebjmhieiaaGreatDoorM03
import Derived.Test.YtolaiebjmhieiaaGreatDoorM01
import Derived.Test.YtolaiebjmhieiaaGreatDoorProg
import Derived.Below
import Derived.Deep.Draws
import Derived.Deep.AppendLies
import Derived.Maps.AppendAt
import Derived.OwnWalk
import Derived.Laws.BytesArg
import Derived.Laws.MakeOwn
import Derived.Laws.OwnMore
import Derived.Deep.OwnRows
import Derived.Tactics
import Derived.Lib.ConvBytes
import Derived.Laws.Slices
import Derived.WalkKit
import Derived.KernelRfl
import Derived.RowKit3
import Derived.Deep.LoopGhost
import Derived.Deep.QuietTactic
import Derived.BigQuiet
import Derived.WideLaws
import Derived.Deep.DeepCutAuto
import Derived.Deep.CutBlock
import Derived.Deep.RegionHeld3
import Derived.Laws.Rows
import Derived.Lib.AppendStr
import Derived.ArgAppend
import Derived.Laws.IdiomCopy
import Derived.OrdersHeld
import Derived.Laws.BitsLemmas
import Derived.RowKit
set_option maxHeartbeats 8000000
set_option maxRecDepth 100000
set_option linter.unusedVariables false
set_option linter.unusedSimpArgs false
section
namespace Go.Proofs.YtolaiebjmhieiaaGreatDoor.OScan
open Go.RowKit YtolaiebjmhieiaaGreatDoorW.PrintWords YtolaiebjmhieiaaGreatDoorW.PrintLast YtolaiebjmhieiaaGreatDoorW.PrintMore
open Go.Sort (ltStr SWO PermIn swo_ltStr HoldsK flatK size_flatK get_flatK)
theorem tX (x y:ByteArray):uJ x y=true↔ltB x y:=by
 unfold uJ ltB
 rw [←ByteArray.toList_eq,←ByteArray.toList_eq]
 unfold Go.Sort.ltStr
 exact decide_eq_true_iff
theorem wQ (x y:Pr):ltOf sD x y=true↔ltP x y:=by
 rw [zy]
 simp only [Bool.or_eq_true,Bool.and_eq_true,Bool.not_eq_true',tX]
 unfold ltP
 constructor
 · rintro (h|⟨h1,h2⟩)
   · exact .inl h
   · rcases nT x.1 y.1 with h|h|h
     · exact .inl h
     · exact .inr ⟨h,h2⟩
     · rw [(tX _ _).2 h] at h1;cases h1
 · rintro (h|⟨h1,h2⟩)
   · exact .inl h
   · refine .inr ⟨?_,h2⟩
     rw [←Bool.not_eq_true,tX,h1]
     exact fun h=>mG _ _ h h
theorem Kv (x y:Pr)(h1:ltOf sD x y=false)(h2:ltOf sD y x=false):x=y:=by
 rcases nS x y with h|h|h
 · rw [(wQ _ _).2 h] at h1;cases h1
 · exact h
 · rw [(wQ _ _).2 h] at h2;cases h2
theorem DI (xs:List Pr):(xs.toArray.toList.mergeSort fun x y=> !(ltOf sD) y x).Perm xs∧(xs.toArray.toList.mergeSort fun x y=> !(ltOf sD) y x).Pairwise leP:=by
 have hle:∀a b:Pr,(!(ltOf sD) b a)=true↔leP a b:=fun a b=>by
  rw [Bool.not_eq_true',←Bool.not_eq_true,wQ]
  unfold leP
  constructor
  · intro h
    rcases nS a b with k|k|k
    · exact .inl k
    · exact .inr k
    · exact absurd k h
  · rintro (h|rfl)
    · exact tK _ _ h
    · exact fun h=>tK _ _ h h
 refine ⟨List.mergeSort_perm _ _,(List.pairwise_mergeSort (le:=fun x y:Pr=> !(ltOf sD) y x) (fun a b c h k=> ?_) (fun a b=> ?_) _).imp fun h=>(hle _ _).1 h⟩
 · rw [hle] at h k ⊢
   rcases h with h|rfl
   · rcases k with k|rfl
     · exact .inl (tJ h k)
     · exact .inl h
   · exact k
 · rw [Bool.or_eq_true,hle,hle]
   rcases nS a b with k|k|k
   · exact .inl (.inl k)
   · exact .inl (.inr k)
   · exact .inr (.inl k)
theorem Jy (xs:List Pr)(g C cap:Nat)(w:World)(hR:jM w g C xs)(hC:xs.length*2≤C)(hl:xs.length≤1000000):
 Calls Tryz.prog 32 #[.slice (some ⟨g,0,none⟩) xs.length cap,.func (.func 33) #[] #[]] w fun e w'=>e= .returned (.tuple #[])∧∃ys:List Pr,(ys.Perm xs∧ys.Pairwise leP)∧jM w' g C ys∧w.heap.size≤w'.heap.size∧(∀k,k<w.heap.size→k≠g→w'.heap[k]? =w.heap[k]?)∧w'.os=w.os∧w'.tape=w.tape∧w'.output=w.output:=by
 have hR':=hR
 obtain ⟨cells,h1,h2,h3⟩:=hR
 have eg:∀args w,(callFunc 33 args).run Tryz.prog w= .ok (.enter 33 args) w:=enters_of Tryz.func33 (by kernel_rfl) rfl
 have hH:HoldsK Az 2 w g 0 xs.toArray:=fun t ht=>by
  rw [size_flatK] at ht
  simp only [List.size_toArray] at ht
  refine ⟨?_,aj h1 _⟩
  rw [Nat.zero_add,get_flatK Az 2 xs.toArray t (by simpa using ht),cell_of_row w g _ _ _ _ h1]
  have hj:t / 2<xs.length:=by omega
  obtain ⟨q0,q1⟩:=h3 (t / 2) _ (List.getElem?_eq_getElem hj)
  have hx:xs.toArray[t / 2]! =xs[t / 2]:=by rw [getElem!_pos _ _ (by simpa using hj)];rfl
  rw [hx]
  rcases (show t % 2=0∨t % 2=1 by omega) with h|h
  · rw [h]
    rw [show t / 2*2=t by omega] at q0
    rw [q0];rfl
  · rw [h]
    rw [show t / 2*2+1=t by omega] at q1
    rw [q1];rfl
 have H:=AnyQ.slices_SortFunc_total Tryz.yG 2 Tryz.isAgg43 Tryz.sizeOf43 Az (fun _=>rfl) (fun x v hv=>by simp [Az] at hv;rcases hv with rfl|rfl<;>rfl) sD GU 33 #[] g 0 cap xs.toArray w eg (fun _ _ _ _ x y=>Ig x y _) hH (aT h1) (by simp;omega) Kv
 change Calls Tryz.prog 32 _ _ _ at H
 simp only [List.size_toArray] at H
 refine H.mono ?_
 rintro e w' ⟨rfl,m,os,rfl⟩
 obtain ⟨hperm,hsrt⟩:=DI xs
 generalize (xs.toArray.toList.mergeSort fun x y=> !(ltOf sD) y x)=dl at *
 obtain ⟨d',hd'⟩:∃d',d'=dl.toArray:=⟨_,rfl⟩
 have hdl:d'.toList=dl:=by rw [hd']
 rw [←hd']
 rw [←hdl] at hperm hsrt
 have hds:d'.size=xs.length:=by have:=hperm.length_eq;simpa using this
 obtain ⟨⟨cur',q1,q2,q3⟩,q4,q5,q6,q7,q8⟩:=EC id w g 43 cells h1 (flatK Az 2 d') m os (by rw [size_flatK,hds,h2];exact hC)
 refine ⟨rfl,d'.toList,⟨hperm,hsrt⟩,⟨cur',q1,by rw [q2];exact h2,fun j x hx=> ?_⟩,q5,q4,q6,q7,q8⟩
 have hj:j<d'.size:=by
  rcases Nat.lt_or_ge j d'.toList.length with h|h
  · simpa using h
  · rw [List.getElem?_eq_none h] at hx;cases hx
 have hxj:d'[j]! =x:=by
  rw [getElem!_pos d' j hj]
  rw [List.getElem?_eq_getElem (by simpa using hj)] at hx
  simpa using hx
 have key:∀t,t<d'.size*2→cur'[t]? =some ((Az d'[t / 2]!)[t % 2]!):=fun t ht=>by
  have h9:(cur'.toList.take (flatK Az 2 d').size)[t]? =((flatK Az 2 d').toList.map id)[t]? :=by rw [q3]
  rw [List.getElem?_take,if_pos (by rw [size_flatK];exact ht),List.map_id,Array.getElem?_toList,Array.getElem?_toList] at h9
  rw [h9,←get_flatK Az 2 d' t ht,getElem!_pos _ _ (by rw [size_flatK];exact ht)]
  exact Array.getElem?_eq_getElem _
 refine ⟨?_,?_⟩
 · rw [key _ (by omega),show j*2 / 2=j by omega,hxj,show j*2 % 2=0 by omega];rfl
 · rw [key _ (by omega),show (j*2+1) / 2=j by omega,hxj,show (j*2+1) % 2=1 by omega];rfl
theorem G5 (xs:List Pr)(base:Nat)(v:Value)(w:World)(h:KI w base v xs)(hl:xs.length≤1000000):
 Calls Tryz.prog 32 #[v,.func (.func 33) #[] #[]] w fun e w'=>e= .returned (.tuple #[])∧∃ys:List Pr,(ys.Perm xs∧ys.Pairwise leP)∧KI w' base v ys∧FrP w w' base:=by
 rcases h with ⟨rfl,rfl⟩|⟨g,cap,C,rfl,hb,hR,hC,hcap⟩
 · have H:=AnyF.slices_SortFunc_none Tryz.yG none 0 (.func (.func 33) #[] #[]) w
   change Calls Tryz.prog 32 _ _ _ at H
   refine H.mono ?_
   rintro e w' ⟨rfl,rfl⟩
   exact ⟨rfl,[],⟨.nil,.nil⟩,.inl ⟨rfl,rfl⟩,Nat.le_refl _,fun _ _ _=>rfl,rfl,rfl,rfl⟩
 · refine (Jy xs g C cap w hR hC hl).mono ?_
   rintro e w' ⟨rfl,ys,hp,h1,h2,h3,h4,h5,h6⟩
   have hlen:=hp.1.length_eq
   exact ⟨rfl,ys,hp,.inr ⟨g,cap,C,by rw [hlen],hb,h1,by omega,by omega⟩,h2,fun k hk1 hk2=>h3 k hk1 (by omega),h4,h5,h6⟩
theorem Dp (xs:List Pr)(base:Nat)(v:Value)(w:World)(h:KI w base v xs)(hl:xs.length≤1000000)(hs:xs.Pairwise leP):
 Calls Tryz.prog 36 #[v] w fun e w'=>∃(A:Option Addr) (c:Nat) (zs:List Pr),e= .returned (.slice A zs.length c)∧Kd.C kFl w' A zs.length zs∧zs.length≤c∧zs.length≤xs.length∧SU ltP xs zs∧FrP w w' base:=by
 rcases h with ⟨rfl,rfl⟩|⟨g,cap,C,rfl,hb,hR,hC,hcap⟩
 · refine (Dn w).mono ?_
   rintro e w' ⟨rfl,rfl⟩
   exact ⟨none,0,[],rfl,Kd.Jj _ _,Nat.le_refl _,Nat.le_refl _,zX .nil,Nat.le_refl _,fun _ _ _=>rfl,rfl,rfl,rfl⟩
 · refine (D8 xs g C cap w hR hC hcap hl hs).mono ?_
   rintro e w' ⟨zs,rfl,h1,h2,h3,ho⟩
   refine ⟨some ⟨g,0,none⟩,cap,zs,rfl,?_,by omega,h3,h2,by rw [ho.size];exact Nat.le_refl _,fun k hk1 hk2=>ho.block k (by omega),ho.os,ho.tape,ho.output⟩
   refine ⟨rfl,by omega,fun _=>⟨⟨g,0,none⟩,rfl,fun j p hj=>⟨[.string p.1,.string p.2],rfl,⟨[.string p.1],[.string p.2],rfl,rfl,rfl⟩,fun i u hu=> ?_⟩⟩⟩
   obtain ⟨q0,q1⟩:=h1.cell hj
   rw [add_plain]
   match i with
   |0=>obtain rfl:=Option.some.inj hu;exact q0
   |1=>obtain rfl:=Option.some.inj hu;exact q1
   |i+2=>simp at hu
end Go.Proofs.YtolaiebjmhieiaaGreatDoor.OScan
end
section
namespace Go.Proofs.YtolaiebjmhieiaaGreatDoor.OScan
open Go.RowKit YtolaiebjmhieiaaGreatDoorW.PrintWords YtolaiebjmhieiaaGreatDoorW.PrintLast YtolaiebjmhieiaaGreatDoorW.PrintMore
def sfx (s:ByteArray)(i:Int):List UInt8:=s.data.toList.drop i.toNat
def hd:List UInt8→Int
 |[]=>0
 |b::_=>b.toNat
def qp (b:UInt8):Bool:=isL b.toNat
def qw (b:UInt8):Bool:=isD b.toNat
theorem kH (s:ByteArray)(i:Int):(sfx s i).length=s.size-i.toNat:=by
 unfold sfx;rw [List.length_drop];rfl
theorem iE (s:ByteArray)(i:Int)(h:(s.size:Int)≤i):sfx s i=[]:=
 List.eq_nil_of_length_eq_zero (by rw [kH];omega)
theorem gX (s:ByteArray)(i:Int)(h0:0≤i)(h1:i<s.size):∃b:UInt8,sfx s i=b::sfx s (i+1)∧bt s i=b.toNat∧nx s i=b.toNat:=by
 have hl:i.toNat<s.data.toList.length:=by show i.toNat<s.size;omega
 refine ⟨s.data.toList[i.toNat],?_,?_,?_⟩
 · unfold sfx
   rw [show (i+1).toNat=i.toNat+1 by omega]
   exact List.drop_eq_getElem_cons hl
 · unfold bt
   rw [dif_pos (show i.toNat<s.size from hl)]
   rfl
 · unfold nx
   rw [if_neg (by omega)]
   unfold bt
   rw [dif_pos (show i.toNat<s.size from hl)]
   rfl
theorem zh (s:ByteArray)(i:Int)(h0:0≤i):nx s i=hd (sfx s i):=by
 by_cases h:i<s.size
 · obtain ⟨b,h1,_,h3⟩:=gX s i h0 h
   rw [h1,h3];rfl
 · rw [jX s i (by omega),iE s i (by omega)];rfl
theorem BK (s:ByteArray)(i:Int)(h0:0≤i):sfx s (i+1)=(sfx s i).tail:=by
 by_cases h:i<s.size
 · obtain ⟨b,h1,_⟩:=gX s i h0 h
   rw [h1];rfl
 · rw [iE s i (by omega),iE s (i+1) (by omega)];rfl
theorem mM (s:ByteArray)(i:Int)(n:Nat)(h0:0≤i):sfx s (i+n)=(sfx s i).drop n:=by
 unfold sfx
 rw [List.drop_drop,show (i+n).toNat=i.toNat+n by omega]
def iD (p:UInt8→Bool):List UInt8→Nat
 |[]=>0
 |b::l=>if p b=true then iD p l+1 else 0
def wdU (b:UInt8):Bool:=qp b||qw b
def mV:List UInt8→Nat
 |[]=>0
 |b::l=>if qp b=true then iD wdU l+1 else 0
def pq:UInt8→List UInt8→Nat
 |_,[]=>0
 |p,b::l=>if qp b=true∨qw b=true∨b=46∨((b=43∨b=45)∧(p=101∨p=69)) then pq b l+1 else 0
def jY:List UInt8→Nat
 |[]=>0
 |b::l=>if qw b=true∨(b=46∧isD (hd l)=true) then pq b l+1 else 0
def qM (q:UInt8):List UInt8→Option Nat
 |[]=>none
 |b::l=>if b=q then some 1 else if b=10 then none else if b=92 then (match l with|[]=>none|b2::l2=>if b2=10 then none else (qM q l2).map (· +2)) else (qM q l).map (· +1)
def iC (q:UInt8):List UInt8→Nat
 |[]=>0
 |b::l=>if b=q then (match qM q l with|none=>0|some n=>n+1) else 0
theorem gK (b:UInt8)(n:Nat)(hn:n<256):((b.toNat:Int)=(n:Int))↔b=UInt8.ofNat n:=by
 constructor
 · intro h
   have h':b.toNat=n:=by omega
   rw [←h',UInt8.ofNat_toNat]
 · rintro rfl
   rw [UInt8.toNat_ofNat']
   have:n % 2 ^ 8=n:=Nat.mod_eq_of_lt hn
   omega
section
variable (s:ByteArray)(at0:Int)(sg:List ByteArray)(c:Bool)
theorem wO (hs:s.size≤1000000)(h0:0≤at0)(h1:at0≤s.size):∀(d k:Nat) (x:Int),0≤x→at0+x≤s.size→(s.size:Int)-(at0+x)≤d→d<k→∀v,dD.l0 k x s at0 v sg c=some (x+iD wdU (sfx s (at0+x)),s,at0,v,c)
 |d,0,_,_,_,_,h=>by omega
 |d,k+1,x,hx0,hx1,hd,hk=>fun v=>by
  have hn:=gJ s at0 sg c hs h0 h1 x hx0 (by omega)
  simp only [dD.l0,hn,Option.bind_some,qQ,qR]
  by_cases hp:at0+x<s.size
  · obtain ⟨d',rfl⟩:∃d',d=d'+1:=⟨d-1,by omega⟩
    have ih:=wO hs h0 h1 d' k (x+1) (by omega) (by omega) (by omega) (by omega) v
    obtain ⟨b,e1,_,e3⟩:=gX s (at0+x) (by omega) hp
    rw [e1,e3,show at0+x+1=at0+(x+1) by omega]
    simp only [wr (a:=x+1) (by omega) (by omega)]
    rw [iD]
    by_cases q1:isL (b.toNat:Int)=true
    · rw [if_pos q1,ih,if_pos (show wdU b=true by unfold wdU qp;rw [q1];rfl)]
      simp only [Option.some.injEq,Prod.mk.injEq,and_true]
      omega
    · rw [if_neg q1]
      by_cases q2:isD (b.toNat:Int)=true
      · rw [if_pos q2,ih,if_pos (show wdU b=true by unfold wdU qw;rw [q2];simp)]
        simp only [Option.some.injEq,Prod.mk.injEq,and_true]
        omega
      · rw [if_neg q2,if_neg (show ¬wdU b=true by unfold wdU qp qw;simp [q1,q2])]
        simp
  · rw [jX s _ (by omega),CY,zC,iE s _ (by omega)]
    simp [iD]
theorem name_eq (hs:s.size≤1000000)(h0:0≤at0)(h1:at0≤s.size)(k:Nat)(hk:s.size<k):∀v,dD.f k s at0 v sg c=some ((mV (sfx s at0):Int),s,at0,v,c):=fun v=>by
 have hn:=gJ s at0 sg c hs h0 h1 0 (by omega) (by omega)
 simp only [dD.f,hn,Option.bind_some,qQ]
 have hl:=wO s at0 sg c hs h0 h1 s.size k 0 (by omega) (by omega) (by omega) hk v
 rw [Int.add_zero] at *
 by_cases hp:at0<s.size
 · obtain ⟨b,e1,_,e3⟩:=gX s at0 h0 hp
   rw [e3,hl,e1]
   rw [mV]
   by_cases q:isL (b.toNat:Int)=true
   · rw [if_pos q,if_pos (show qp b=true from q)]
     rw [iD,if_pos (show wdU b=true by unfold wdU qp;rw [q];rfl)]
     simp
   · rw [if_neg q,if_neg (show ¬qp b=true from q)]
     rfl
 · rw [jX s _ (by omega),CY,iE s _ (by omega)]
   rfl
theorem rU (hs:s.size≤1000000)(h0:0≤at0)(h1:at0≤s.size):∀(d k:Nat) (x:Int) (p:UInt8),1≤x→at0+x≤s.size→nx s (at0+(x-1))=p.toNat→(s.size:Int)-(at0+x)≤d→d<k→∀v,aN.l0 k x s at0 v sg c=some (x+pq p (sfx s (at0+x)),s,at0,v,c)
 |d,0,_,_,_,_,_,_,h=>by omega
 |d,k+1,x,p,hx0,hx1,hp0,hd,hk=>fun v=>by
  have hn:=gJ s at0 sg c hs h0 h1 x (by omega) (by omega)
  have hm:=gJ s at0 sg c hs h0 h1 (x-1) (by omega) (by omega)
  simp only [aN.l0,wr (a:=x-1) (by omega) (by omega),wr (a:=x+1) (by omega) (by omega),hn,hm,Option.bind_some,qQ,qR]
  rw [hp0]
  by_cases hp:at0+x<s.size
  · obtain ⟨d',rfl⟩:∃d',d=d'+1:=⟨d-1,by omega⟩
    obtain ⟨b,e1,_,e3⟩:=gX s (at0+x) (by omega) hp
    have ih:=rU hs h0 h1 d' k (x+1) b (by omega) (by omega) (by rw [show at0+(x+1-1)=at0+x by omega];exact e3) (by omega) (by omega) v
    rw [e1,e3,show at0+x+1=at0+(x+1) by omega]
    rw [pq,ih]
    have y46:((b.toNat:Int)=46)↔b=46:=gK b 46 (by decide)
    have y43:((b.toNat:Int)=43)↔b=43:=gK b 43 (by decide)
    have y45:((b.toNat:Int)=45)↔b=45:=gK b 45 (by decide)
    have y101:((p.toNat:Int)=101)↔p=101:=gK p 101 (by decide)
    have y69:((p.toNat:Int)=69)↔p=69:=gK p 69 (by decide)
    simp only [y46,y43,y45,y101,y69]
    have e:some (x+1+(pq b (sfx s (at0+(x+1))):Int),s,at0,v,c)=some (x+((pq b (sfx s (at0+(x+1)))+1:Nat):Int),s,at0,v,c):=by
     simp only [Option.some.injEq,Prod.mk.injEq,and_true];omega
    rw [e]
    unfold qp qw
    by_cases q1:isL (b.toNat:Int)=true
    · simp [q1]
    · by_cases q2:isD (b.toNat:Int)=true
      · simp [q1,q2]
      · by_cases q3:b=46
        · simp [q1,q2,q3]
        · by_cases q4:b=43
          · subst q4
            by_cases q6:p=101
            · simp [q1,q2,q6]
            · by_cases q7:p=69
              · simp [q1,q2,q6,q7]
              · simp [q6,q7,show isL 43=false by decide,show isD 43=false by decide]
          · by_cases q5:b=45
            · subst q5
              by_cases q6:p=101
              · simp [q1,q2,q6]
              · by_cases q7:p=69
                · simp [q1,q2,q6,q7]
                · simp [q6,q7,show isL 45=false by decide,show isD 45=false by decide]
            · simp [q1,q2,q3,q4,q5]
  · rw [jX s _ (by omega),CY,zC,iE s _ (by omega)]
    simp [pq]
theorem number_eq (hs:s.size≤1000000)(h0:0≤at0)(h1:at0≤s.size)(k:Nat)(hk:s.size+1<k):∀v,aN.f k s at0 v sg c=some ((jY (sfx s at0):Int),s,at0,v,c):=fun v=>by
 have hn:=gJ s at0 sg c hs h0 h1 0 (by omega) (by omega)
 have hm:=gJ s at0 sg c hs h0 h1 1 (by omega) (by omega)
 simp only [aN.f,hn,hm,Option.bind_some,qR]
 obtain ⟨k,rfl⟩:∃m,k=m+1:=⟨k-1,by omega⟩
 simp only [aN.j0]
 rw [Int.add_zero]
 by_cases hp:at0<s.size
 · obtain ⟨b,e1,_,e3⟩:=gX s at0 h0 hp
   have hl:=rU s at0 sg c hs h0 h1 s.size k 1 b (by omega) (by omega) (by rw [show at0+((1:Int)-1)=at0 by omega];exact e3) (by omega) (by omega) v
   rw [e3,hl,e1,zh s (at0+1) (by omega)]
   rw [jY]
   have y46:((b.toNat:Int)=46)↔b=46:=gK b 46 (by decide)
   simp only [y46]
   unfold qw
   have e:some (1+(pq b (sfx s (at0+1)):Int),s,at0,v,c)=some (((pq b (sfx s (at0+1))+1:Nat):Int),s,at0,v,c):=by
    simp only [Option.some.injEq,Prod.mk.injEq,and_true];omega
   rw [e]
   by_cases q1:isD (b.toNat:Int)=true
   · simp [q1]
   · by_cases q2:b=46
     · subst q2
       by_cases q3:isD (hd (sfx s (at0+1)))=true
       · simp [q1,q3]
       · simp [q3,show isD 46=false by decide]
     · simp [q1,q2]
 · rw [jX s _ (by omega),zC,iE s _ (by omega)]
   simp [jY]
end
theorem yY (a b:ByteArray):strings_HasPrefix.f a b=some (b.data.toList.isPrefixOf a.data.toList):=by
 simp only [strings_HasPrefix.f,stringslite_HasPrefix.f]
 by_cases h:(a.size:Int)≥(b.size:Int)
 · rw [if_pos h,if_pos (by omega),if_pos (by omega)]
   simp only [Option.bind_some,Option.some.injEq]
   rw [Lib.toList_data,Lib.toList_data,Int.toNat_natCast,Lib.Pa.extract_upto_list]
   have hl:b.size=b.data.toList.length:=rfl
   rw [hl,Bool.eq_iff_iff,List.isPrefixOf_iff_prefix,beq_iff_eq,List.prefix_iff_eq_take]
   exact ⟨fun h=>h.symm,fun h=>h.symm⟩
 · rw [if_neg h]
   simp only [Option.bind_some,Option.some.injEq]
   rw [eq_comm,Bool.eq_false_iff]
   intro hp
   have:=(List.isPrefixOf_iff_prefix.1 hp).length_le
   have h1:a.data.toList.length=a.size:=rfl
   have h2:b.data.toList.length=b.size:=rfl
   omega
def stepS (l:List UInt8)(n:Nat)(t:ByteArray):Nat:=if n<t.size∧t.data.toList.isPrefixOf l=true then t.size else n
def lS (sg:List ByteArray)(l:List UInt8):Nat:=sg.foldl (stepS l) 0
def kW:UInt8→UInt8→List UInt8→Nat × Bool
 |_,_,[]=>(0,false)
 |p2,p1,b::l=>if b=10∧¬(p1=92∨(p1=13∧p2=92)) then (0,p1==13) else ((kW p1 b l).1+1,(kW p1 b l).2)
def lq (c:Bool):List UInt8→Nat
 |[]=>0
 |b::l=>if c=true∧b=35 then 1+(kW 0 b l).1-(if (kW 0 b l).2=true then 1 else 0) else 0
section
variable (s:ByteArray)(at0:Int)(sg:List ByteArray)(c:Bool)
theorem oz (hs:s.size≤1000000)(h0:0≤at0)(h1:at0≤s.size)(q:UInt8):∀(d k:Nat) (x:Int),0≤x→x≤1500000→(s.size:Int)-(at0+x)≤d→d<k→∀v,bU.l0 k q.toNat x s at0 v sg c=some ((match qM q (sfx s (at0+x)) with|none=>0|some m=>x+m),s,at0,v,c)
 |d,0,_,_,_,_,h=>by omega
 |d,k+1,x,hx0,hx1,hd,hk=>fun v=>by
  have hn:=gJ s at0 sg c hs h0 h1 x hx0 (by omega)
  have hm:=gJ s at0 sg c hs h0 h1 (x+1) (by omega) (by omega)
  simp only [bU.l0,wr (a:=at0+x) (by omega) (by omega),wr (a:=x+1) (by omega) (by omega),wr (a:=x+1+1) (by omega) (by omega)]
  by_cases hp:at0+x<s.size
  · rw [if_pos hp]
    simp only [hn,hm,Option.bind_some]
    obtain ⟨d',rfl⟩:∃d',d=d'+1:=⟨d-1,by omega⟩
    obtain ⟨b,e1,_,e3⟩:=gX s (at0+x) (by omega) hp
    have ih1:=oz hs h0 h1 q d' k (x+1) (by omega) (by omega) (by omega) (by omega) v
    have ih2:=oz hs h0 h1 q d' k (x+1+1) (by omega) (by omega) (by omega) (by omega) v
    rw [e1,e3,qM.eq_def]
    dsimp only
    have yq:((b.toNat:Int)=(q.toNat:Int))↔b=q:=by
     constructor
     · intro h;exact UInt8.toNat_inj.1 (by omega)
     · rintro rfl;rfl
    have y10:((b.toNat:Int)=10)↔b=10:=gK b 10 (by decide)
    have y92:((b.toNat:Int)=92)↔b=92:=gK b 92 (by decide)
    simp only [yq,y10,y92]
    by_cases q1:b=q
    · rw [if_pos q1,if_pos q1]
      simp
    · rw [if_neg q1,if_neg q1]
      by_cases q2:b=10
      · rw [if_pos q2,if_pos q2]
      · rw [if_neg q2,if_neg q2]
        by_cases q3:b=92
        · rw [if_pos q3,if_pos q3]
          rw [show at0+x+1=at0+(x+1) by omega]
          by_cases hp2:at0+(x+1)<s.size
          · obtain ⟨b2,e4,_,e6⟩:=gX s (at0+(x+1)) (by omega) hp2
            have y10':((b2.toNat:Int)=10)↔b2=10:=gK b2 10 (by decide)
            rw [e4,e6]
            simp only [y10']
            by_cases q4:b2=10
            · rw [if_pos q4,if_pos q4]
            · rw [if_neg q4,if_neg q4,ih2,show at0+(x+1)+1=at0+(x+1+1) by omega]
              cases qM q (sfx s (at0+(x+1+1))) with
              |none=>rfl
              |some m=>
               show some (x+1+1+(m:Int),s,at0,v,c)=some (x+((m+2:Nat):Int),s,at0,v,c)
               rw [show x+1+1+(m:Int)=x+((m+2:Nat):Int) by omega]
          · rw [jX s _ (by omega),iE s _ (by omega),ih2,iE s (at0+(x+1+1)) (by omega)]
            simp [qM]
        · rw [if_neg q3,if_neg q3,ih1,show at0+x+1=at0+(x+1) by omega]
          cases qM q (sfx s (at0+(x+1))) with
          |none=>rfl
          |some m=>
           show some (x+1+(m:Int),s,at0,v,c)=some (x+((m+1:Nat):Int),s,at0,v,c)
           rw [show x+1+(m:Int)=x+((m+1:Nat):Int) by omega]
  · rw [if_neg hp,iE s _ (by omega)]
    rfl
theorem yV (hs:s.size≤1000000)(h0:0≤at0)(h1:at0≤s.size)(q:UInt8)(hq:q≠0)(k:Nat)(hk:s.size<k):∀v,bU.f k s at0 v sg c q.toNat=some ((iC q (sfx s at0):Int),s,at0,v,c):=fun v=>by
 have hn:=gJ s at0 sg c hs h0 h1 0 (by omega) (by omega)
 have hl:=oz s at0 sg c hs h0 h1 q s.size k 1 (by omega) (by omega) (by omega) hk v
 simp only [bU.f,hn,Option.bind_some,hl]
 rw [Int.add_zero]
 by_cases hp:at0<s.size
 · obtain ⟨b,e1,_,e3⟩:=gX s at0 h0 hp
   rw [e3,e1,iC]
   have yq:((b.toNat:Int)=(q.toNat:Int))↔b=q:=by
    constructor
    · intro h;exact UInt8.toNat_inj.1 (by omega)
    · rintro rfl;rfl
   simp only [yq]
   by_cases q1:b=q
   · rw [if_pos q1,if_pos q1]
     cases qM q (sfx s (at0+1)) with
     |none=>rfl
     |some m=>
      simp only [Option.some.injEq,Prod.mk.injEq,and_true]
      omega
   · rw [if_neg q1,if_neg q1];rfl
 · rw [jX s at0 (by omega),iE s at0 (by omega),if_neg (by
    intro h
    exact hq (UInt8.toNat_inj.1 (by have:(0:UInt8).toNat=0:=rfl;omega)))]
   rfl
theorem Ky (hs:s.size≤1000000)(h0:0≤at0)(h1:at0≤s.size)(k:Nat)(hk:s.size<k):∀v,gy.f k s at0 v sg c=some ((iC 39 (sfx s at0):Int),s,at0,v,c):=fun v=>by
 have:=yV s at0 sg c hs h0 h1 39 (by decide) k hk v
 have e:((39:UInt8).toNat:Int)=39:=rfl
 rw [e] at this
 simp only [gy.f,this,Option.bind_some]
theorem text_eq (hs:s.size≤1000000)(h0:0≤at0)(h1:at0≤s.size)(k:Nat)(hk:s.size<k):∀v,gu.f k s at0 v sg c=some ((iC 34 (sfx s at0):Int),s,at0,v,c):=fun v=>by
 have:=yV s at0 sg c hs h0 h1 34 (by decide) k hk v
 have e:((34:UInt8).toNat:Int)=34:=rfl
 rw [e] at this
 simp only [gu.f,this,Option.bind_some]
theorem sW (h0:0≤at0):(s.extract at0.toNat s.size).data.toList=sfx s at0:=by
 rw [Lib.extract_to_end];rfl
theorem vW (hs:s.size≤1000000)(h0:0≤at0)(h1:at0≤s.size)(hl:sg.length≤1000000):∀(d k n:Nat) (j:Int),0≤j→(sg.length:Int)-j≤d→d<k→∀v,dH.l0 k n sg (sg.length:Int) j s at0 v sg c=some ((((sg.drop j.toNat).foldl (stepS (sfx s at0)) n:Nat):Int),s,at0,v,c)
 |d,0,_,_,_,_,h=>by omega
 |d,k+1,n,j,hj,hd,hk=>fun v=>by
  simp only [dH.l0]
  by_cases hp:j<sg.length
  · obtain ⟨d',rfl⟩:∃d',d=d'+1:=⟨d-1,by omega⟩
    rw [if_pos hp,if_pos hj,if_pos hp]
    have hjl:j.toNat<sg.length:=by omega
    have hrd:jv ByteArray.empty sg j=sg[j.toNat]:=by
     show sg.getD j.toNat ByteArray.empty=_
     rw [List.getD_eq_getElem?_getD,List.getElem?_eq_getElem hjl];rfl
    rw [hrd,List.drop_eq_getElem_cons hjl,List.foldl_cons]
    generalize sg[j.toNat]=t
    have hr:=mO s at0 sg c hs h0 h1
    have e:(j+1).toNat=j.toNat+1:=by omega
    have ih:=fun n=>vW hs h0 h1 hl d' k n (j+1) (by omega) (by omega) (by omega) v
    simp only [hr,Option.bind_some,yY,sW s at0 h0,wr (a:=j+1) (by omega) (by omega)]
    rw [e] at ih
    simp only [ih]
    unfold stepS
    by_cases q1:n<t.size
    · rw [if_pos (by omega)]
      by_cases q2:t.data.toList.isPrefixOf (sfx s at0)=true
      · rw [if_pos q2,if_pos ⟨q1,q2⟩]
      · rw [if_neg q2,if_neg (fun h=>q2 h.2)]
    · rw [if_neg (by omega),if_neg (fun h=>q1 h.1)]
  · rw [if_neg hp,List.drop_eq_nil_of_le (by omega)]
    rfl
theorem sign_eq (hs:s.size≤1000000)(h0:0≤at0)(h1:at0≤s.size)(hl:sg.length≤1000000)(k:Nat)(hk:sg.length<k):∀v,dH.f k s at0 v sg c=some ((lS sg (sfx s at0):Int),s,at0,v,c):=fun v=>by
 have:=vW s at0 sg c hs h0 h1 hl sg.length k 0 0 (by omega) (by omega) hk v
 simpa [dH.f,lS] using this
end
theorem rG (p:UInt8→Bool):∀l:List UInt8,iD p l≤l.length
 |[]=>Nat.le_refl _
 |b::l=>by
  rw [iD]
  have:=rG p l
  split
  · simp only [List.length_cons];omega
  · exact Nat.zero_le _
theorem zY (p:UInt8→Bool):∀(l:List UInt8) (j:Nat) (b:UInt8),j<iD p l→l[j]? =some b→p b=true
 |[],j,b,h,_=>by simp [iD] at h
 |a::l,j,b,h,hb=>by
  rw [iD] at h
  split at h
  · rename_i ha
    cases j with
    |zero=>simp at hb;rw [←hb];exact ha
    |succ j=>exact zY p l j b (by omega) (by simpa using hb)
  · omega
theorem BI (p:UInt8→Bool):∀(l:List UInt8) (b:UInt8),l[iD p l]? =some b→p b=false
 |[],b,h=>by simp at h
 |a::l,b,h=>by
  rw [iD] at h
  split at h
  · exact BI p l b (by simpa using h)
  · rename_i ha
    simp at h
    rw [←h]
    simpa using ha
theorem pz (l:List UInt8)(b:UInt8):Lib.indexByte l b=if iD (fun x=>x !=b) l<l.length then (iD (fun x=>x !=b) l:Int) else-1:=by
 induction l with
 |nil=>rfl
 |cons a l ih=>
  unfold Lib.indexByte
  rw [iD,ih]
  have:=rG (fun x=>x !=b) l
  by_cases h:a=b
  · subst h
    simp
  · have h1:(a==b)=false:=beq_eq_false_iff_ne.mpr h
    have h2:(a !=b)=true:=by simp [h]
    rw [h1,if_neg (by decide),if_pos h2]
    by_cases h3:iD (fun x=>x !=b) l<l.length
    · rw [if_pos h3,if_neg (by simp),if_pos (by simp only [List.length_cons];omega)]
      omega
    · rw [if_neg h3,if_pos (by simp),if_neg (by simp only [List.length_cons];omega)]
theorem index_one (l:List UInt8)(b:UInt8):Lib.index l [b]=Lib.indexByte l b:=by
 induction l with
 |nil=>rfl
 |cons a l ih=>
  unfold Lib.index Lib.indexByte
  rw [ih]
  have:([b].isPrefixOf (a::l))=(a==b):=by
   simp only [List.isPrefixOf,Bool.and_true]
   exact Bool.beq_comm
  rw [this]
theorem contains_one (l:List UInt8)(b:UInt8):Lib.contains l [b]=l.contains b:=by
 unfold Lib.contains
 rw [index_one,Lib.contains_iff_indexByte]
theorem pO (b:ByteArray)(x:UInt8)(hb:b.size≤1000000):strings_HasSuffix.f b (⟨#[x]⟩:ByteArray)=some (b.data.toList.getLast? ==some x):=by
 simp only [strings_HasSuffix.f,stringslite_HasSuffix.f]
 have e1:((⟨#[x]⟩:ByteArray).size:Int)=1:=rfl
 rw [e1,wr (a:=(b.size:Int)-1) (by omega) (by omega)]
 by_cases hb1:(b.size:Int)≥1
 · rw [if_pos hb1,if_pos (by omega),if_pos (by omega)]
   simp only [Option.bind_some,Option.some.injEq]
   have hl:b.data.toList.length=b.size:=rfl
   rw [Lib.toList_data,Lib.extract_to_end,Lib.toList_data,show ((b.size:Int)-1).toNat=b.data.toList.length-1 by omega]
   obtain ⟨u,y,hu⟩:∃u y,b.data.toList=u++[y]:=by
    rcases List.eq_nil_or_concat b.data.toList with h|⟨u,y,h⟩
    · rw [h] at hl;simp at hl;omega
    · exact ⟨u,y,by rw [h,List.concat_eq_append]⟩
   rw [hu]
   have e2:(⟨#[x]⟩:ByteArray).data.toList=[x]:=rfl
   rw [e2]
   simp
 · rw [if_neg hb1]
   have h0:b.data.toList=[]:=List.eq_nil_of_length_eq_zero (by show b.size=0;omega)
   rw [h0]
   rfl
theorem Jp (b:ByteArray)(x:UInt8)(hb:b.size≤1000000):strings_TrimSuffix.f b (⟨#[x]⟩:ByteArray)=some (if b.data.toList.getLast? =some x then b.extract 0 (b.size-1) else b):=by
 have h:=pO b x hb
 simp only [strings_HasSuffix.f] at h
 have e1:((⟨#[x]⟩:ByteArray).size:Int)=1:=rfl
 obtain ⟨t,ht⟩:∃t,stringslite_HasSuffix.f b (⟨#[x]⟩:ByteArray)=some t:=by
  cases hh:stringslite_HasSuffix.f b (⟨#[x]⟩:ByteArray) with
  |none=>rw [hh] at h;simp at h
  |some t=>exact ⟨t,rfl⟩
 rw [ht] at h
 simp only [Option.bind_some,Option.some.injEq] at h
 simp only [strings_TrimSuffix.f,stringslite_TrimSuffix.f,ht,Option.bind_some,e1]
 rw [wr (a:=(b.size:Int)-1) (by omega) (by omega)]
 by_cases hl:b.data.toList.getLast? =some x
 · have:t=true:=by rw [h,hl];simp
   subst this
   have hs1:1≤b.size:=by
    cases hq:b.data.toList with
    |nil=>rw [hq] at hl;simp at hl
    |cons a l=>
     have:b.data.toList.length=b.size:=rfl
     rw [hq] at this
     simp only [List.length_cons] at this
     omega
   rw [if_pos rfl,if_pos (by omega),if_pos (by omega),if_pos hl]
   simp only [Option.bind_some,Option.some.injEq]
   rw [show ((b.size:Int)-1).toNat=b.size-1 by omega]
 · have:t=false:=by rw [h];simpa using hl
   subst this
   rw [if_neg (by decide),if_neg hl]
   rfl
def pr1 (L:List UInt8)(e:Nat):UInt8:=if e=0 then 0 else L.getD (e-1) 0
def pr2 (L:List UInt8)(e:Nat):UInt8:=if e≤1 then 0 else L.getD (e-2) 0
def jG (L:List UInt8)(e:Nat):Nat × Bool:=kW (pr2 L e) (pr1 L e) (L.drop e)
theorem Ie (L:List UInt8)(e:Nat):pr1 L (e+1)=L.getD e 0:=by unfold pr1;rw [if_neg (by omega)];rfl
theorem Ic (L:List UInt8)(e:Nat):pr2 L (e+1)=pr1 L e:=by
 unfold pr2 pr1
 by_cases h:e=0
 · rw [if_pos (by omega),if_pos h]
 · rw [if_neg (by omega),if_neg h];rfl
theorem lG (L:List UInt8)(e:Nat)(b:UInt8)(h:L[e]? =some b):jG L e=if b=10∧¬(pr1 L e=92∨(pr1 L e=13∧pr2 L e=92)) then (0,pr1 L e==13) else ((jG L (e+1)).1+1,(jG L (e+1)).2):=by
 have hl:=(List.getElem?_eq_some_iff.1 h).1
 have he:L.getD e 0=b:=by rw [List.getD_eq_getElem?_getD,h];rfl
 unfold jG
 rw [List.drop_eq_getElem_cons hl,Ie,Ic,he,kW]
 have:L[e]=b:=(List.getElem?_eq_some_iff.1 h).2
 rw [this]
theorem tV (L:List UInt8)(e:Nat)(h:L.length≤e):jG L e=(0,false):=by
 unfold jG
 rw [List.drop_eq_nil_of_le h,kW]
theorem wU (L:List UInt8):∀(n e:Nat),e+n≤L.length→(∀j,j<n→L[e+j]?≠some 10)→jG L e=((jG L (e+n)).1+n,(jG L (e+n)).2)
 |0,e,_,_=>rfl
 |n+1,e,hl,hn=>by
  obtain ⟨b,hb⟩:∃b,L[e]? =some b:=⟨_,List.getElem?_eq_getElem (by omega)⟩
  have hb10:b≠10:=fun h=>hn 0 (by omega) (by rw [Nat.add_zero,hb,h])
  rw [lG L e b hb,if_neg (fun h=>hb10 h.1),wU L n (e+1) (by omega) (fun j hj=>by have:=hn (j+1) (by omega);rwa [show e+(j+1)=e+1+j by omega] at this)]
  rw [show e+1+n=e+(n+1) by omega]
  rfl
theorem Ir (L:List UInt8)(e:Nat)(h:(jG L e).2=true):1≤e+(jG L e).1:=by
 by_cases he:e=0
 · subst he
   by_cases h1:(jG L 0).1=0
   · exfalso
     cases hb:L[0]? with
     |none=>rw [tV L 0 (by simpa using hb)] at h;cases h
     |some b=>
      rw [lG L 0 b hb] at h h1
      split at h
      · simp [pr1] at h
      · rename_i hn
        rw [if_neg hn] at h1
        simp at h1
   · omega
 · omega
section
variable (s:ByteArray)(at0:Int)(sg:List ByteArray)(c:Bool)
theorem sV (L:List UInt8)(e:Nat)(h0:1≤e)(h1:e≤L.length):(L.take e).getLast? =some (L.getD (e-1) 0):=by
 rw [List.getLast?_eq_getElem?,List.length_take,Nat.min_eq_left h1,List.getElem?_take,if_pos (by omega),List.getD_eq_getElem?_getD,List.getElem?_eq_getElem (by omega)]
 rfl
theorem wS (R:ByteArray)(hs:R.size≤1000000)(h35:R.data.toList[0]? =some 35):∀(d k e:Nat),e≤R.size→R.size-e≤d→d<k→∀v,bI.l0 k R (e:Int) s at0 v sg c=some ((e:Int)+((jG R.data.toList e).1:Int)-(if (jG R.data.toList e).2=true then 1 else 0),s,at0,v,c)
 |d,0,_,_,_,h=>by omega
 |d,k+1,e,he,hd,hk=>fun v=>by
  have hL:R.data.toList.length=R.size:=rfl
  simp only [bI.l0,strings_IndexByte.f]
  rw [if_pos (by omega),if_pos (by omega),Int.toNat_natCast,Lib.extract_to_end,show (10:Int).toNat.toUInt8=(10:UInt8) from rfl,pz]
  simp only [Option.bind_some]
  generalize hn:iD (fun x=>x !=10) (R.data.toList.drop e)=n
  have hdl:(R.data.toList.drop e).length=R.size-e:=by rw [List.length_drop];rfl
  have hle:=rG (fun x=>x !=10) (R.data.toList.drop e)
  rw [hn,hdl] at hle
  have hno:∀j,j<n→R.data.toList[e+j]?≠some 10:=fun j hj h=>by
   have:=zY (fun x=>x !=10) (R.data.toList.drop e) j 10 (by rw [hn];exact hj) (by rw [List.getElem?_drop];exact h)
   simp at this
  have hsk:=wU R.data.toList n e (by omega) hno
  rw [hdl]
  by_cases hlt:n<R.size-e
  · rw [if_pos hlt,if_neg (by omega),wr (a:=(e:Int)+n) (by omega) (by omega),if_pos (by omega),if_pos (by omega)]
    obtain ⟨b,hb⟩:∃b,R.data.toList[e+n]? =some b:=⟨_,List.getElem?_eq_getElem (by omega)⟩
    have hb10:b=10:=by
     have:=BI (fun x=>x !=10) (R.data.toList.drop e) b (by rw [hn,List.getElem?_drop];exact hb)
     simpa using this
    subst hb10
    have he1:1≤e+n:=by
     by_cases h0:e+n=0
     · rw [h0,h35] at hb;cases hb
     · omega
    have hst:=lG R.data.toList (e+n) 10 hb
    have hX:(R.extract 0 ((e:Int)+n).toNat).data.toList=R.data.toList.take (e+n):=by
     rw [show ((e:Int)+n).toNat=e+n by omega,Lib.Pa.extract_upto_list]
    have hXs:(R.extract 0 ((e:Int)+n).toNat).size=e+n:=by rw [ByteArray.size_extract];omega
    generalize R.extract 0 ((e:Int)+n).toNat=X at *
    have hlast:X.data.toList.getLast? =some (pr1 R.data.toList (e+n)):=by
     rw [hX,sV _ _ he1 (by omega)]
     unfold pr1
     rw [if_neg (by omega)]
    rw [Jp X 13 (by omega),pO X 92 (by omega)]
    simp only [Option.bind_some,hlast,wr (a:=(e:Int)+n+1) (by omega) (by omega)]
    have ih:=wS R hs h35 (d-1) k (e+n+1) (by omega) (by omega) (by omega) v
    rw [show ((e+n+1:Nat):Int)=(e:Int)+n+1 by omega] at ih
    rw [ih,hsk]
    generalize jG R.data.toList (e+n+1)=r at *
    have fin:some ((e:Int)+n+1+(r.1:Int)-(if r.2=true then 1 else 0),s,at0,v,c)=some ((e:Int)+((r.1+1+n:Nat):Int)-(if r.2=true then 1 else 0),s,at0,v,c):=by
     rw [show (e:Int)+n+1+(r.1:Int)=(e:Int)+((r.1+1+n:Nat):Int) by omega]
    by_cases q1:pr1 R.data.toList (e+n)=92
    · rw [if_neg (by rw [q1];exact fun h=>h.2 (.inl rfl))] at hst
      rw [if_pos (by rw [q1];decide),hst]
      exact fin
    · rw [if_neg (by simpa using q1)]
      by_cases q2:pr1 R.data.toList (e+n)=13
      · rw [if_pos (by rw [q2]),pO _ 92 (by rw [ByteArray.size_extract];omega)]
        simp only [Option.bind_some]
        have hY:(X.extract 0 (X.size-1)).data.toList=R.data.toList.take (e+n-1):=by
         rw [Lib.Pa.extract_upto_list,hX,hXs,List.take_take,Nat.min_eq_left (by omega)]
        have hYs:(X.extract 0 (X.size-1)).size=e+n-1:=by rw [ByteArray.size_extract];omega
        rw [hY]
        by_cases q3:pr2 R.data.toList (e+n)=92
        · have h2:2≤e+n:=by
           by_cases h:e+n≤1
           · unfold pr2 at q3;rw [if_pos h] at q3;cases q3
           · omega
          have:(R.data.toList.take (e+n-1)).getLast? =some 92:=by
           rw [sV _ _ (by omega) (by omega)]
           unfold pr2 at q3
           rw [if_neg (by omega)] at q3
           rw [show e+n-1-1=e+n-2 by omega,q3]
          rw [if_neg (by rw [q2,q3];decide)] at hst
          rw [this,if_pos (by decide),hst]
          exact fin
        · have:¬((R.data.toList.take (e+n-1)).getLast? ==some 92)=true:=by
           by_cases h2:2≤e+n
           · rw [sV _ _ (by omega) (by omega)]
             unfold pr2 at q3
             rw [if_neg (by omega)] at q3
             rw [show e+n-1-1=e+n-2 by omega]
             simpa using q3
           · rw [show e+n-1=0 by omega]
             simp
          rw [if_pos ⟨rfl,fun h=>h.elim q1 fun h=>q3 h.2⟩,q2] at hst
          rw [if_neg this,hst,hYs]
          simp only [Option.some.injEq,Prod.mk.injEq,and_true]
          rw [if_pos (by decide)]
          omega
      · rw [if_neg (by simpa using q2),pO X 92 (by omega)]
        simp only [Option.bind_some,hlast]
        rw [if_pos ⟨rfl,fun h=>h.elim q1 fun h=>q2 h.1⟩] at hst
        rw [if_neg (by simpa using q1),hst,hXs]
        simp only [Option.some.injEq,Prod.mk.injEq,and_true]
        rw [if_neg (by simpa using q2)]
        omega
  · rw [if_neg hlt,if_pos (by decide),hsk,tV _ _ (by omega)]
    simp only [Option.some.injEq,Prod.mk.injEq,and_true]
    rw [if_neg (by decide)]
    omega
theorem JR (hs:s.size≤1000000)(h0:0≤at0)(h1:at0≤s.size)(k:Nat)(hk:s.size+1<k):∀v,bI.f k s at0 v sg c=some ((lq c (sfx s at0):Int),s,at0,v,c):=fun v=>by
 have hn:=gJ s at0 sg c hs h0 h1 0 (by omega) (by omega)
 obtain ⟨k,rfl⟩:∃m,k=m+1:=⟨k-1,by omega⟩
 have hr:=mO s at0 sg c hs h0 h1
 simp only [bI.f,hn,Option.bind_some,bI.j0,hr]
 rw [Int.add_zero]
 cases c with
 |false=>
  rw [if_neg (by decide),if_pos trivial]
  cases sfx s at0 with
  |nil=>rfl
  |cons b l=>rw [lq,if_neg (by simp)];rfl
 |true=>
  rw [if_pos rfl]
  by_cases hp:at0<s.size
  · obtain ⟨b,e1,_,e3⟩:=gX s at0 h0 hp
    have y35:((b.toNat:Int)=35)↔b=35:=gK b 35 (by decide)
    rw [e3]
    by_cases q:b=35
    · have hR:(s.extract at0.toNat s.size).data.toList=sfx s at0:=sW s at0 h0
      have hRs:(s.extract at0.toNat s.size).size≤s.size:=by rw [ByteArray.size_extract];omega
      have hl:=wS s at0 sg true (s.extract at0.toNat s.size) (by omega) (by rw [hR,e1,q];rfl) s.size k 0 (Nat.zero_le _) (by omega) (by omega) v
      have hcr:=Ir (s.extract at0.toNat s.size).data.toList 0
      have e0:((0:Nat):Int)=0:=rfl
      rw [e0] at hl
      rw [if_neg (by simp [q]),hl]
      rw [hR,e1,q] at hcr ⊢
      have hst:=lG (35::sfx s (at0+1)) 0 35 rfl
      rw [if_neg (fun h=>absurd h.1 (by decide))] at hst
      have hLL:lq true (35::sfx s (at0+1))=1+(kW 0 35 (sfx s (at0+1))).1-(if (kW 0 35 (sfx s (at0+1))).2=true then 1 else 0):=by
       rw [lq]
       simp
      rw [hLL]
      have hA:jG (35::sfx s (at0+1)) (0+1)=kW 0 35 (sfx s (at0+1)):=rfl
      rw [hst,hA] at hcr ⊢
      generalize kW 0 35 (sfx s (at0+1))=r at *
      simp only [Option.some.injEq,Prod.mk.injEq,and_true]
      by_cases h2:r.2=true
      · rw [if_pos h2,if_pos h2];omega
      · rw [if_neg h2,if_neg h2];omega
    · rw [if_pos (by simpa using fun h=>q (y35.1 h)),e1,lq,if_neg (fun h=>q h.2)]
      rfl
  · rw [jX s _ (by omega),iE s _ (by omega),if_pos (by decide)]
    rfl
end
def yh (l:List UInt8):Nat:=if Lib.index (l.drop 2) [42,47]<0 then l.length else (Lib.index (l.drop 2) [42,47]).toNat+4
def qX (c:Bool)(l:List UInt8):Option (Nat × Bool):=
 if [47,47].isPrefixOf l=true then some (iD (fun x=>x !=10) l,c)
 else if [47,42].isPrefixOf l=true then some (yh l,c||(l.take (yh l)).contains 10) else none
theorem I7 (l:List UInt8)(h:[47,42].isPrefixOf l=true):yh l≤l.length∧2≤yh l:=by
 have hl:=(List.isPrefixOf_iff_prefix.1 h).length_le
 simp only [List.length_cons,List.length_nil] at hl
 unfold yh
 have:=index_room (l.drop 2) [42,47]
 simp only [List.length_cons,List.length_nil,List.length_drop] at this
 split
 · omega
 · have:=this (by omega);omega
section
variable (s:ByteArray)(at0:Int)(sg:List ByteArray)(c:Bool)
theorem D9 (hs:s.size≤1000000)(h0:0≤at0)(h1:at0≤s.size):∀v,dU.f s at0 v sg c=some (match qX c (sfx s at0) with|none=>(false,s,at0,v,c)|some r=>(true,s,at0+r.1,v,r.2)):=fun v=>by
 have hr:=mO s at0 sg c hs h0 h1
 have hRl:=sW s at0 h0
 have hsz:(s.extract at0.toNat s.size).size=s.size-at0.toNat:=by rw [ByteArray.size_extract];omega
 have hll:=kH s at0
 simp only [dU.f,hr,Option.bind_some,yY]
 generalize s.extract at0.toNat s.size=R at *
 rw [hRl]
 unfold qX
 generalize hl:sfx s at0=l at *
 have hlR:l.length=R.size:=by rw [hsz,hll]
 by_cases q1:[47,47].isPrefixOf l=true
 · rw [if_pos q1,if_pos q1]
   simp only [strings_IndexByte.f,Option.bind_some,hRl,show (10:Int).toNat.toUInt8=(10:UInt8) from rfl,pz]
   have hle:=rG (fun x=>x !=10) l
   by_cases q2:iD (fun x=>x !=10) l<l.length
   · rw [if_pos q2,if_neg (by omega),wr (by omega) (by omega)]
   · rw [if_neg q2,if_pos (by decide),wr (by omega) (by omega),show iD (fun x=>x !=10) l=l.length by omega,hlR]
 · rw [if_neg q1,if_neg q1]
   by_cases q2:[47,42].isPrefixOf l=true
   · rw [if_pos q2,if_pos q2]
     have hle:=(List.isPrefixOf_iff_prefix.1 q2).length_le
     simp only [List.length_cons,List.length_nil] at hle
     obtain ⟨bl,b2⟩:=I7 l q2
     have hx:(R.extract 2 R.size).data.toList=l.drop 2:=by rw [Lib.extract_to_end,hRl]
     have hxs:(R.extract 2 R.size).size<4294967281:=by rw [ByteArray.size_extract];omega
     have e2:(⟨#[42,47]⟩:ByteArray).data.toList=[42,47]:=rfl
     have e10:(⟨#[10]⟩:ByteArray).data.toList=[10]:=rfl
     rw [if_pos (by omega)]
     simp only [strings_Index.f,if_pos hxs,Option.bind_some,hx,e2]
     have hg:=Lib.index_ge (l.drop 2) [42,47]
     have hroom:=index_room (l.drop 2) [42,47]
     simp only [List.length_cons,List.length_nil,List.length_drop] at hroom
     have hbe:yh l=if Lib.index (l.drop 2) [42,47]<0 then l.length else (Lib.index (l.drop 2) [42,47]).toNat+4:=rfl
     generalize Lib.index (l.drop 2) [42,47]=t at *
     have ht:t<0∨t≤R.size:=by
      by_cases h:t<0
      · exact .inl h
      · exact .inr (by have:=hroom (by omega);omega)
     rw [wr (a:=t+4) (by omega) (by omega)]
     have hct:∀b:ByteArray,b.size≤1000000→strings_Contains.f b ⟨#[10]⟩=some (b.data.toList.contains 10):=fun b hb=>by
      unfold strings_Contains.f
      rw [if_pos (by omega),e10,contains_one]
     by_cases q3:t<0
     · rw [if_pos q3] at hbe
       rw [if_pos (by omega),hbe,List.take_of_length_le (Nat.le_refl _),wr (a:=at0+(R.size:Int)) (by omega) (by omega)]
       cases c with
       |true=>simp [hlR]
       |false=>
        rw [if_neg (by decide),if_pos (by omega),if_pos (by omega),hct R (by omega)]
        simp [hRl,hlR]
     · rw [if_neg q3] at hbe
       rw [if_neg (by omega),wr (a:=at0+(t+4)) (by omega) (by omega),show at0+(t+4)=at0+(yh l:Int) by omega]
       cases c with
       |true=>simp
       |false=>
        have hr2:=hroom (by omega)
        have hY:(R.extract 0 (t+4).toNat).data.toList=l.take (yh l):=by rw [Lib.Pa.extract_upto_list,hRl,show (t+4).toNat=yh l by omega]
        rw [if_neg (by decide),if_pos (by omega),if_pos (by omega),hct _ (by rw [ByteArray.size_extract];omega),hY]
        simp
   · rw [if_neg q2,if_neg q2]
end
def iL:List UInt8→Bool→Option (Nat × Bool)
 |[],_=>none
 |b::l,c=>if b=10 then some (1,true) else if b=32∨b=9 then some (1,c) else if b=11∨b=12∨b=13 then some (1,false)
  else if b=92∧hd l=10 then some (2,true) else if b=92∧hd l=13∧hd l.tail=10 then some (3,true) else qX c (b::l)
def iW:Nat→List UInt8→Bool→Nat × Bool
 |0,_,c=>(0,c)
 |f+1,l,c=>match iL l c with
  |none=>(0,c)
  |some r=>(r.1+(iW f (l.drop r.1) r.2).1,(iW f (l.drop r.1) r.2).2)
theorem Ku {c:Bool}{l:List UInt8}{r:Nat × Bool}(h:qX c l=some r):1≤r.1∧r.1≤l.length:=by
 unfold qX at h
 split at h
 · rename_i hp
   obtain rfl:=Option.some.inj h
   obtain ⟨t,ht⟩:=List.isPrefixOf_iff_prefix.1 hp
   refine ⟨?_,rG _ _⟩
   rw [←ht]
   show 1≤iD (fun x=>x !=10) (47::47::t)
   rw [iD,if_pos (by decide)]
   omega
 · split at h
   · rename_i hp
     obtain rfl:=Option.some.inj h
     obtain ⟨h1,h2⟩:=I7 l hp
     exact ⟨by simp only;omega,h1⟩
   · cases h
theorem nO {c:Bool}{l:List UInt8}{r:Nat × Bool}(h:iL l c=some r):1≤r.1∧r.1≤l.length:=by
 cases l with
 |nil=>cases h
 |cons b l=>
  rw [iL] at h
  have hh:∀n:Int,n≠0→hd l=n→1≤l.length:=fun n hn h=>by
   cases l with
   |nil=>exact absurd h.symm hn
   |cons a l=>simp
  have hh2:∀n:Int,n≠0→hd l.tail=n→2≤l.length:=fun n hn h=>by
   cases l with
   |nil=>exact absurd h.symm hn
   |cons a l=>
    cases l with
    |nil=>exact absurd h.symm hn
    |cons a l=>simp
  repeat' split at h
  · obtain rfl:=Option.some.inj h;simp
  · obtain rfl:=Option.some.inj h;simp
  · obtain rfl:=Option.some.inj h;simp
  · rename_i hq
    obtain rfl:=Option.some.inj h
    have:=hh 10 (by decide) hq.2
    simp only [List.length_cons];omega
  · rename_i hq
    obtain rfl:=Option.some.inj h
    have:=hh2 10 (by decide) hq.2.2
    simp only [List.length_cons];omega
  · exact Ku h
theorem EW:∀(f:Nat) (l:List UInt8) (c:Bool),(iW f l c).1≤l.length
 |0,_,_=>Nat.zero_le _
 |f+1,l,c=>by
  rw [iW]
  cases h:iL l c with
  |none=>exact Nat.zero_le _
  |some r=>
   obtain ⟨h1,h2⟩:=nO h
   have:=EW f (l.drop r.1) r.2
   rw [List.length_drop] at this
   simp only
   omega
theorem sJ (s:ByteArray)(sg:List ByteArray)(hs:s.size≤1000000)(from0:Int)(hf:0≤from0):∀(d:Nat) (at0:Int) (c:Bool) (k:Nat),from0≤at0→at0≤s.size→(s.size:Int)-at0≤d→5*d+5<k→∀v,au.l0 k from0 s at0 v sg c=some (s.extract from0.toNat (at0+(iW d (sfx s at0) c).1).toNat,s,at0+(iW d (sfx s at0) c).1,v,(iW d (sfx s at0) c).2)
 |d,at0,c,0,_,_,_,h=>by omega
 |d,at0,c,k+1,h0,h1,hd_,hk=>fun v=>by
  by_cases hlt:at0<s.size
  · obtain ⟨d,rfl⟩:∃e,d=e+1:=⟨d-1,by omega⟩
    obtain ⟨k,rfl⟩:∃m,k=m+4:=⟨k-4,by omega⟩
    have ih:∀(n:Nat) (c1:Bool) (k:Nat),1≤n→at0+n≤s.size→5*d+5<k→au.l0 k from0 s (at0+n) v sg c1=some (s.extract from0.toNat (at0+((n+(iW d ((sfx s at0).drop n) c1).1:Nat):Int)).toNat,s,at0+((n+(iW d ((sfx s at0).drop n) c1).1:Nat):Int),v,(iW d ((sfx s at0).drop n) c1).2):=fun n c1 k hn hn2 hk=>by
     have:=sJ s sg hs from0 hf d (at0+n) c1 k (by omega) (by omega) (by omega) hk v
     rw [mM s at0 n (by omega)] at this
     rw [this]
     rw [show at0+(n:Int)+((iW d ((sfx s at0).drop n) c1).1:Int)=at0+((n+(iW d ((sfx s at0).drop n) c1).1:Nat):Int) by omega]
    have hn1:=gJ s at0 sg c hs (by omega) h1 1 (by omega) (by omega)
    have hn2:=gJ s at0 sg c hs (by omega) h1 2 (by omega) (by omega)
    have w1:=wr (a:=at0+1) (by omega) (by omega)
    have w2:=wr (a:=at0+2) (by omega) (by omega)
    have w3:=wr (a:=at0+3) (by omega) (by omega)
    have hcm:=D9 s at0 sg c hs (by omega) h1
    obtain ⟨b,e1,e2,e3⟩:=gX s at0 (by omega) hlt
    have hx1:nx s (at0+1)=hd (sfx s (at0+1)):=zh s _ (by omega)
    have hx2:nx s (at0+2)=hd (sfx s (at0+1)).tail:=by
     rw [zh s _ (by omega),show at0+2=at0+1+1 by omega,BK s _ (by omega)]
    have hlen:=kH s at0
    have hpl:∀r,iL (sfx s at0) c=some r→1≤r.1∧r.1≤(sfx s at0).length:=fun r hr=>nO hr
    have fin:∀r,iL (sfx s at0) c=some r→∀k,5*d+5<k→au.l0 k from0 s (at0+(r.1:Int)) v sg r.2=some (s.extract from0.toNat (at0+(iW (d+1) (sfx s at0) c).1).toNat,s,at0+(iW (d+1) (sfx s at0) c).1,v,(iW (d+1) (sfx s at0) c).2):=fun r hr k hk=>by
     obtain ⟨p1,p2⟩:=hpl r hr
     rw [ih r.1 r.2 k p1 (by omega) hk,iW,hr]
    rw [e1] at fin hcm
    rw [e1,au.l0,if_pos hlt,if_pos (by omega),e2,w1]
    have y10:((b.toNat:Int)=10)↔b=10:=gK b 10 (by decide)
    have y32:((b.toNat:Int)=32)↔b=32:=gK b 32 (by decide)
    have y9:((b.toNat:Int)=9)↔b=9:=gK b 9 (by decide)
    have y11:((b.toNat:Int)=11)↔b=11:=gK b 11 (by decide)
    have y12:((b.toNat:Int)=12)↔b=12:=gK b 12 (by decide)
    have y13:((b.toNat:Int)=13)↔b=13:=gK b 13 (by decide)
    have y92:((b.toNat:Int)=92)↔b=92:=gK b 92 (by decide)
    simp only [y10,y32]
    by_cases q10:b=10
    · rw [if_pos q10]
      exact fin (1,true) (by rw [iL,if_pos q10]) _ (by omega)
    rw [if_neg q10]
    have j1:∀x51:Bool,x51=(decide (b=32∨b=9))→au.j1 (k+3+1) from0 b.toNat x51 s at0 v sg c=some (s.extract from0.toNat (at0+(iW (d+1) (b::sfx s (at0+1)) c).1).toNat,s,at0+(iW (d+1) (b::sfx s (at0+1)) c).1,v,(iW (d+1) (b::sfx s (at0+1)) c).2):=fun x51 hx51=>by
     rw [au.j1,w1]
     by_cases q:b=32∨b=9
     · rw [hx51,if_pos (by simpa using q)]
       exact fin (1,c) (by rw [iL,if_neg q10,if_pos q]) _ (by omega)
     · rw [hx51,if_neg (by simpa using q)]
       have j2:∀x65:Bool,x65=(decide (b=11∨b=12∨b=13))→au.j2 (k+2+1) from0 b.toNat x65 s at0 v sg c=some (s.extract from0.toNat (at0+(iW (d+1) (b::sfx s (at0+1)) c).1).toNat,s,at0+(iW (d+1) (b::sfx s (at0+1)) c).1,v,(iW (d+1) (b::sfx s (at0+1)) c).2):=fun x65 hx65=>by
        rw [au.j2,w1]
        by_cases q2:b=11∨b=12∨b=13
        · rw [hx65,if_pos (by simpa using q2)]
          exact fin (1,false) (by rw [iL,if_neg q10,if_neg q,if_pos q2]) _ (by omega)
        · rw [hx65,if_neg (by simpa using q2)]
          have j4:∀x104:Bool,x104=(decide (b=92∧hd (sfx s (at0+1))=13∧hd (sfx s (at0+1)).tail=10))→¬(b=92∧hd (sfx s (at0+1))=10)→au.j4 (k+1) from0 x104 s at0 v sg c=some (s.extract from0.toNat (at0+(iW (d+1) (b::sfx s (at0+1)) c).1).toNat,s,at0+(iW (d+1) (b::sfx s (at0+1)) c).1,v,(iW (d+1) (b::sfx s (at0+1)) c).2):=fun x104 hx104 q3=>by
           rw [au.j4,w3]
           by_cases q4:b=92∧hd (sfx s (at0+1))=13∧hd (sfx s (at0+1)).tail=10
           · rw [hx104,if_pos (by simpa using q4)]
             exact fin (3,true) (by rw [iL,if_neg q10,if_neg q,if_neg q2,if_neg q3,if_pos q4]) _ (by omega)
           · rw [hx104,if_neg (by simpa using q4),hcm v]
             have hP:iL (b::sfx s (at0+1)) c=qX c (b::sfx s (at0+1)):=by rw [iL,if_neg q10,if_neg q,if_neg q2,if_neg q3,if_neg q4]
             cases hC:qX c (b::sfx s (at0+1)) with
             |none=>
              simp only [Option.bind_some]
              rw [if_neg (by decide),if_pos hf,if_pos h0,if_pos h1,iW,hP,hC]
              simp
             |some r=>
              simp only [Option.bind_some,if_true]
              exact fin r (by rw [hP,hC]) _ (by omega)
          by_cases q3:b=92
          · rw [if_pos (y92.2 q3),hn1 v]
            simp only [Option.bind_some]
            rw [au.j3,w2,hx1]
            by_cases q4:hd (sfx s (at0+1))=10
            · rw [if_pos (by simp [q4])]
              exact fin (2,true) (by rw [iL,if_neg q10,if_neg q,if_neg q2,if_pos ⟨q3,q4⟩]) _ (by omega)
            · rw [if_neg (by simp [q4]),if_pos (y92.2 q3),hn1 v]
              simp only [Option.bind_some,hx1]
              by_cases q5:hd (sfx s (at0+1))=13
              · rw [if_pos q5,hn2 v]
                simp only [Option.bind_some,hx2]
                exact j4 _ (by simp [q3,q5];rfl) (fun h=>q4 h.2)
              · rw [if_neg q5]
                exact j4 _ (by simp [q5]) (fun h=>q4 h.2)
          · rw [if_neg (fun h=>q3 (y92.1 h)),au.j3,if_neg (by decide),if_neg (fun h=>q3 (y92.1 h))]
            exact j4 _ (by simp [q3]) (fun h=>q3 h.1)
       simp only [y11,y12]
       by_cases q11:b=11
       · rw [if_pos q11];exact j2 _ (by simp [q11])
       · rw [if_neg q11]
         by_cases q12:b=12
         · rw [if_pos q12];exact j2 _ (by simp [q12])
         · rw [if_neg q12];exact j2 _ (by simp only [q11,q12,false_or];rw [Bool.eq_iff_iff];simp [y13])
    by_cases q32:b=32
    · rw [if_pos q32];exact j1 _ (by simp [q32])
    · rw [if_neg q32];exact j1 _ (by simp only [q32,false_or];rw [Bool.eq_iff_iff];simp [y9])
  · have hz:iW d (sfx s at0) c=(0,c):=by
     rw [iE s at0 (by omega)]
     cases d with
     |zero=>rfl
     |succ d=>rfl
    rw [au.l0,if_neg hlt,if_pos hf,if_pos (by omega),hz]
    show some (s.extract from0.toNat s.size,s,at0,v,c)=some (s.extract from0.toNat (at0+((0:Nat):Int)).toNat,s,at0+((0:Nat):Int),v,c)
    rw [show at0+((0:Nat):Int)=at0 by omega,show at0.toNat=s.size by omega]
theorem Gp (s:ByteArray)(at0:Int)(sg:List ByteArray)(c:Bool)(hs:s.size≤1000000)(h0:0≤at0)(h1:at0≤s.size)(k:Nat)(hk:5*s.size+5<k):∀v,au.f k s at0 v sg c=some (s.extract at0.toNat (at0+(iW s.size (sfx s at0) c).1).toNat,s,at0+(iW s.size (sfx s at0) c).1,v,(iW s.size (sfx s at0) c).2):=
 sJ s sg hs at0 h0 s.size at0 c k (Int.le_refl _) h1 (by omega) hk
def ig (sg:List ByteArray)(c:Bool)(l:List UInt8):Int × Nat:=
 if 0<lq c l then (7,lq c l) else if 0<mV l then (1,mV l) else if 0<jY l then (3,jY l)
 else if 0<iC 39 l then (4,iC 39 l) else if 0<iC 34 l then (5,iC 34 l) else if 0<lS sg l then (6,lS sg l) else (8,1)
theorem BA (s:ByteArray)(at0:Int)(sg:List ByteArray)(c:Bool)(hs:s.size≤1000000)(h0:0≤at0)(h1:at0≤s.size)(hl:sg.length≤1000000)(k:Nat)(hk:s.size+1<k)(hk2:sg.length<k):
 ∀v,tries k sg 6 0 (s,at0,v,c)=some (((ig sg c (sfx s at0)).2:Int),(ig sg c (sfx s at0)).1,(s,at0,v,c)):=fun v=>by
 have a0:qy k sg 0 (s,at0,v,c)=some ((lq c (sfx s at0):Int),s,at0,v,c):=JR s at0 sg c hs h0 h1 k hk v
 have a1:qy k sg 1 (s,at0,v,c)=some ((mV (sfx s at0):Int),s,at0,v,c):=name_eq s at0 sg c hs h0 h1 k (by omega) v
 have a2:qy k sg 2 (s,at0,v,c)=some ((jY (sfx s at0):Int),s,at0,v,c):=number_eq s at0 sg c hs h0 h1 k hk v
 have a3:qy k sg 3 (s,at0,v,c)=some ((iC 39 (sfx s at0):Int),s,at0,v,c):=Ky s at0 sg c hs h0 h1 k (by omega) v
 have a4:qy k sg 4 (s,at0,v,c)=some ((iC 34 (sfx s at0):Int),s,at0,v,c):=text_eq s at0 sg c hs h0 h1 k (by omega) v
 have a5:qy k sg 5 (s,at0,v,c)=some ((lS sg (sfx s at0):Int),s,at0,v,c):=sign_eq s at0 sg c hs h0 h1 hl k hk2 v
 unfold ig
 rw [jo,a0]
 simp only [Option.bind_some]
 by_cases q0:0<lq c (sfx s at0)
 · rw [if_pos (by omega),if_pos q0];rfl
 rw [if_neg (by omega),if_neg q0,jo,a1]
 simp only [Option.bind_some]
 by_cases q1:0<mV (sfx s at0)
 · rw [if_pos (by omega),if_pos q1];rfl
 rw [if_neg (by omega),if_neg q1,jo,a2]
 simp only [Option.bind_some]
 by_cases q2:0<jY (sfx s at0)
 · rw [if_pos (by omega),if_pos q2];rfl
 rw [if_neg (by omega),if_neg q2,jo,a3]
 simp only [Option.bind_some]
 by_cases q3:0<iC 39 (sfx s at0)
 · rw [if_pos (by omega),if_pos q3];rfl
 rw [if_neg (by omega),if_neg q3,jo,a4]
 simp only [Option.bind_some]
 by_cases q4:0<iC 34 (sfx s at0)
 · rw [if_pos (by omega),if_pos q4];rfl
 rw [if_neg (by omega),if_neg q4,jo,a5]
 simp only [Option.bind_some]
 by_cases q5:0<lS sg (sfx s at0)
 · rw [if_pos (by omega),if_pos q5];rfl
 rw [if_neg (by omega),if_neg q5]
 rfl
def bA (l:List UInt8):ByteArray:=⟨l.toArray⟩
theorem kK (s:ByteArray)(i:Int)(n:Nat)(h0:0≤i):s.extract i.toNat (i+n).toNat=bA ((sfx s i).take n):=by
 apply Go.WideShapes.bytes_inj
 unfold bA sfx
 rw [show (i+(n:Int)).toNat=i.toNat+n by omega]
 simp [ByteArray.data_extract,Array.toList_extract,List.extract_eq_take_drop]
def kT (kw sg:List ByteArray)(N:Nat)(at0:Int)(l:List UInt8)(c:Bool):Tk × Nat × Bool:=
 let r:=iW N l c
 let l1:=l.drop r.1
 if l1=[] then ((0,bA (l.take r.1),⟨#[]⟩,at0+r.1),r.1,r.2) else
 let p:=ig sg r.2 l1
 ((eU kw p.1 (bA (l1.take p.2)),bA (l.take r.1),bA (l1.take p.2),at0+r.1),r.1+p.2,false)
theorem Jr (kw sg:List ByteArray)(s:ByteArray)(at0:Int)(c:Bool)(hs:s.size≤1000000)(h0:0≤at0)(h1:at0≤s.size)(hl:sg.length≤1000000):
 iR kw sg s at0 c=((kT kw sg s.size at0 (sfx s at0) c).1,at0+(kT kw sg s.size at0 (sfx s at0) c).2.1,(kT kw sg s.size at0 (sfx s at0) c).2.2):=by
 have hb:=Gp s at0 sg c hs h0 h1 (K0 s sg) (by unfold K0;omega) .nilIface
 have hble:=EW s.size (sfx s at0) c
 have hlen:=kH s at0
 unfold iR kT
 rw [hb]
 simp only
 generalize iW s.size (sfx s at0) c=r at *
 have hd:=mM s at0 r.1 h0
 have hdl:=kH s (at0+r.1)
 rw [kK s at0 r.1 h0]
 by_cases he:at0+(r.1:Int)=s.size
 · rw [if_pos he,if_pos (by rw [←hd];exact iE s _ (by omega))]
 · rw [if_neg he,if_neg (by
    rw [←hd]
    intro h
    rw [h] at hdl
    simp only [List.length_nil] at hdl
    omega)]
   have ht:=BA s (at0+r.1) sg r.2 hs (by omega) (by omega) hl (K0 s sg) (by unfold K0;omega) (by unfold K0;omega) .nilIface
   rw [ht,←hd]
   simp only
   rw [kK s (at0+r.1) _ (by omega)]
   rw [show at0+(r.1:Int)+((ig sg r.2 (sfx s (at0+r.1))).2:Int)=at0+((r.1+(ig sg r.2 (sfx s (at0+r.1))).2:Nat):Int) by omega]
def lQ (kw sg:List ByteArray)(N:Nat):Nat→Int→List UInt8→Bool→List Tk
 |0,_,_,_=>[]
 |f+1,at0,l,c=>if (kT kw sg N at0 l c).1.1=0 then [(kT kw sg N at0 l c).1] else (kT kw sg N at0 l c).1::lQ kw sg N f (at0+(kT kw sg N at0 l c).2.1) (l.drop (kT kw sg N at0 l c).2.1) (kT kw sg N at0 l c).2.2
theorem vS (kw sg:List ByteArray)(s:ByteArray)(hs:s.size≤1000000)(hl:sg.length≤1000000):∀(f:Nat) (at0:Int) (c:Bool),0≤at0→at0≤s.size→jh kw sg s f at0 c=lQ kw sg s.size f at0 (sfx s at0) c
 |0,_,_,_,_=>rfl
 |f+1,at0,c,h0,h1=>by
  have hp:=oq kw sg s at0 c hs h0 h1 hl
  rw [jh,lQ]
  rw [Jr kw sg s at0 c hs h0 h1 hl] at hp ⊢
  simp only at hp ⊢
  rw [vS kw sg s hs hl f _ _ (by omega) hp.1,mM s at0 _ h0]
end Go.Proofs.YtolaiebjmhieiaaGreatDoor.OScan
end
section
namespace Go.Proofs.YtolaiebjmhieiaaGreatDoor.ORef
open Go.RowKit YtolaiebjmhieiaaGreatDoorW.PrintWords YtolaiebjmhieiaaGreatDoorW.PrintLast YtolaiebjmhieiaaGreatDoorW.PrintMore
attribute [local go_sem] jF jD ku jZ jc iZ jE jC
theorem info9:(Tryz.prog.info? 9).map (fun i=>(i.zero,i.size,i.bytes))=some (some (.string ⟨#[]⟩),1,16):=by kernel_rfl
theorem nD:(Tryz.prog.info? 95).map (fun i=>(i.zero,i.size,i.bytes))=some (some (.agg #[(.int .i64 0),(.string ⟨#[]⟩),(.string ⟨#[]⟩),(.int .i64 0)]),4,48):=by kernel_rfl
structure S95 where
 f0:Int
 f1:ByteArray
 f2:ByteArray
 f3:Int
def k95:Kd S95:=Kd.iso (Kd.pair (Kd.int .i64) (Kd.pair Kd.string (Kd.pair Kd.string (Kd.int .i64)))) (fun x:S95=>(x.f0,x.f1,x.f2,x.f3))
theorem EJ (w:World)(base:Nat)(ok:Nat→Prop)(x:S95):k95.M w base ok x [.int .i64 x.f0,.string x.f1,.string x.f2,.int .i64 x.f3]:=⟨[.int .i64 x.f0],[.string x.f1,.string x.f2,.int .i64 x.f3],rfl,rfl,⟨[.string x.f1],[.string x.f2,.int .i64 x.f3],rfl,rfl,⟨[.string x.f2],[.int .i64 x.f3],rfl,rfl,rfl⟩⟩⟩
structure NY where
 f0:(List Int)
 f1:Int
 f2:Int
 f3:Int
structure S46 where
 f0:ByteArray
 f1:ByteArray
def z46:S46:=⟨(⟨#[]⟩:ByteArray),(⟨#[]⟩:ByteArray)⟩
def k46:Kd S46:=Kd.iso (Kd.pair Kd.string Kd.string) (fun x:S46=>(x.f0,x.f1))
theorem wY {w:World}{x:S46}{cs:List Value}(h:k46.K w x cs):cs=[.string x.f0,.string x.f1]:=by
 obtain ⟨_,_,rfl,rfl,rfl⟩:=h
 exact rfl
def iU (xs:List S46)(i:Int):S46:=xs.getD i.toNat z46
theorem oL {w:World}{A:Option Addr}{n:Nat}{xs:List S46}(h:Kd.C k46 w A n xs)(i:Int)(h0:0≤i)(h1:i<n):∃ad,A=some ad∧w.cell? (ad.add (i.toNat*2))=some (.string (iU xs i).f0)∧w.cell? ⟨(ad.add (i.toNat*2)).block,(ad.add (i.toNat*2)).off+1,none⟩=some (.string (iU xs i).f1):=by
 obtain ⟨ad,c,e,_,hK,hc0⟩:=Kd.pJ h z46 i h0 h1
 have hc:∀j u,c[j]? =some u→w.cell? (ad.add (i.toNat*2+j))=some u:=hc0
 obtain rfl:=wY hK
 exact ⟨ad,e,hc 0 _ rfl,by rw [←gZ _ _ 1 (by omega)];exact hc 1 _ rfl⟩
def bM.f (a0:ByteArray)(a1:Int):Option (Int):=if a1<0 then (some 0) else (if a1≥(a0.size:Int) then (some 0) else (if 0≤a1 then (if a1<(a0.size:Int) then (some (bt a0 a1)) else (none)) else (none)))
theorem bM.calls (a0:ByteArray)(a1:Int)(r:Int)(w:World)(h:bM.f a0 a1=some r):
 Calls Tryz.prog 173 #[.string a0,.int .i64 a1] w fun e w'=>e= .returned (.int .u8 r)∧dM w w':=by
 have H:=h
 clear h
 unfold bM.f at H
 replace H:=zd H
 rcases H with ⟨c3b0,H⟩|⟨c3b0,H⟩
 · obtain rfl:=Option.some.inj H
   go_enter Tryz.func173,Tryz.ntmps173
   go_wp2
   go_ret
   exact ⟨zr,zq⟩
 · replace H:=zg H
   rcases H with ⟨c4b0,H⟩|⟨c4b0,H⟩
   · obtain rfl:=Option.some.inj H
     go_enter Tryz.func173,Tryz.ntmps173
     go_wp2
     go_ret
     exact ⟨zr,zq⟩
   · replace H:=zdn H
     obtain ⟨c5b0,H⟩:=H
     replace H:=zdn H
     obtain ⟨c6b0,H⟩:=H
     obtain rfl:=Option.some.inj H
     obtain ⟨p7,q7,hx7⟩:=zb a0 a1
     go_enter Tryz.func173,Tryz.ntmps173
     go_wp2
     go_ret
     exact ⟨zr,zq⟩
def cO.f (a0:ByteArray)(a1:Int)(a2:ByteArray):Option (Bool):=if (wrap64 ((a0.size:Int)-a1))≥(a2.size:Int) then (if 0≤a1 then (if a1≤(wrap64 (a1+(a2.size:Int))) then (if (wrap64 (a1+(a2.size:Int)))≤(a0.size:Int) then (some ((a0.extract (a1:Int).toNat ((wrap64 (a1+(a2.size:Int))):Int).toNat).toList==a2.toList)) else (none)) else (none)) else (none)) else (some false)
theorem cO.calls (a0:ByteArray)(a1:Int)(a2:ByteArray)(r:Bool)(w:World)(h:cO.f a0 a1 a2=some r):
 Calls Tryz.prog 194 #[.string a0,.int .i64 a1,.string a2] w fun e w'=>e= .returned (.bool r)∧dM w w':=by
 have H:=h
 clear h
 unfold cO.f at H
 replace H:=zg H
 rcases H with ⟨c4b0,H⟩|⟨c4b0,H⟩
 · replace H:=zyn H
   obtain ⟨c5b0,c5b1,H⟩:=H
   replace H:=zxn H
   obtain ⟨c6,c6b0,c6b1,H⟩:=H
   replace H:=zxn H
   obtain ⟨c7,c7b0,c7b1,H⟩:=H
   obtain rfl:=Option.some.inj H
   go_enter Tryz.func194,Tryz.ntmps194
   go_wp2
   go_ret
   exact ⟨zr,zq⟩
 · obtain rfl:=Option.some.inj H
   go_enter Tryz.func194,Tryz.ntmps194
   go_wp2
   go_ret
   exact ⟨zr,zq⟩
mutual
def bG.l0:Nat→ByteArray→Int→Option (Int)
 |0,_,_=>none
 |k+1,x0,x1=>if x1<(x0.size:Int) then (if 0≤x1 then (if (bt x0 x1)=10 then (some x1) else (bG.l0 k x0 (wrap64 (x1+1)))) else (none)) else (some x1)
def bG.l1:Nat→ByteArray→Int→Option (Int)
 |0,_,_=>none
 |k+1,x0,x5=>if x5<(x0.size:Int) then ((cO.f x0 x5 (⟨#[42,47]⟩:ByteArray)).bind fun t103=>(if t103=true then (some (wrap64 (x5+2))) else (bG.l1 k x0 (wrap64 (x5+1))))) else (some (x0.size:Int))
end
def bG.f (k:Nat)(a0:ByteArray)(a1:Int):Option (Int):=(cO.f a0 a1 (⟨#[47,47]⟩:ByteArray)).bind fun t101=>(if t101=true then (bG.l0 k a0 a1) else ((cO.f a0 a1 (⟨#[47,42]⟩:ByteArray)).bind fun t102=>(if t102=true then (bG.l1 k a0 (wrap64 (a1+2))) else (some a1))))
theorem bG.calls (k:Nat)(a0:ByteArray)(a1:Int)(r:Int)(w:World)(h:bG.f k a0 a1=some r):
 Calls Tryz.prog 174 #[.string a0,.int .i64 a1] w fun e w'=>e= .returned (.int .i64 r)∧dM w w':=by
 have H:=h
 clear h
 unfold bG.f at H
 replace H:=zo H
 obtain ⟨t101,A3,H⟩:=H
 (try dsimp only at H)
 by_cases c4:t101=true
 · subst c4
   rw [if_pos rfl] at H
   have H':=z0 H
   clear H
   go_enter Tryz.func174,Tryz.ntmps174
   go_wp2_with (first|(refine zc 8 rfl Tryz.func194 #[.string a0,.int .i64 a1,.string (⟨#[47,47]⟩:ByteArray)] ?_;refine za (cO.calls a0 a1 (⟨#[47,47]⟩:ByteArray) true _ A3.out) fun nd=> ?_))
   (try go_simp)
   go_loopg [1] k (fun kq v1 w'=>∃(x1_1:Int),v1= .int .i64 x1_1∧ah (bG.l0 kq a0 x1_1=some r)∧ah (kq≤k)∧dM w w')
   case atStart=>exact ⟨(a1),zr,H',⟨Nat.le_refl _⟩,zq⟩
   case round=>
    clear H'
    obtain ⟨x1_1,rfl,HA,HK1,⟨m1,rfl⟩⟩:=hrel
    cases gk with
    |zero=>exact absurd HA.out (by simp [bG.l0])
    |succ k1=>
     have H:=HA.out
     clear HA
     simp only [bG.l0] at H
     replace H:=zd H
     rcases H with ⟨c5b0,H⟩|⟨c5b0,H⟩
     · replace H:=zdn H
       obtain ⟨c6b0,H⟩:=H
       replace H:=ze H
       rcases H with ⟨c8b0,c8b1,H⟩|⟨c8b0,c8b1,H⟩
       · obtain rfl:=Option.some.inj H
         obtain ⟨p7,q7,hx7⟩:=zb a0 x1_1
         go_wp2
         go_ret
         exact ⟨zr,zq⟩
       · have H':=z0 H
         clear H
         obtain ⟨p7,q7,hx7⟩:=zb a0 x1_1
         go_wp2
         go_roundg k1
         case measure=>have:=HK1.out;omega
         case rel=>exact ⟨(wrap64 (x1_1+1)),zr,H',⟨by have:=HK1.out;omega⟩,zq⟩
     · obtain rfl:=Option.some.inj H
       go_wp2
       go_ret
       exact ⟨zr,zq⟩
 · replace c4:=Bool.eq_false_iff.mpr c4
   subst c4
   rw [if_neg nofun] at H
   replace H:=zo H
   obtain ⟨t102,A9,H⟩:=H
   (try dsimp only at H)
   by_cases c10:t102=true
   · subst c10
     rw [if_pos rfl] at H
     have H':=z0 H
     clear H
     go_enter Tryz.func174,Tryz.ntmps174
     go_wp2_with (first|(refine zc 8 rfl Tryz.func194 #[.string a0,.int .i64 a1,.string (⟨#[47,47]⟩:ByteArray)] ?_;refine za (cO.calls a0 a1 (⟨#[47,47]⟩:ByteArray) false _ A3.out) fun nd=> ?_)|(refine zc 24 rfl Tryz.func194 #[.string a0,.int .i64 a1,.string (⟨#[47,42]⟩:ByteArray)] ?_;refine za (cO.calls a0 a1 (⟨#[47,42]⟩:ByteArray) true _ A9.out) fun nd=> ?_))
     (try go_simp)
     go_loopg [5] k (fun kq v5 w'=>∃(x5_1:Int),v5= .int .i64 x5_1∧ah (bG.l1 kq a0 x5_1=some r)∧ah (kq≤k)∧dM w w')
     case atStart=>exact ⟨(wrap64 (a1+2)),zr,H',⟨Nat.le_refl _⟩,zq⟩
     case round=>
      clear H'
      obtain ⟨x5_1,rfl,HA,HK1,⟨m1,rfl⟩⟩:=hrel
      cases gk with
      |zero=>exact absurd HA.out (by simp [bG.l1])
      |succ k1=>
       have H:=HA.out
       clear HA
       simp only [bG.l1] at H
       replace H:=zd H
       rcases H with ⟨c11b0,H⟩|⟨c11b0,H⟩
       · replace H:=zo H
         obtain ⟨t103,A12,H⟩:=H
         (try dsimp only at H)
         by_cases c13:t103=true
         · subst c13
           rw [if_pos rfl] at H
           obtain rfl:=Option.some.inj H
           go_wp2_with (first|(refine zc 35 rfl Tryz.func194 #[.string a0,.int .i64 x5_1,.string (⟨#[42,47]⟩:ByteArray)] ?_;refine za (cO.calls a0 x5_1 (⟨#[42,47]⟩:ByteArray) true _ A12.out) fun nd=> ?_))
           go_ret
           exact ⟨zr,zq⟩
         · replace c13:=Bool.eq_false_iff.mpr c13
           subst c13
           rw [if_neg nofun] at H
           have H':=z0 H
           clear H
           go_wp2_with (first|(refine zc 35 rfl Tryz.func194 #[.string a0,.int .i64 x5_1,.string (⟨#[42,47]⟩:ByteArray)] ?_;refine za (cO.calls a0 x5_1 (⟨#[42,47]⟩:ByteArray) false _ A12.out) fun nd=> ?_))
           go_roundg k1
           case measure=>have:=HK1.out;omega
           case rel=>exact ⟨(wrap64 (x5_1+1)),zr,H',⟨by have:=HK1.out;omega⟩,zq⟩
       · obtain rfl:=Option.some.inj H
         go_wp2
         go_ret
         exact ⟨zr,zq⟩
   · replace c10:=Bool.eq_false_iff.mpr c10
     subst c10
     rw [if_neg nofun] at H
     obtain rfl:=Option.some.inj H
     go_enter Tryz.func174,Tryz.ntmps174
     go_wp2_with (first|(refine zc 8 rfl Tryz.func194 #[.string a0,.int .i64 a1,.string (⟨#[47,47]⟩:ByteArray)] ?_;refine za (cO.calls a0 a1 (⟨#[47,47]⟩:ByteArray) false _ A3.out) fun nd=> ?_)|(refine zc 24 rfl Tryz.func194 #[.string a0,.int .i64 a1,.string (⟨#[47,42]⟩:ByteArray)] ?_;refine za (cO.calls a0 a1 (⟨#[47,42]⟩:ByteArray) false _ A9.out) fun nd=> ?_))
     go_ret
     exact ⟨zr,zq⟩
def bY.j0:Nat→ByteArray→Int→Int→Bool→Option (Int)
 |0,_,_,_,_=>none
 |k+1,x0,x1,x7,x8=>if x8=true then (some (wrap64 (x1+1))) else (if x7=92 then ((bM.f x0 (wrap64 (x1+1))).bind fun t105=>(if t105=10 then (some (wrap64 (x1+2))) else ((bM.f x0 (wrap64 (x1+1))).bind fun t106=>(if t106=13 then ((bM.f x0 (wrap64 (x1+2))).bind fun t107=>(if t107=10 then (some (wrap64 (x1+3))) else (some x1))) else (some x1))))) else ((bG.f k x0 x1).bind fun t108=>(some t108)))
def bY.f (k:Nat)(a0:ByteArray)(a1:Int):Option (Int):=(bM.f a0 a1).bind fun t104=>(if t104=32 then (bY.j0 k a0 a1 t104 (t104==32)) else (if t104=9 then (bY.j0 k a0 a1 t104 (t104==9)) else (if t104=10 then (bY.j0 k a0 a1 t104 (t104==10)) else (if t104=11 then (bY.j0 k a0 a1 t104 (t104==11)) else (if t104=12 then (bY.j0 k a0 a1 t104 (t104==12)) else (bY.j0 k a0 a1 t104 (t104==13)))))))
theorem bY.calls (k:Nat)(a0:ByteArray)(a1:Int)(r:Int)(w:World)(h:bY.f k a0 a1=some r):
 Calls Tryz.prog 138 #[.string a0,.int .i64 a1] w fun e w'=>e= .returned (.int .i64 r)∧dM w w':=by
 have H:=h
 clear h
 unfold bY.f at H
 replace H:=zo H
 obtain ⟨t104,A3,H⟩:=H
 (try dsimp only at H)
 have HC4:=z0 H
 clear H
 go_enter Tryz.func138,Tryz.ntmps138
 go_upto_if 8 with (first|(refine zc 7 rfl Tryz.func173 #[.string a0,.int .i64 a1] ?_;refine za (bM.calls a0 a1 t104 _ A3.out) fun nd=> ?_))
 (try simp only [Act.put,List.setIfInBounds_toArray,List.set_cons_zero,List.set_cons_succ])
 go_cut [8] (fun v8 wc=>∃(kq:Nat) (x8_3:Bool),v8= .bool x8_3∧ah (bY.j0 kq a0 a1 t104 x8_3=some r)∧ah (kq≤k)∧dM w wc)
 case first=>
  have H:=HC4.out
  clear HC4
  replace H:=ze H
  rcases H with ⟨c5b0,c5b1,H⟩|⟨c5b0,c5b1,H⟩
  · (first|rw [c5b0]|(simp only [dZ,fG];rw [c5b0])|skip)
    have H':=z0 H
    clear H
    go_wp2
    go_meet
    case rel=>exact ⟨_,((t104==32)),zr,H',⟨by first|omega|exact Nat.le_refl _⟩,zq⟩
  · (first|rw [c5b0]|(simp only [dZ,fG];rw [c5b0])|skip)
    replace H:=ze H
    rcases H with ⟨c6b0,c6b1,H⟩|⟨c6b0,c6b1,H⟩
    · have H':=z0 H
      clear H
      go_wp2
      go_meet
      case rel=>exact ⟨_,((t104==9)),zr,H',⟨by first|omega|exact Nat.le_refl _⟩,zq⟩
    · replace H:=ze H
      rcases H with ⟨c7b0,c7b1,H⟩|⟨c7b0,c7b1,H⟩
      · have H':=z0 H
        clear H
        go_wp2
        go_meet
        case rel=>exact ⟨_,((t104==10)),zr,H',⟨by first|omega|exact Nat.le_refl _⟩,zq⟩
      · replace H:=ze H
        rcases H with ⟨c8b0,c8b1,H⟩|⟨c8b0,c8b1,H⟩
        · have H':=z0 H
          clear H
          go_wp2
          go_meet
          case rel=>exact ⟨_,((t104==11)),zr,H',⟨by first|omega|exact Nat.le_refl _⟩,zq⟩
        · replace H:=ze H
          rcases H with ⟨c9b0,c9b1,H⟩|⟨c9b0,c9b1,H⟩
          · have H':=z0 H
            clear H
            go_wp2
            go_meet
            case rel=>exact ⟨_,((t104==12)),zr,H',⟨by first|omega|exact Nat.le_refl _⟩,zq⟩
          · have H':=z0 H
            clear H
            go_wp2
            go_meet
            case rel=>exact ⟨_,((t104==13)),zr,H',⟨by first|omega|exact Nat.le_refl _⟩,zq⟩
 case rest=>
  clear HC4
  obtain ⟨kq,x8_3,rfl,HA,HJ3,⟨mc3,rfl⟩⟩:=hcut
  cases kq with
  |zero=>exact absurd HA.out (by simp [bY.j0])
  |succ kj3=>
   have H:=HA.out
   clear HA
   simp only [bY.j0] at H
   by_cases c10:x8_3=true
   · subst c10
     rw [if_pos rfl] at H
     obtain rfl:=Option.some.inj H
     go_wp2
     go_ret
     exact ⟨zr,zq⟩
   · replace c10:=Bool.eq_false_iff.mpr c10
     subst c10
     rw [if_neg nofun] at H
     replace H:=ze H
     rcases H with ⟨c11b0,c11b1,H⟩|⟨c11b0,c11b1,H⟩
     · replace H:=zo H
       obtain ⟨t105,A12,H⟩:=H
       (try dsimp only at H)
       replace H:=ze H
       rcases H with ⟨c13b0,c13b1,H⟩|⟨c13b0,c13b1,H⟩
       · obtain rfl:=Option.some.inj H
         go_wp2_with (first|(refine zc 22 rfl Tryz.func173 #[.string a0,.int .i64 (wrap64 (a1+1))] ?_;refine za (bM.calls a0 (wrap64 (a1+1)) t105 _ A12.out) fun nd=> ?_))
         go_ret
         exact ⟨zr,zq⟩
       · replace H:=zo H
         obtain ⟨t106,A14,H⟩:=H
         (try dsimp only at H)
         replace H:=ze H
         rcases H with ⟨c15b0,c15b1,H⟩|⟨c15b0,c15b1,H⟩
         · replace H:=zo H
           obtain ⟨t107,A16,H⟩:=H
           (try dsimp only at H)
           replace H:=ze H
           rcases H with ⟨c17b0,c17b1,H⟩|⟨c17b0,c17b1,H⟩
           · obtain rfl:=Option.some.inj H
             go_wp2_with (first|(refine zc 22 rfl Tryz.func173 #[.string a0,.int .i64 (wrap64 (a1+1))] ?_;refine za (bM.calls a0 (wrap64 (a1+1)) t105 _ A12.out) fun nd=> ?_)|(refine zc 29 rfl Tryz.func173 #[.string a0,.int .i64 (wrap64 (a1+1))] ?_;refine za (bM.calls a0 (wrap64 (a1+1)) t106 _ A14.out) fun nd=> ?_)|(go_at_call 173;(with_reducible refine (bM.calls a0 (wrap64 (a1+2)) t107 _ A16.out).mono ?_);rintro e w' ⟨rfl,⟨nd,rfl⟩⟩))
             go_ret
             exact ⟨zr,zq⟩
           · obtain rfl:=Option.some.inj H
             go_wp2_with (first|(refine zc 22 rfl Tryz.func173 #[.string a0,.int .i64 (wrap64 (a1+1))] ?_;refine za (bM.calls a0 (wrap64 (a1+1)) t105 _ A12.out) fun nd=> ?_)|(refine zc 29 rfl Tryz.func173 #[.string a0,.int .i64 (wrap64 (a1+1))] ?_;refine za (bM.calls a0 (wrap64 (a1+1)) t106 _ A14.out) fun nd=> ?_)|(go_at_call 173;(with_reducible refine (bM.calls a0 (wrap64 (a1+2)) t107 _ A16.out).mono ?_);rintro e w' ⟨rfl,⟨nd,rfl⟩⟩))
             go_ret
             exact ⟨zr,zq⟩
         · obtain rfl:=Option.some.inj H
           go_wp2_with (first|(refine zc 22 rfl Tryz.func173 #[.string a0,.int .i64 (wrap64 (a1+1))] ?_;refine za (bM.calls a0 (wrap64 (a1+1)) t105 _ A12.out) fun nd=> ?_)|(refine zc 29 rfl Tryz.func173 #[.string a0,.int .i64 (wrap64 (a1+1))] ?_;refine za (bM.calls a0 (wrap64 (a1+1)) t106 _ A14.out) fun nd=> ?_))
           go_ret
           exact ⟨zr,zq⟩
     · replace H:=zo H
       obtain ⟨t108,A18,H⟩:=H
       (try dsimp only at H)
       obtain rfl:=Option.some.inj H
       go_wp2_with (first|(refine zc 43 rfl Tryz.func174 #[.string a0,.int .i64 a1] ?_;refine za (bG.calls kj3 a0 a1 t108 _ A18.out) fun nd=> ?_))
       go_ret
       exact ⟨zr,zq⟩
def dO.l0:Nat→ByteArray→Int→Int→Option (Int)
 |0,_,_,_=>none
 |k+1,x0,x1,x5=>if x5<(x0.size:Int) then (if 0≤x5 then (if (bt x0 x5)=10 then (if 0≤(wrap64 (x5-1)) then (if (wrap64 (x5-1))<(x0.size:Int) then (if (bt x0 (wrap64 (x5-1)))=92 then (dO.l0 k x0 x1 (wrap64 (x5+1))) else (if (wrap64 (x5-2))≥x1 then (if (bt x0 (wrap64 (x5-1)))=13 then (if 0≤(wrap64 (x5-2)) then (if (wrap64 (x5-2))<(x0.size:Int) then (if ((bt x0 (wrap64 (x5-2)))=92) then (dO.l0 k x0 x1 (wrap64 (x5+1))) else (if (wrap64 (x5-1))>x1 then (some (wrap64 (x5-1))) else (some x5))) else (none)) else (none)) else (if (wrap64 (x5-1))>x1 then (some x5) else (some x5))) else (if (wrap64 (x5-1))>x1 then (if (bt x0 (wrap64 (x5-1)))=13 then (some (wrap64 (x5-1))) else (some x5)) else (some x5)))) else (none)) else (none)) else (dO.l0 k x0 x1 (wrap64 (x5+1)))) else (none)) else (some x5)
def dO.f (k:Nat)(a0:ByteArray)(a1:Int):Option (Int):=dO.l0 k a0 a1 a1
theorem dO.calls (k:Nat)(a0:ByteArray)(a1:Int)(r:Int)(w:World)(h:dO.f k a0 a1=some r):
 Calls Tryz.prog 175 #[.string a0,.int .i64 a1] w fun e w'=>e= .returned (.int .i64 r)∧dM w w':=by
 have H:=h
 clear h
 unfold dO.f at H
 have H':=z0 H
 clear H
 go_enter Tryz.func175,Tryz.ntmps175
 go_wp2
 (try go_simp)
 go_loopg [5] k (fun kq v5 w'=>∃(x5_1:Int),v5= .int .i64 x5_1∧ah (dO.l0 kq a0 a1 x5_1=some r)∧ah (kq≤k)∧dM w w')
 case atStart=>exact ⟨(a1),zr,H',⟨Nat.le_refl _⟩,zq⟩
 case round=>
  clear H'
  obtain ⟨x5_1,rfl,HA,HK1,⟨m1,rfl⟩⟩:=hrel
  cases gk with
  |zero=>exact absurd HA.out (by simp [dO.l0])
  |succ k1=>
   have H:=HA.out
   clear HA
   simp only [dO.l0] at H
   replace H:=zd H
   rcases H with ⟨c3b0,H⟩|⟨c3b0,H⟩
   · replace H:=zdn H
     obtain ⟨c4b0,H⟩:=H
     replace H:=ze H
     rcases H with ⟨c6b0,c6b1,H⟩|⟨c6b0,c6b1,H⟩
     · generalize hji7:(wrap64 (x5_1-1))=ji7 at H
       have hji7w:(IntKind.i64.wrap (x5_1-1))=ji7:=(dZ _).trans hji7
       replace H:=zdn H
       obtain ⟨c8b0,H⟩:=H
       replace H:=zdn H
       obtain ⟨c9b0,H⟩:=H
       replace H:=ze H
       rcases H with ⟨c11b0,c11b1,H⟩|⟨c11b0,c11b1,H⟩
       · have H':=z0 H
         clear H
         obtain ⟨p5,q5,hx5⟩:=zb a0 x5_1
         obtain ⟨p10,q10,hx10⟩:=zb a0 (ji7)
         go_wp2
         go_roundg k1
         case measure=>have:=HK1.out;omega
         case rel=>exact ⟨(wrap64 (x5_1+1)),zr,H',⟨by have:=HK1.out;omega⟩,zq⟩
       · replace H:=zg H
         rcases H with ⟨c12b0,H⟩|⟨c12b0,H⟩
         · replace H:=ze H
           rcases H with ⟨c14b0,c14b1,H⟩|⟨c14b0,c14b1,H⟩
           · generalize hji15:(wrap64 (x5_1-2))=ji15 at H
             (try rw [hji15] at c12b0)
             have hji15w:(IntKind.i64.wrap (x5_1-2))=ji15:=(dZ _).trans hji15
             replace H:=zdn H
             obtain ⟨c16b0,H⟩:=H
             replace H:=zdn H
             obtain ⟨c17b0,H⟩:=H
             replace H:=ze H
             rcases H with ⟨c19b0,c19b1,H⟩|⟨c19b0,c19b1,H⟩
             · have H':=z0 H
               clear H
               obtain ⟨p5,q5,hx5⟩:=zb a0 x5_1
               obtain ⟨p10,q10,hx10⟩:=zb a0 (ji7)
               obtain ⟨p18,q18,hx18⟩:=zb a0 (ji15)
               go_wp2
               go_roundg k1
               case measure=>have:=HK1.out;omega
               case rel=>exact ⟨(wrap64 (x5_1+1)),zr,H',⟨by have:=HK1.out;omega⟩,zq⟩
             · replace H:=zt H
               rcases H with ⟨c20b0,H⟩|⟨c20b0,H⟩
               · obtain rfl:=Option.some.inj H
                 obtain ⟨p5,q5,hx5⟩:=zb a0 x5_1
                 obtain ⟨p10,q10,hx10⟩:=zb a0 (ji7)
                 obtain ⟨p18,q18,hx18⟩:=zb a0 (ji15)
                 go_wp2
                 go_ret
                 exact ⟨by first|rfl|(simp;done)|(simp only [←hji7,←hji15]<;>(first|rfl|simp))|(simp [*];done),zq⟩
               · obtain rfl:=Option.some.inj H
                 obtain ⟨p5,q5,hx5⟩:=zb a0 x5_1
                 obtain ⟨p10,q10,hx10⟩:=zb a0 (ji7)
                 obtain ⟨p18,q18,hx18⟩:=zb a0 (ji15)
                 go_wp2
                 go_ret
                 exact ⟨by first|rfl|(simp;done)|(simp only [←hji7,←hji15]<;>(first|rfl|simp))|(simp [*];done),zq⟩
           · replace H:=zt H
             rcases H with ⟨c22b0,H⟩|⟨c22b0,H⟩
             · obtain rfl:=Option.some.inj H
               obtain ⟨p5,q5,hx5⟩:=zb a0 x5_1
               obtain ⟨p10,q10,hx10⟩:=zb a0 (ji7)
               go_wp2
               go_ret
               exact ⟨by first|rfl|(simp;done)|(simp only [←hji7]<;>(first|rfl|simp))|(simp [*];done),zq⟩
             · obtain rfl:=Option.some.inj H
               obtain ⟨p5,q5,hx5⟩:=zb a0 x5_1
               obtain ⟨p10,q10,hx10⟩:=zb a0 (ji7)
               go_wp2
               go_ret
               exact ⟨by first|rfl|(simp;done)|(simp only [←hji7]<;>(first|rfl|simp))|(simp [*];done),zq⟩
         · replace H:=zt H
           rcases H with ⟨c24b0,H⟩|⟨c24b0,H⟩
           · replace H:=ze H
             rcases H with ⟨c26b0,c26b1,H⟩|⟨c26b0,c26b1,H⟩
             · obtain rfl:=Option.some.inj H
               obtain ⟨p5,q5,hx5⟩:=zb a0 x5_1
               obtain ⟨p10,q10,hx10⟩:=zb a0 (ji7)
               go_wp2
               go_ret
               exact ⟨by first|rfl|(simp;done)|(simp only [←hji7]<;>(first|rfl|simp))|(simp [*];done),zq⟩
             · obtain rfl:=Option.some.inj H
               obtain ⟨p5,q5,hx5⟩:=zb a0 x5_1
               obtain ⟨p10,q10,hx10⟩:=zb a0 (ji7)
               go_wp2
               go_ret
               exact ⟨by first|rfl|(simp;done)|(simp only [←hji7]<;>(first|rfl|simp))|(simp [*];done),zq⟩
           · obtain rfl:=Option.some.inj H
             obtain ⟨p5,q5,hx5⟩:=zb a0 x5_1
             obtain ⟨p10,q10,hx10⟩:=zb a0 (ji7)
             go_wp2
             go_ret
             exact ⟨by first|rfl|(simp;done)|(simp only [←hji7]<;>(first|rfl|simp))|(simp [*];done),zq⟩
     · have H':=z0 H
       clear H
       obtain ⟨p5,q5,hx5⟩:=zb a0 x5_1
       go_wp2
       go_roundg k1
       case measure=>have:=HK1.out;omega
       case rel=>exact ⟨(wrap64 (x5_1+1)),zr,H',⟨by have:=HK1.out;omega⟩,zq⟩
   · obtain rfl:=Option.some.inj H
     go_wp2
     go_ret
     exact ⟨zr,zq⟩
def dw.f (a0:Int):Option (Bool):=if a0≥97 then (if a0≤122 then (some true) else (if a0≥65 then (if a0≤90 then (some true) else (some (a0==95))) else (some (a0==95)))) else (if a0≥65 then (if a0≤90 then (some true) else (some (a0==95))) else (some (a0==95)))
theorem dw.calls (a0:Int)(r:Bool)(w:World)(h:dw.f a0=some r):
 Calls Tryz.prog 176 #[.int .u8 a0] w fun e w'=>e= .returned (.bool r)∧dM w w':=by
 have H:=h
 clear h
 unfold dw.f at H
 replace H:=zg H
 rcases H with ⟨c2b0,H⟩|⟨c2b0,H⟩
 · replace H:=zd H
   rcases H with ⟨c3b0,H⟩|⟨c3b0,H⟩
   · obtain rfl:=Option.some.inj H
     go_enter Tryz.func176,Tryz.ntmps176
     go_wp2
     go_ret
     exact ⟨zr,zq⟩
   · replace H:=zg H
     rcases H with ⟨c4b0,H⟩|⟨c4b0,H⟩
     · replace H:=zd H
       rcases H with ⟨c5b0,H⟩|⟨c5b0,H⟩
       · obtain rfl:=Option.some.inj H
         go_enter Tryz.func176,Tryz.ntmps176
         go_wp2
         go_ret
         exact ⟨zr,zq⟩
       · obtain rfl:=Option.some.inj H
         go_enter Tryz.func176,Tryz.ntmps176
         go_wp2
         go_ret
         exact ⟨zr,zq⟩
     · obtain rfl:=Option.some.inj H
       go_enter Tryz.func176,Tryz.ntmps176
       go_wp2
       go_ret
       exact ⟨zr,zq⟩
 · replace H:=zg H
   rcases H with ⟨c6b0,H⟩|⟨c6b0,H⟩
   · replace H:=zd H
     rcases H with ⟨c7b0,H⟩|⟨c7b0,H⟩
     · obtain rfl:=Option.some.inj H
       go_enter Tryz.func176,Tryz.ntmps176
       go_wp2
       go_ret
       exact ⟨zr,zq⟩
     · obtain rfl:=Option.some.inj H
       go_enter Tryz.func176,Tryz.ntmps176
       go_wp2
       go_ret
       exact ⟨zr,zq⟩
   · obtain rfl:=Option.some.inj H
     go_enter Tryz.func176,Tryz.ntmps176
     go_wp2
     go_ret
     exact ⟨zr,zq⟩
def bH.l0:Nat→List ByteArray→ByteArray→Int→Option (Int)
 |0,_,_,_=>none
 |k+1,x0,x1,x5=>if x5<(x0.length:Int) then (if 0≤x5 then (if (jv ByteArray.empty x0 x5).toList=x1.toList then (some x5) else (bH.l0 k x0 x1 (wrap64 (x5+1)))) else (none)) else (some (-1))
def bH.f (k:Nat)(l0:List ByteArray)(a1:ByteArray):Option (Int):=bH.l0 k l0 a1 0
theorem bH.calls (k:Nat)(A0:Option Addr)(c0:Nat)(l0:List ByteArray)(a1:ByteArray)(r:Int)(w:World)(hr0:Kd.C Kd.string w A0 l0.length l0)(hc0:l0.length≤c0)(h:bH.f k l0 a1=some r):
 Calls Tryz.prog 19 #[.slice A0 l0.length c0,.string a1] w fun e w'=>e= .returned (.int .i64 r)∧dM w w':=by
 have HR0:=z0 hr0
 have HC0:=z0 hc0
 clear hr0 hc0
 have H:=h
 clear h
 unfold bH.f at H
 have H':=z0 H
 clear H
 go_enter Tryz.func19,Tryz.ntmps19
 go_wp2
 (try go_simp)
 go_loopg [5] k (fun kq v5 w'=>∃(x5_1:Int),v5= .int .i64 x5_1∧ah (bH.l0 kq l0 a1 x5_1=some r)∧ah (kq≤k)∧dM w w')
 case atStart=>exact ⟨(0),zr,H',⟨Nat.le_refl _⟩,zq⟩
 case round=>
  clear H'
  obtain ⟨x5_1,rfl,HA,HK1,⟨m1,rfl⟩⟩:=hrel
  cases gk with
  |zero=>exact absurd HA.out (by simp [bH.l0])
  |succ k1=>
   have H:=HA.out
   clear HA
   simp only [bH.l0] at H
   replace H:=zd H
   rcases H with ⟨c3b0,H⟩|⟨c3b0,H⟩
   · replace H:=zdn H
     obtain ⟨c4b0,H⟩:=H
     replace H:=zE H
     rcases H with ⟨c5b0,c5b1,H⟩|⟨c5b0,c5b1,H⟩
     · obtain rfl:=Option.some.inj H
       have p109:0≤(x5_1:Int):=of_decide_eq_true (by first|(with_reducible assumption)|assumption)
       have q109:x5_1<(l0.length:Int):=of_decide_eq_true (by first|(with_reducible assumption)|assumption)
       obtain ⟨ad109,e109,hx109_0⟩:=Kd.fF HR0.out x5_1 p109 q109
       cases e109
       replace p109:=eq_true p109
       replace q109:=eq_true q109
       go_wp2
       go_ret
       exact ⟨zr,zq⟩
     · have H':=z0 H
       clear H
       have p109:0≤(x5_1:Int):=of_decide_eq_true (by first|(with_reducible assumption)|assumption)
       have q109:x5_1<(l0.length:Int):=of_decide_eq_true (by first|(with_reducible assumption)|assumption)
       obtain ⟨ad109,e109,hx109_0⟩:=Kd.fF HR0.out x5_1 p109 q109
       cases e109
       replace p109:=eq_true p109
       replace q109:=eq_true q109
       go_wp2
       go_roundg k1
       case measure=>have:=HK1.out;omega
       case rel=>exact ⟨(wrap64 (x5_1+1)),zr,H',⟨by have:=HK1.out;omega⟩,zq⟩
   · obtain rfl:=Option.some.inj H
     go_wp2
     go_ret
     exact ⟨zr,zq⟩
def dB.f (a0:Int):Option (Bool):=if a0≥48 then (some (decide (a0≤57))) else (some false)
theorem dB.calls (a0:Int)(r:Bool)(w:World)(h:dB.f a0=some r):
 Calls Tryz.prog 178 #[.int .u8 a0] w fun e w'=>e= .returned (.bool r)∧dM w w':=by
 have H:=h
 clear h
 unfold dB.f at H
 replace H:=zg H
 rcases H with ⟨c2b0,H⟩|⟨c2b0,H⟩
 · obtain rfl:=Option.some.inj H
   go_enter Tryz.func178,Tryz.ntmps178
   go_wp2
   go_ret
   exact ⟨zr,zq⟩
 · obtain rfl:=Option.some.inj H
   go_enter Tryz.func178,Tryz.ntmps178
   go_wp2
   go_ret
   exact ⟨zr,zq⟩
def iq.f:Option (List ByteArray):=some (([(⟨#[98,114,101,97,107]⟩:ByteArray),(⟨#[99,97,115,101]⟩:ByteArray),(⟨#[99,104,97,114]⟩:ByteArray),(⟨#[99,111,110,115,116]⟩:ByteArray),(⟨#[99,111,110,116,105,110,117,101]⟩:ByteArray),(⟨#[100,101,102,97,117,108,116]⟩:ByteArray),(⟨#[100,111]⟩:ByteArray),(⟨#[101,108,115,101]⟩:ByteArray),(⟨#[101,110,117,109]⟩:ByteArray),(⟨#[101,120,116,101,114,110]⟩:ByteArray),(⟨#[102,111,114]⟩:ByteArray),(⟨#[103,111,116,111]⟩:ByteArray),(⟨#[105,102]⟩:ByteArray),(⟨#[105,110,116]⟩:ByteArray),(⟨#[108,111,110,103]⟩:ByteArray),(⟨#[114,101,116,117,114,110]⟩:ByteArray),(⟨#[115,104,111,114,116]⟩:ByteArray),(⟨#[115,105,103,110,101,100]⟩:ByteArray),(⟨#[115,105,122,101,111,102]⟩:ByteArray),(⟨#[115,116,97,116,105,99]⟩:ByteArray),(⟨#[115,116,114,117,99,116]⟩:ByteArray),(⟨#[115,119,105,116,99,104]⟩:ByteArray),(⟨#[116,121,112,101,100,101,102]⟩:ByteArray),(⟨#[117,110,105,111,110]⟩:ByteArray),(⟨#[117,110,115,105,103,110,101,100]⟩:ByteArray),(⟨#[118,111,105,100]⟩:ByteArray),(⟨#[118,111,108,97,116,105,108,101]⟩:ByteArray),(⟨#[119,104,105,108,101]⟩:ByteArray)]:List ByteArray))
theorem iq.calls (r:List ByteArray)(w:World)(h:iq.f=some r):
 Calls Tryz.prog 195 #[] w fun e w'=>∃v0_:Value,e= .returned (v0_)∧Kd.R Kd.string 9 w' w.heap.size (fun _=>True) v0_ r∧Below w.heap.size w w':=by
 have HB:=z0 (Below.refl w.heap.size w)
 have H:=h
 clear h
 unfold iq.f at H
 obtain ⟨y110,hy110⟩:∃y_:List ByteArray,y_=(([(⟨#[98,114,101,97,107]⟩:ByteArray),(⟨#[99,97,115,101]⟩:ByteArray),(⟨#[99,104,97,114]⟩:ByteArray),(⟨#[99,111,110,115,116]⟩:ByteArray),(⟨#[99,111,110,116,105,110,117,101]⟩:ByteArray),(⟨#[100,101,102,97,117,108,116]⟩:ByteArray),(⟨#[100,111]⟩:ByteArray),(⟨#[101,108,115,101]⟩:ByteArray),(⟨#[101,110,117,109]⟩:ByteArray),(⟨#[101,120,116,101,114,110]⟩:ByteArray),(⟨#[102,111,114]⟩:ByteArray),(⟨#[103,111,116,111]⟩:ByteArray),(⟨#[105,102]⟩:ByteArray),(⟨#[105,110,116]⟩:ByteArray),(⟨#[108,111,110,103]⟩:ByteArray),(⟨#[114,101,116,117,114,110]⟩:ByteArray),(⟨#[115,104,111,114,116]⟩:ByteArray),(⟨#[115,105,103,110,101,100]⟩:ByteArray),(⟨#[115,105,122,101,111,102]⟩:ByteArray),(⟨#[115,116,97,116,105,99]⟩:ByteArray),(⟨#[115,116,114,117,99,116]⟩:ByteArray),(⟨#[115,119,105,116,99,104]⟩:ByteArray),(⟨#[116,121,112,101,100,101,102]⟩:ByteArray),(⟨#[117,110,105,111,110]⟩:ByteArray),(⟨#[117,110,115,105,103,110,101,100]⟩:ByteArray),(⟨#[118,111,105,100]⟩:ByteArray),(⟨#[118,111,108,97,116,105,108,101]⟩:ByteArray),(⟨#[119,104,105,108,101]⟩:ByteArray)]:List ByteArray)):=⟨_,rfl⟩
 replace H:(some y110)=some r:=by first|(rw [hy110];with_reducible exact H)|(have H2_:=(Option.bind_some _ _).symm.trans H;rw [hy110];with_reducible exact H2_)|(have H2_:=(Option.bind_some _ _).symm.trans H;with_reducible exact H2_)|with_reducible exact H|(rw [hy110];exact H)|exact H
 have Ny110:=z0 hy110
 clear hy110
 obtain rfl:=Option.some.inj H
 go_enter Tryz.func195,Tryz.ntmps195
 go_wp2_with (first|((with_reducible refine iP (N:=1) rfl ?_);refine Kd.xK Kd.string _ 9 ?hg (N:=1) ?hd (xs:=([(⟨#[98,114,101,97,107]⟩:ByteArray),(⟨#[99,97,115,101]⟩:ByteArray),(⟨#[99,104,97,114]⟩:ByteArray),(⟨#[99,111,110,115,116]⟩:ByteArray),(⟨#[99,111,110,116,105,110,117,101]⟩:ByteArray),(⟨#[100,101,102,97,117,108,116]⟩:ByteArray),(⟨#[100,111]⟩:ByteArray),(⟨#[101,108,115,101]⟩:ByteArray),(⟨#[101,110,117,109]⟩:ByteArray),(⟨#[101,120,116,101,114,110]⟩:ByteArray),(⟨#[102,111,114]⟩:ByteArray),(⟨#[103,111,116,111]⟩:ByteArray),(⟨#[105,102]⟩:ByteArray),(⟨#[105,110,116]⟩:ByteArray),(⟨#[108,111,110,103]⟩:ByteArray),(⟨#[114,101,116,117,114,110]⟩:ByteArray),(⟨#[115,104,111,114,116]⟩:ByteArray),(⟨#[115,105,103,110,101,100]⟩:ByteArray),(⟨#[115,105,122,101,111,102]⟩:ByteArray),(⟨#[115,116,97,116,105,99]⟩:ByteArray),(⟨#[115,116,114,117,99,116]⟩:ByteArray),(⟨#[115,119,105,116,99,104]⟩:ByteArray),(⟨#[116,121,112,101,100,101,102]⟩:ByteArray),(⟨#[117,110,105,111,110]⟩:ByteArray),(⟨#[117,110,115,105,103,110,101,100]⟩:ByteArray),(⟨#[118,111,105,100]⟩:ByteArray),(⟨#[118,111,108,97,116,105,108,101]⟩:ByteArray),(⟨#[119,104,105,108,101]⟩:ByteArray)]:List ByteArray)) (inner:=[.string (⟨#[98,114,101,97,107]⟩:ByteArray),.string (⟨#[99,97,115,101]⟩:ByteArray),.string (⟨#[99,104,97,114]⟩:ByteArray),.string (⟨#[99,111,110,115,116]⟩:ByteArray),.string (⟨#[99,111,110,116,105,110,117,101]⟩:ByteArray),.string (⟨#[100,101,102,97,117,108,116]⟩:ByteArray),.string (⟨#[100,111]⟩:ByteArray),.string (⟨#[101,108,115,101]⟩:ByteArray),.string (⟨#[101,110,117,109]⟩:ByteArray),.string (⟨#[101,120,116,101,114,110]⟩:ByteArray),.string (⟨#[102,111,114]⟩:ByteArray),.string (⟨#[103,111,116,111]⟩:ByteArray),.string (⟨#[105,102]⟩:ByteArray),.string (⟨#[105,110,116]⟩:ByteArray),.string (⟨#[108,111,110,103]⟩:ByteArray),.string (⟨#[114,101,116,117,114,110]⟩:ByteArray),.string (⟨#[115,104,111,114,116]⟩:ByteArray),.string (⟨#[115,105,103,110,101,100]⟩:ByteArray),.string (⟨#[115,105,122,101,111,102]⟩:ByteArray),.string (⟨#[115,116,97,116,105,99]⟩:ByteArray),.string (⟨#[115,116,114,117,99,116]⟩:ByteArray),.string (⟨#[115,119,105,116,99,104]⟩:ByteArray),.string (⟨#[116,121,112,101,100,101,102]⟩:ByteArray),.string (⟨#[117,110,105,111,110]⟩:ByteArray),.string (⟨#[117,110,115,105,103,110,101,100]⟩:ByteArray),.string (⟨#[118,111,105,100]⟩:ByteArray),.string (⟨#[118,111,108,97,116,105,108,101]⟩:ByteArray),.string (⟨#[119,104,105,108,101]⟩:ByteArray)]) (ok:=fun _=>True) (okp:=fun _=>True) ?hr ?hp (fun _ hk=>hk) trivial (Below.refl _ _) (Nat.le_refl _) (by simp) ?_;(case hd=>rfl);(case hg=>rfl);(case hr=>first|(go_simp;done)|(go_simp;rfl));(case hp=>exact (dJ.one (show Kd.M Kd.string _ _ _ (⟨#[98,114,101,97,107]⟩:ByteArray) [.string (⟨#[98,114,101,97,107]⟩:ByteArray)] from rfl) (dJ.one (show Kd.M Kd.string _ _ _ (⟨#[99,97,115,101]⟩:ByteArray) [.string (⟨#[99,97,115,101]⟩:ByteArray)] from rfl) (dJ.one (show Kd.M Kd.string _ _ _ (⟨#[99,104,97,114]⟩:ByteArray) [.string (⟨#[99,104,97,114]⟩:ByteArray)] from rfl) (dJ.one (show Kd.M Kd.string _ _ _ (⟨#[99,111,110,115,116]⟩:ByteArray) [.string (⟨#[99,111,110,115,116]⟩:ByteArray)] from rfl) (dJ.one (show Kd.M Kd.string _ _ _ (⟨#[99,111,110,116,105,110,117,101]⟩:ByteArray) [.string (⟨#[99,111,110,116,105,110,117,101]⟩:ByteArray)] from rfl) (dJ.one (show Kd.M Kd.string _ _ _ (⟨#[100,101,102,97,117,108,116]⟩:ByteArray) [.string (⟨#[100,101,102,97,117,108,116]⟩:ByteArray)] from rfl) (dJ.one (show Kd.M Kd.string _ _ _ (⟨#[100,111]⟩:ByteArray) [.string (⟨#[100,111]⟩:ByteArray)] from rfl) (dJ.one (show Kd.M Kd.string _ _ _ (⟨#[101,108,115,101]⟩:ByteArray) [.string (⟨#[101,108,115,101]⟩:ByteArray)] from rfl) (dJ.one (show Kd.M Kd.string _ _ _ (⟨#[101,110,117,109]⟩:ByteArray) [.string (⟨#[101,110,117,109]⟩:ByteArray)] from rfl) (dJ.one (show Kd.M Kd.string _ _ _ (⟨#[101,120,116,101,114,110]⟩:ByteArray) [.string (⟨#[101,120,116,101,114,110]⟩:ByteArray)] from rfl) (dJ.one (show Kd.M Kd.string _ _ _ (⟨#[102,111,114]⟩:ByteArray) [.string (⟨#[102,111,114]⟩:ByteArray)] from rfl) (dJ.one (show Kd.M Kd.string _ _ _ (⟨#[103,111,116,111]⟩:ByteArray) [.string (⟨#[103,111,116,111]⟩:ByteArray)] from rfl) (dJ.one (show Kd.M Kd.string _ _ _ (⟨#[105,102]⟩:ByteArray) [.string (⟨#[105,102]⟩:ByteArray)] from rfl) (dJ.one (show Kd.M Kd.string _ _ _ (⟨#[105,110,116]⟩:ByteArray) [.string (⟨#[105,110,116]⟩:ByteArray)] from rfl) (dJ.one (show Kd.M Kd.string _ _ _ (⟨#[108,111,110,103]⟩:ByteArray) [.string (⟨#[108,111,110,103]⟩:ByteArray)] from rfl) (dJ.one (show Kd.M Kd.string _ _ _ (⟨#[114,101,116,117,114,110]⟩:ByteArray) [.string (⟨#[114,101,116,117,114,110]⟩:ByteArray)] from rfl) (dJ.one (show Kd.M Kd.string _ _ _ (⟨#[115,104,111,114,116]⟩:ByteArray) [.string (⟨#[115,104,111,114,116]⟩:ByteArray)] from rfl) (dJ.one (show Kd.M Kd.string _ _ _ (⟨#[115,105,103,110,101,100]⟩:ByteArray) [.string (⟨#[115,105,103,110,101,100]⟩:ByteArray)] from rfl) (dJ.one (show Kd.M Kd.string _ _ _ (⟨#[115,105,122,101,111,102]⟩:ByteArray) [.string (⟨#[115,105,122,101,111,102]⟩:ByteArray)] from rfl) (dJ.one (show Kd.M Kd.string _ _ _ (⟨#[115,116,97,116,105,99]⟩:ByteArray) [.string (⟨#[115,116,97,116,105,99]⟩:ByteArray)] from rfl) (dJ.one (show Kd.M Kd.string _ _ _ (⟨#[115,116,114,117,99,116]⟩:ByteArray) [.string (⟨#[115,116,114,117,99,116]⟩:ByteArray)] from rfl) (dJ.one (show Kd.M Kd.string _ _ _ (⟨#[115,119,105,116,99,104]⟩:ByteArray) [.string (⟨#[115,119,105,116,99,104]⟩:ByteArray)] from rfl) (dJ.one (show Kd.M Kd.string _ _ _ (⟨#[116,121,112,101,100,101,102]⟩:ByteArray) [.string (⟨#[116,121,112,101,100,101,102]⟩:ByteArray)] from rfl) (dJ.one (show Kd.M Kd.string _ _ _ (⟨#[117,110,105,111,110]⟩:ByteArray) [.string (⟨#[117,110,105,111,110]⟩:ByteArray)] from rfl) (dJ.one (show Kd.M Kd.string _ _ _ (⟨#[117,110,115,105,103,110,101,100]⟩:ByteArray) [.string (⟨#[117,110,115,105,103,110,101,100]⟩:ByteArray)] from rfl) (dJ.one (show Kd.M Kd.string _ _ _ (⟨#[118,111,105,100]⟩:ByteArray) [.string (⟨#[118,111,105,100]⟩:ByteArray)] from rfl) (dJ.one (show Kd.M Kd.string _ _ _ (⟨#[118,111,108,97,116,105,108,101]⟩:ByteArray) [.string (⟨#[118,111,108,97,116,105,108,101]⟩:ByteArray)] from rfl) (dJ.one (show Kd.M Kd.string _ _ _ (⟨#[119,104,105,108,101]⟩:ByteArray) [.string (⟨#[119,104,105,108,101]⟩:ByteArray)] from rfl) (dJ.none _ _))))))))))))))))))))))))))))));intro v111 w1 ho2 hb hg_ hnew_;clear hg_ hnew_;(first|rw [←Ny110.out] at ho2|(simp only [Int.reduceToNat] at ho2;rw [←Ny110.out] at ho2));have n0_:=z0 (Kd.fZ ho2 (aQ zw));have n1_:=z0 (ak zw hb);revert n0_ n1_;clear HB;intro HO112 HB;clear hb ho2))
 go_ret
 exact ⟨_,zv,by (with_reducible repeat (first|apply Kd.dP|apply Kd.dS|apply Kd.fU));exact HO112.out,zw⟩
mutual
def bQ.j1:Nat→ByteArray→Int→Int→Option (Int × Int)
 |0,_,_,_=>none
 |k+1,x0,x1,x6=>(iq.f).bind fun t115=>(if 0≤x1 then (if x1≤x6 then (if x6≤(x0.size:Int) then ((bH.f k t115 (x0.extract (x1:Int).toNat (x6:Int).toNat)).bind fun t118=>(if t118≥0 then (some (2,x6)) else (some (1,x6)))) else (none)) else (none)) else (none))
def bQ.l0:Nat→ByteArray→Int→Int→Option (Int × Int)
 |0,_,_,_=>none
 |k+1,x0,x1,x6=>if x6<(x0.size:Int) then (if 0≤x6 then ((dw.f (bt x0 x6)).bind fun t113=>(if t113=true then (bQ.l0 k x0 x1 (wrap64 (x6+1))) else ((dB.f (bt x0 x6)).bind fun t114=>(if t114=true then (bQ.l0 k x0 x1 (wrap64 (x6+1))) else (bQ.j1 k x0 x1 x6))))) else (none)) else (bQ.j1 k x0 x1 x6)
end
def bQ.f (k:Nat)(a0:ByteArray)(a1:Int):Option (Int × Int):=bQ.l0 k a0 a1 a1
theorem bQ.calls (k:Nat)(a0:ByteArray)(a1:Int)(r1:Int)(r2:Int)(w:World)(h:bQ.f k a0 a1=some (r1,r2)):
 Calls Tryz.prog 177 #[.string a0,.int .i64 a1] w fun e w'=>e= .returned (.tuple #[.int .i64 r1,.int .i64 r2])∧Below w.heap.size w w':=by
 have HB:=z0 (Below.refl w.heap.size w)
 have H:=h
 clear h
 unfold bQ.f at H
 have HC3:=z0 H
 clear H
 go_enter Tryz.func177,Tryz.ntmps177
 go_upto_block 0 with (fail)
 go_cut [6] (fun v6 wc=>∃(kq:Nat) (x6_2:Int),v6= .int .i64 x6_2∧ah (bQ.j1 kq a0 a1 x6_2=some (r1,r2))∧ah (kq≤k)∧ah (Below w.heap.size w wc))
 case first=>
  have H:=HC3.out
  clear HC3
  have H':=z0 H
  clear H
  go_wp2
  (try go_simp)
  go_loopg [6] k (fun kq v6 w'=>∃(x6_1:Int),v6= .int .i64 x6_1∧ah (bQ.l0 kq a0 a1 x6_1=some (r1,r2))∧ah (kq≤k)∧ah (Below w.heap.size w w'))
  case atStart=>exact ⟨(a1),zr,H',⟨Nat.le_refl _⟩,⟨zw⟩⟩
  case round=>
   clear H'
   obtain ⟨x6_1,rfl,HA,HK1,HB⟩:=hrel
   cases gk with
   |zero=>exact absurd HA.out (by simp [bQ.l0])
   |succ k1=>
    have H:=HA.out
    clear HA
    simp only [bQ.l0] at H
    replace H:=zd H
    rcases H with ⟨c4b0,H⟩|⟨c4b0,H⟩
    · (first|rw [c4b0]|(simp only [dZ,fG];rw [c4b0])|skip)
      replace H:=zdn H
      obtain ⟨c5b0,H⟩:=H
      replace H:=zo H
      obtain ⟨t113,A7,H⟩:=H
      (try dsimp only at H)
      by_cases c8:t113=true
      · subst c8
        rw [if_pos rfl] at H
        have H':=z0 H
        clear H
        obtain ⟨p6,q6,hx6⟩:=zb a0 x6_1
        go_wp2_with (first|(go_at_call 176;(with_reducible refine (dw.calls (bt a0 x6_1) true _ A7.out).mono ?_);rintro e w' ⟨rfl,⟨nd,rfl⟩⟩))
        go_roundg k1
        case measure=>have:=HK1.out;omega
        case rel=>exact ⟨(wrap64 (x6_1+1)),zr,H',⟨by have:=HK1.out;omega⟩,⟨zw⟩⟩
      · replace c8:=Bool.eq_false_iff.mpr c8
        subst c8
        rw [if_neg nofun] at H
        replace H:=zo H
        obtain ⟨t114,A10,H⟩:=H
        (try dsimp only at H)
        by_cases c11:t114=true
        · subst c11
          rw [if_pos rfl] at H
          have H':=z0 H
          clear H
          obtain ⟨p6,q6,hx6⟩:=zb a0 x6_1
          go_wp2_with (first|(go_at_call 176;(with_reducible refine (dw.calls (bt a0 x6_1) false _ A7.out).mono ?_);rintro e w' ⟨rfl,⟨nd,rfl⟩⟩;have p9:0≤(x6_1:Int):=of_decide_eq_true (by first|(with_reducible assumption)|assumption);have q9:x6_1<(a0.size:Int):=of_decide_eq_true (by first|(with_reducible assumption)|assumption);have hx9:=pF a0 x6_1;replace p9:=eq_true p9;replace q9:=eq_true q9)|(go_at_call 178;(with_reducible refine (dB.calls (bt a0 x6_1) true _ A10.out).mono ?_);rintro e w' ⟨rfl,⟨nd,rfl⟩⟩))
          go_roundg k1
          case measure=>have:=HK1.out;omega
          case rel=>exact ⟨(wrap64 (x6_1+1)),zr,H',⟨by have:=HK1.out;omega⟩,⟨zw⟩⟩
        · replace c11:=Bool.eq_false_iff.mpr c11
          subst c11
          rw [if_neg nofun] at H
          have H':=z0 H
          clear H
          obtain ⟨p6,q6,hx6⟩:=zb a0 x6_1
          go_wp2_with (first|(go_at_call 176;(with_reducible refine (dw.calls (bt a0 x6_1) false _ A7.out).mono ?_);rintro e w' ⟨rfl,⟨nd,rfl⟩⟩;have p9:0≤(x6_1:Int):=of_decide_eq_true (by first|(with_reducible assumption)|assumption);have q9:x6_1<(a0.size:Int):=of_decide_eq_true (by first|(with_reducible assumption)|assumption);have hx9:=pF a0 x6_1;replace p9:=eq_true p9;replace q9:=eq_true q9)|(go_at_call 178;(with_reducible refine (dB.calls (bt a0 x6_1) false _ A10.out).mono ?_);rintro e w' ⟨rfl,⟨nd,rfl⟩⟩))
          go_meet
          case rel=>exact ⟨_,(x6_1),zr,H',⟨by have:=HK1.out;first|omega|exact Nat.le_refl _⟩,⟨zw⟩⟩
    · (first|rw [c4b0]|(simp only [dZ,fG];rw [c4b0])|skip)
      have H':=z0 H
      clear H
      go_wp2
      go_meet
      case rel=>exact ⟨_,(x6_1),zr,H',⟨by have:=HK1.out;first|omega|exact Nat.le_refl _⟩,⟨zw⟩⟩
 case rest=>
  clear HC3
  obtain ⟨kq,x6_2,rfl,HA,HJ2,HB⟩:=hcut
  cases kq with
  |zero=>exact absurd HA.out (by simp [bQ.j1])
  |succ kj2=>
   have H:=HA.out
   clear HA
   simp only [bQ.j1] at H
   replace H:=zo H
   obtain ⟨t115,A12,H⟩:=H
   (try dsimp only at H)
   replace H:=zyn H
   obtain ⟨c13b0,c13b1,H⟩:=H
   replace H:=zyn H
   obtain ⟨c14b0,c14b1,H⟩:=H
   replace H:=zyn H
   obtain ⟨c15b0,c15b1,H⟩:=H
   replace H:=zo H
   obtain ⟨t118,A16,H⟩:=H
   (try dsimp only at H)
   replace H:=zg H
   rcases H with ⟨c17b0,H⟩|⟨c17b0,H⟩
   · simp only [Option.some.injEq,Prod.mk.injEq] at H
     obtain ⟨rfl,rfl⟩:=H
     try go_wp2
     have n0_:=z0 (fE HB.out)
     clear HB
     have HB:=n0_
     clear n0_
     refine DF (n:=7) (S:=fun w'=>True) (ds:=[]) #[false,false,false,false,false,false,false] zf rfl rfl trivial (fun hHeld=> ?_)
     generalize wc.drew=w18 at HB hHeld ⊢
     refine jT (i:=1) (N:=some 27) (v:= ?_) (a':= ?_) #[false,true,false,false,false,false,false] rfl rfl zf (fun _ _ _ h=>h) (Or.inl ⟨by rfl,?_⟩) ?_ ?_
     rotate_left
     · intro w'
       go_simp
       with_reducible rfl
     rotate_left
     · simp only [Act.put,List.setIfInBounds_toArray,List.set_cons_zero,List.set_cons_succ,dZ,fG]
       rfl
     refine jT (i:=2) (N:=some 28) (v:= ?_) (a':= ?_) #[false,true,true,false,false,false,false] rfl rfl zf (fun _ _ _ h=>h) (Or.inl ⟨by rfl,?_⟩) ?_ ?_
     rotate_left
     · intro w'
       go_simp
       with_reducible rfl
     rotate_left
     · simp only [Act.put,List.setIfInBounds_toArray,List.set_cons_zero,List.set_cons_succ,dZ,fG]
       rfl
     refine jT (i:=3) (N:=some 29) (v:= ?_) (a':= ?_) #[false,true,true,true,false,false,false] rfl rfl zf (fun _ _ _ h=>h) (Or.inl ⟨by rfl,?_⟩) ?_ ?_
     rotate_left
     · intro w'
       go_simp
       with_reducible rfl
     rotate_left
     · simp only [Act.put,List.setIfInBounds_toArray,List.set_cons_zero,List.set_cons_succ,dZ,fG]
       rfl
     refine jT (i:=4) (N:=some 30) (v:= ?_) (a':= ?_) #[false,true,true,true,true,false,false] rfl rfl zf (fun _ _ _ h=>h) (Or.inl ⟨by rfl,?_⟩) ?_ ?_
     rotate_left
     · intro w'
       go_simp
       with_reducible rfl
     rotate_left
     · simp only [Act.put,List.setIfInBounds_toArray,List.set_cons_zero,List.set_cons_succ,dZ,fG]
       rfl
     refine F9 (i:=0) (N:=some 26) #[true,true,true,true,true,false,false] rfl rfl zf (by decide) (fun K hK=> ?_)
     refine EL Tryz.func195 zf rfl #[] (by rfl) rfl rfl zl ?_
     with_reducible refine (iq.calls t115 _ A12.out).mono ?_
     rintro e w19 ⟨v116,rfl,ho0,hb⟩
     refine ⟨_,rfl,?_⟩
     have n0_:=z0 (Kd.fZ ho0 (aQ zw))
     have n1_:=z0 (ak zw hb)
     clear HB
     have HO117:=n0_
     have HB:=n1_
     clear n0_ n1_
     obtain ⟨Ao20,co20,eo20⟩:=Kd.bF HO117.out
     (first|subst eo20|(injection eo20 with f1_ f2_ f3_;have f4_:=f1_.symm;have f5_:=f3_.symm;clear f1_ f2_ f3_;subst f4_;subst f5_))
     refine hK.out _ _ trivial (fun hHeld=> ?_)
     clear hK K
     refine zu (a':= ?_) ?_ ?_
     rotate_left
     · show Act.put _ (some 26) _=_
       simp only [Act.put,List.setIfInBounds_toArray,List.set_cons_zero,List.set_cons_succ,dZ,fG]
       rfl
     refine F9 (i:=5) (N:=some 31) #[true,true,true,true,true,true,false] rfl rfl zf (by decide) (fun K hK=> ?_)
     refine EL Tryz.func19 zf rfl #[.slice Ao20 t115.length co20,.string (a0.extract (a1:Int).toNat (x6_2:Int).toNat)] (by rfl) rfl rfl zl ?_
     with_reducible refine (bH.calls kj2 _ _ t115 (a0.extract (a1:Int).toNat (x6_2:Int).toNat) t118 _ ?side1 ?side2 A16.out).mono ?_
     (case side1=>repeat (first|exact (Kd.aZ HO117.out).2.2|(with_reducible refine Kd.C_alloc ?_ _)|(with_reducible refine Kd.lN ?_ _)|(with_reducible refine Kd.C_drew ?_)))
     (case side2=>exact (Kd.aZ HO117.out).2.1)
     rintro e w' ⟨rfl,⟨nd,rfl⟩⟩
     refine ⟨_,rfl,?_⟩
     refine hK.out _ _ trivial (fun hHeld=> ?_)
     clear hK K
     refine zu (a':= ?_) ?_ ?_
     rotate_left
     · show Act.put _ (some 31) _=_
       simp only [Act.put,List.setIfInBounds_toArray,List.set_cons_zero,List.set_cons_succ,dZ,fG]
       rfl
     refine jT (i:=6) (N:=some 32) (v:= ?_) (a':= ?_) #[true,true,true,true,true,true,true] rfl rfl zf (fun _ _ _ h=>h) (Or.inl ⟨by rfl,?_⟩) ?_ ?_
     rotate_left
     · intro w'
       go_simp
       with_reducible rfl
     rotate_left
     · simp only [Act.put,List.setIfInBounds_toArray,List.set_cons_zero,List.set_cons_succ,dZ,fG]
       rfl
     refine IX zf ?_
     try go_wp2
     go_ret2
     exact ⟨zv,zw⟩
   · simp only [Option.some.injEq,Prod.mk.injEq] at H
     obtain ⟨rfl,rfl⟩:=H
     try go_wp2
     have n0_:=z0 (fE HB.out)
     clear HB
     have HB:=n0_
     clear n0_
     refine DF (n:=7) (S:=fun w'=>True) (ds:=[]) #[false,false,false,false,false,false,false] zf rfl rfl trivial (fun hHeld=> ?_)
     generalize wc.drew=w21 at HB hHeld ⊢
     refine jT (i:=1) (N:=some 27) (v:= ?_) (a':= ?_) #[false,true,false,false,false,false,false] rfl rfl zf (fun _ _ _ h=>h) (Or.inl ⟨by rfl,?_⟩) ?_ ?_
     rotate_left
     · intro w'
       go_simp
       with_reducible rfl
     rotate_left
     · simp only [Act.put,List.setIfInBounds_toArray,List.set_cons_zero,List.set_cons_succ,dZ,fG]
       rfl
     refine jT (i:=2) (N:=some 28) (v:= ?_) (a':= ?_) #[false,true,true,false,false,false,false] rfl rfl zf (fun _ _ _ h=>h) (Or.inl ⟨by rfl,?_⟩) ?_ ?_
     rotate_left
     · intro w'
       go_simp
       with_reducible rfl
     rotate_left
     · simp only [Act.put,List.setIfInBounds_toArray,List.set_cons_zero,List.set_cons_succ,dZ,fG]
       rfl
     refine jT (i:=3) (N:=some 29) (v:= ?_) (a':= ?_) #[false,true,true,true,false,false,false] rfl rfl zf (fun _ _ _ h=>h) (Or.inl ⟨by rfl,?_⟩) ?_ ?_
     rotate_left
     · intro w'
       go_simp
       with_reducible rfl
     rotate_left
     · simp only [Act.put,List.setIfInBounds_toArray,List.set_cons_zero,List.set_cons_succ,dZ,fG]
       rfl
     refine jT (i:=4) (N:=some 30) (v:= ?_) (a':= ?_) #[false,true,true,true,true,false,false] rfl rfl zf (fun _ _ _ h=>h) (Or.inl ⟨by rfl,?_⟩) ?_ ?_
     rotate_left
     · intro w'
       go_simp
       with_reducible rfl
     rotate_left
     · simp only [Act.put,List.setIfInBounds_toArray,List.set_cons_zero,List.set_cons_succ,dZ,fG]
       rfl
     refine F9 (i:=0) (N:=some 26) #[true,true,true,true,true,false,false] rfl rfl zf (by decide) (fun K hK=> ?_)
     refine EL Tryz.func195 zf rfl #[] (by rfl) rfl rfl zl ?_
     with_reducible refine (iq.calls t115 _ A12.out).mono ?_
     rintro e w22 ⟨v116,rfl,ho0,hb⟩
     refine ⟨_,rfl,?_⟩
     have n0_:=z0 (Kd.fZ ho0 (aQ zw))
     have n1_:=z0 (ak zw hb)
     clear HB
     have HO117:=n0_
     have HB:=n1_
     clear n0_ n1_
     obtain ⟨Ao23,co23,eo23⟩:=Kd.bF HO117.out
     (first|subst eo23|(injection eo23 with f1_ f2_ f3_;have f4_:=f1_.symm;have f5_:=f3_.symm;clear f1_ f2_ f3_;subst f4_;subst f5_))
     refine hK.out _ _ trivial (fun hHeld=> ?_)
     clear hK K
     refine zu (a':= ?_) ?_ ?_
     rotate_left
     · show Act.put _ (some 26) _=_
       simp only [Act.put,List.setIfInBounds_toArray,List.set_cons_zero,List.set_cons_succ,dZ,fG]
       rfl
     refine F9 (i:=5) (N:=some 31) #[true,true,true,true,true,true,false] rfl rfl zf (by decide) (fun K hK=> ?_)
     refine EL Tryz.func19 zf rfl #[.slice Ao23 t115.length co23,.string (a0.extract (a1:Int).toNat (x6_2:Int).toNat)] (by rfl) rfl rfl zl ?_
     with_reducible refine (bH.calls kj2 _ _ t115 (a0.extract (a1:Int).toNat (x6_2:Int).toNat) t118 _ ?side1 ?side2 A16.out).mono ?_
     (case side1=>repeat (first|exact (Kd.aZ HO117.out).2.2|(with_reducible refine Kd.C_alloc ?_ _)|(with_reducible refine Kd.lN ?_ _)|(with_reducible refine Kd.C_drew ?_)))
     (case side2=>exact (Kd.aZ HO117.out).2.1)
     rintro e w' ⟨rfl,⟨nd,rfl⟩⟩
     refine ⟨_,rfl,?_⟩
     refine hK.out _ _ trivial (fun hHeld=> ?_)
     clear hK K
     refine zu (a':= ?_) ?_ ?_
     rotate_left
     · show Act.put _ (some 31) _=_
       simp only [Act.put,List.setIfInBounds_toArray,List.set_cons_zero,List.set_cons_succ,dZ,fG]
       rfl
     refine jT (i:=6) (N:=some 32) (v:= ?_) (a':= ?_) #[true,true,true,true,true,true,true] rfl rfl zf (fun _ _ _ h=>h) (Or.inl ⟨by rfl,?_⟩) ?_ ?_
     rotate_left
     · intro w'
       go_simp
       with_reducible rfl
     rotate_left
     · simp only [Act.put,List.setIfInBounds_toArray,List.set_cons_zero,List.set_cons_succ,dZ,fG]
       rfl
     refine IX zf ?_
     try go_wp2
     go_ret2
     exact ⟨zv,zw⟩
mutual
def aU.l0:Nat→ByteArray→Int→Option (Int)
 |0,_,_=>none
 |k+1,x0,x5=>if x5<(x0.size:Int) then (if 0≤x5 then (if (bt x0 x5)=43 then (if 0≤(wrap64 (x5-1)) then (if (wrap64 (x5-1))<(x0.size:Int) then (if (bt x0 (wrap64 (x5-1)))=101 then (aU.j1 k x0 x5 (bt x0 x5) true) else (aU.j1 k x0 x5 (bt x0 x5) ((bt x0 (wrap64 (x5-1)))==69))) else (none)) else (none)) else (if (bt x0 x5)=45 then (if 0≤(wrap64 (x5-1)) then (if (wrap64 (x5-1))<(x0.size:Int) then (if (bt x0 (wrap64 (x5-1)))=101 then (aU.j1 k x0 x5 (bt x0 x5) true) else (aU.j1 k x0 x5 (bt x0 x5) ((bt x0 (wrap64 (x5-1)))==69))) else (none)) else (none)) else (aU.j1 k x0 x5 (bt x0 x5) false))) else (none)) else (some x5)
def aU.j1:Nat→ByteArray→Int→Int→Bool→Option (Int)
 |0,_,_,_,_=>none
 |k+1,x0,x5,x6,x7=>(dw.f x6).bind fun t119=>(if t119=true then (aU.l0 k x0 (wrap64 (x5+1))) else ((dB.f x6).bind fun t120=>(if t120=true then (aU.l0 k x0 (wrap64 (x5+1))) else (if x6=46 then (aU.l0 k x0 (wrap64 (x5+1))) else (if x7=true then (aU.l0 k x0 (wrap64 (x5+1))) else (some x5))))))
end
def aU.f (k:Nat)(a0:ByteArray)(a1:Int):Option (Int):=aU.l0 k a0 (wrap64 (a1+1))
theorem aU.calls (k:Nat)(a0:ByteArray)(a1:Int)(r:Int)(w:World)(h:aU.f k a0 a1=some r):
 Calls Tryz.prog 179 #[.string a0,.int .i64 a1] w fun e w'=>e= .returned (.int .i64 r)∧dM w w':=by
 have H:=h
 clear h
 unfold aU.f at H
 have H':=z0 H
 clear H
 go_enter Tryz.func179,Tryz.ntmps179
 go_wp2
 (try go_simp)
 go_loopg [5] k (fun kq v5 w'=>∃(x5_1:Int),v5= .int .i64 x5_1∧ah (aU.l0 kq a0 x5_1=some r)∧ah (kq≤k)∧dM w w')
 case atStart=>exact ⟨(wrap64 (a1+1)),zr,H',⟨Nat.le_refl _⟩,zq⟩
 case round=>
  clear H'
  obtain ⟨x5_1,rfl,HA,HK1,⟨m1,rfl⟩⟩:=hrel
  cases gk with
  |zero=>exact absurd HA.out (by simp [aU.l0])
  |succ k1=>
   have H:=HA.out
   clear HA
   simp only [aU.l0] at H
   replace H:=zd H
   rcases H with ⟨c3b0,H⟩|⟨c3b0,H⟩
   · replace H:=zdn H
     obtain ⟨c4b0,H⟩:=H
     have HC6:=z0 H
     clear H
     obtain ⟨p5,q5,hx5⟩:=zb a0 x5_1
     go_upto_region 4 with (fail)
     go_cut [7] (fun v7 wc=>∃(kq:Nat) (x7_5:Bool),v7= .bool x7_5∧ah (aU.j1 kq a0 x5_1 (bt a0 x5_1) x7_5=some r)∧ah (kq≤k1)∧dM w wc)
     case first=>
      have H:=HC6.out
      clear HC6
      replace H:=ze H
      rcases H with ⟨c7b0,c7b1,H⟩|⟨c7b0,c7b1,H⟩
      · (first|rw [c7b0]|(simp only [dZ,fG];rw [c7b0])|skip)
        generalize hji8:(wrap64 (x5_1-1))=ji8 at H
        have hji8w:(IntKind.i64.wrap (x5_1-1))=ji8:=(dZ _).trans hji8
        replace H:=zdn H
        obtain ⟨c9b0,H⟩:=H
        replace H:=zdn H
        obtain ⟨c10b0,H⟩:=H
        replace H:=ze H
        rcases H with ⟨c12b0,c12b1,H⟩|⟨c12b0,c12b1,H⟩
        · have H':=z0 H
          clear H
          obtain ⟨p11,q11,hx11⟩:=zb a0 (ji8)
          go_wp2
          go_meet
          case rel=>exact ⟨_,(true),zr,H',⟨by have:=HK1.out;first|omega|exact Nat.le_refl _⟩,zq⟩
        · have H':=z0 H
          clear H
          obtain ⟨p11,q11,hx11⟩:=zb a0 (ji8)
          go_wp2
          go_meet
          case rel=>exact ⟨_,(((bt a0 (ji8))==69)),(by first|rfl|(simp;done)|(simp only [←hji8]<;>(first|rfl|simp))|(simp [*];done)),H',⟨by have:=HK1.out;first|omega|exact Nat.le_refl _⟩,zq⟩
      · (first|rw [c7b0]|(simp only [dZ,fG];rw [c7b0])|skip)
        replace H:=ze H
        rcases H with ⟨c14b0,c14b1,H⟩|⟨c14b0,c14b1,H⟩
        · generalize hji15:(wrap64 (x5_1-1))=ji15 at H
          have hji15w:(IntKind.i64.wrap (x5_1-1))=ji15:=(dZ _).trans hji15
          replace H:=zdn H
          obtain ⟨c16b0,H⟩:=H
          replace H:=zdn H
          obtain ⟨c17b0,H⟩:=H
          replace H:=ze H
          rcases H with ⟨c19b0,c19b1,H⟩|⟨c19b0,c19b1,H⟩
          · have H':=z0 H
            clear H
            obtain ⟨p18,q18,hx18⟩:=zb a0 (ji15)
            go_wp2
            go_meet
            case rel=>exact ⟨_,(true),zr,H',⟨by have:=HK1.out;first|omega|exact Nat.le_refl _⟩,zq⟩
          · have H':=z0 H
            clear H
            obtain ⟨p18,q18,hx18⟩:=zb a0 (ji15)
            go_wp2
            go_meet
            case rel=>exact ⟨_,(((bt a0 (ji15))==69)),(by first|rfl|(simp;done)|(simp only [←hji15]<;>(first|rfl|simp))|(simp [*];done)),H',⟨by have:=HK1.out;first|omega|exact Nat.le_refl _⟩,zq⟩
        · have H':=z0 H
          clear H
          go_wp2
          go_meet
          case rel=>exact ⟨_,(false),zr,H',⟨by have:=HK1.out;first|omega|exact Nat.le_refl _⟩,zq⟩
     case rest=>
      clear HC6
      obtain ⟨kq,x7_5,rfl,HA,HJ5,⟨mc5,rfl⟩⟩:=hcut
      cases kq with
      |zero=>exact absurd HA.out (by simp [aU.j1])
      |succ kj5=>
       have H:=HA.out
       clear HA
       simp only [aU.j1] at H
       replace H:=zo H
       obtain ⟨t119,A21,H⟩:=H
       (try dsimp only at H)
       by_cases c22:t119=true
       · subst c22
         rw [if_pos rfl] at H
         have H':=z0 H
         clear H
         go_wp2_with (first|(refine zc 38 rfl Tryz.func176 #[.int .u8 (bt a0 x5_1)] ?_;refine za (dw.calls (bt a0 x5_1) true _ A21.out) fun nd=> ?_))
         go_roundg kj5
         case measure=>have:=HK1.out;have:=HJ5.out;omega
         case rel=>exact ⟨(wrap64 (x5_1+1)),zr,H',⟨by have:=HK1.out;have:=HJ5.out;omega⟩,zq⟩
       · replace c22:=Bool.eq_false_iff.mpr c22
         subst c22
         rw [if_neg nofun] at H
         replace H:=zo H
         obtain ⟨t120,A23,H⟩:=H
         (try dsimp only at H)
         by_cases c24:t120=true
         · subst c24
           rw [if_pos rfl] at H
           have H':=z0 H
           clear H
           go_wp2_with (first|(refine zc 38 rfl Tryz.func176 #[.int .u8 (bt a0 x5_1)] ?_;refine za (dw.calls (bt a0 x5_1) false _ A21.out) fun nd=> ?_)|(go_at_call 178;(with_reducible refine (dB.calls (bt a0 x5_1) true _ A23.out).mono ?_);rintro e w' ⟨rfl,⟨nd,rfl⟩⟩))
           go_roundg kj5
           case measure=>have:=HK1.out;have:=HJ5.out;omega
           case rel=>exact ⟨(wrap64 (x5_1+1)),zr,H',⟨by have:=HK1.out;have:=HJ5.out;omega⟩,zq⟩
         · replace c24:=Bool.eq_false_iff.mpr c24
           subst c24
           rw [if_neg nofun] at H
           replace H:=ze H
           rcases H with ⟨c25b0,c25b1,H⟩|⟨c25b0,c25b1,H⟩
           · have H':=z0 H
             clear H
             go_wp2_with (first|(refine zc 38 rfl Tryz.func176 #[.int .u8 (bt a0 x5_1)] ?_;refine za (dw.calls (bt a0 x5_1) false _ A21.out) fun nd=> ?_)|(go_at_call 178;(with_reducible refine (dB.calls (bt a0 x5_1) false _ A23.out).mono ?_);rintro e w' ⟨rfl,⟨nd,rfl⟩⟩))
             go_roundg kj5
             case measure=>have:=HK1.out;have:=HJ5.out;omega
             case rel=>exact ⟨(wrap64 (x5_1+1)),zr,H',⟨by have:=HK1.out;have:=HJ5.out;omega⟩,zq⟩
           · by_cases c26:x7_5=true
             · subst c26
               rw [if_pos rfl] at H
               have H':=z0 H
               clear H
               go_wp2_with (first|(refine zc 38 rfl Tryz.func176 #[.int .u8 (bt a0 x5_1)] ?_;refine za (dw.calls (bt a0 x5_1) false _ A21.out) fun nd=> ?_)|(go_at_call 178;(with_reducible refine (dB.calls (bt a0 x5_1) false _ A23.out).mono ?_);rintro e w' ⟨rfl,⟨nd,rfl⟩⟩))
               go_roundg kj5
               case measure=>have:=HK1.out;have:=HJ5.out;omega
               case rel=>exact ⟨(wrap64 (x5_1+1)),zr,H',⟨by have:=HK1.out;have:=HJ5.out;omega⟩,zq⟩
             · replace c26:=Bool.eq_false_iff.mpr c26
               subst c26
               rw [if_neg nofun] at H
               obtain rfl:=Option.some.inj H
               go_wp2_with (first|(refine zc 38 rfl Tryz.func176 #[.int .u8 (bt a0 x5_1)] ?_;refine za (dw.calls (bt a0 x5_1) false _ A21.out) fun nd=> ?_)|(go_at_call 178;(with_reducible refine (dB.calls (bt a0 x5_1) false _ A23.out).mono ?_);rintro e w' ⟨rfl,⟨nd,rfl⟩⟩))
               go_ret
               exact ⟨zr,zq⟩
   · obtain rfl:=Option.some.inj H
     go_wp2
     go_ret
     exact ⟨zr,zq⟩
mutual
def bg.l0:Nat→ByteArray→Int→Int→Option (Int)
 |0,_,_,_=>none
 |k+1,x0,x1,x5=>if x5<(x0.size:Int) then (if 0≤x5 then (bg.j1 k x0 x1 x5 ((bt x0 x5) !=10)) else (none)) else (bg.j1 k x0 x1 x5 false)
def bg.j1:Nat→ByteArray→Int→Int→Bool→Option (Int)
 |0,_,_,_,_=>none
 |k+1,x0,x1,x5,x17=>if x17=true then (if 0≤x5 then (if x5<(x0.size:Int) then (if 0≤x1 then (if x1<(x0.size:Int) then (if (bt x0 x5)=(bt x0 x1) then (some (wrap64 (x5+1))) else (if (bt x0 x5)=92 then (if (wrap64 (x5+1))<(x0.size:Int) then (if 0≤(wrap64 (x5+1)) then (if (bt x0 (wrap64 (x5+1)))=10 then (some x1) else (bg.l0 k x0 x1 (wrap64 ((wrap64 (x5+1))+1)))) else (none)) else (bg.l0 k x0 x1 (wrap64 ((wrap64 (x5+1))+1)))) else (bg.l0 k x0 x1 (wrap64 (x5+1))))) else (none)) else (none)) else (none)) else (none)) else (some x1)
end
def bg.f (k:Nat)(a0:ByteArray)(a1:Int):Option (Int):=bg.l0 k a0 a1 (wrap64 (a1+1))
theorem bg.calls (k:Nat)(a0:ByteArray)(a1:Int)(r:Int)(w:World)(h:bg.f k a0 a1=some r):
 Calls Tryz.prog 180 #[.string a0,.int .i64 a1] w fun e w'=>e= .returned (.int .i64 r)∧dM w w':=by
 have H:=h
 clear h
 unfold bg.f at H
 have H':=z0 H
 clear H
 go_enter Tryz.func180,Tryz.ntmps180
 go_wp2
 repeat (go_quiet (fail);try go_wp2)
 (try go_simp)
 go_loopg [5] k (fun kq v5 w'=>∃(x5_1:Int),v5= .int .i64 x5_1∧ah (bg.l0 kq a0 a1 x5_1=some r)∧ah (kq≤k)∧dM w w')
 case atStart=>exact ⟨(wrap64 (a1+1)),zr,H',⟨Nat.le_refl _⟩,zq⟩
 case round=>
  clear H'
  obtain ⟨x5_1,rfl,HA,HK1,⟨m1,rfl⟩⟩:=hrel
  cases gk with
  |zero=>exact absurd HA.out (by simp [bg.l0])
  |succ k1=>
   have H:=HA.out
   clear HA
   simp only [bg.l0] at H
   have HC3:=z0 H
   clear H
   go_upto_region 2 with (fail)
   repeat (go_quiet (fail);go_upto_region 2 with (fail))
   go_cut [17] (fun v17 wc=>∃(kq:Nat) (x17_2:Bool),v17= .bool x17_2∧ah (bg.j1 kq a0 a1 x5_1 x17_2=some r)∧ah (kq≤k1)∧dM w wc)
   case first=>
    have H:=HC3.out
    clear HC3
    replace H:=zd H
    rcases H with ⟨c4b0,H⟩|⟨c4b0,H⟩
    · (first|rw [c4b0]|(simp only [dZ,fG];rw [c4b0])|skip)
      replace H:=zdn H
      obtain ⟨c5b0,H⟩:=H
      have H':=z0 H
      clear H
      obtain ⟨p6,q6,hx6⟩:=zb a0 x5_1
      go_wp2
      repeat (go_quiet (fail);try go_wp2)
      go_meet
      case rel=>exact ⟨_,(((bt a0 x5_1) !=10)),zr,H',⟨by have:=HK1.out;first|omega|exact Nat.le_refl _⟩,zq⟩
    · (first|rw [c4b0]|(simp only [dZ,fG];rw [c4b0])|skip)
      have H':=z0 H
      clear H
      go_wp2
      repeat (go_quiet (fail);try go_wp2)
      go_meet
      case rel=>exact ⟨_,(false),zr,H',⟨by have:=HK1.out;first|omega|exact Nat.le_refl _⟩,zq⟩
   case rest=>
    clear HC3
    obtain ⟨kq,x17_2,rfl,HA,HJ2,⟨mc2,rfl⟩⟩:=hcut
    cases kq with
    |zero=>exact absurd HA.out (by simp [bg.j1])
    |succ kj2=>
     have H:=HA.out
     clear HA
     simp only [bg.j1] at H
     by_cases c7:x17_2=true
     · subst c7
       rw [if_pos rfl] at H
       replace H:=zdn H
       obtain ⟨c8b0,H⟩:=H
       replace H:=zdn H
       obtain ⟨c9b0,H⟩:=H
       replace H:=zdn H
       obtain ⟨c11b0,H⟩:=H
       replace H:=zdn H
       obtain ⟨c12b0,H⟩:=H
       replace H:=ze H
       rcases H with ⟨c14b0,c14b1,H⟩|⟨c14b0,c14b1,H⟩
       · obtain rfl:=Option.some.inj H
         obtain ⟨p10,q10,hx10⟩:=zb a0 x5_1
         obtain ⟨p13,q13,hx13⟩:=zb a0 a1
         go_wp2
         repeat (go_quiet (fail);try go_wp2)
         go_ret
         exact ⟨zr,zq⟩
       · replace H:=ze H
         rcases H with ⟨c16b0,c16b1,H⟩|⟨c16b0,c16b1,H⟩
         · replace H:=zd H
           rcases H with ⟨c17b0,H⟩|⟨c17b0,H⟩
           · generalize hji18:(wrap64 (x5_1+1))=ji18 at H
             (try rw [hji18] at c17b0)
             have hji18w:(IntKind.i64.wrap (x5_1+1))=ji18:=(dZ _).trans hji18
             replace H:=zdn H
             obtain ⟨c19b0,H⟩:=H
             replace H:=ze H
             rcases H with ⟨c21b0,c21b1,H⟩|⟨c21b0,c21b1,H⟩
             · obtain rfl:=Option.some.inj H
               obtain ⟨p10,q10,hx10⟩:=zb a0 x5_1
               obtain ⟨p13,q13,hx13⟩:=zb a0 a1
               obtain ⟨p20,q20,hx20⟩:=zb a0 (ji18)
               go_wp2
               repeat (go_quiet (fail);try go_wp2)
               go_ret
               exact ⟨by first|rfl|(simp;done)|(simp only [←hji18]<;>(first|rfl|simp))|(simp [*];done),zq⟩
             · have H':=z0 H
               clear H
               obtain ⟨p10,q10,hx10⟩:=zb a0 x5_1
               obtain ⟨p13,q13,hx13⟩:=zb a0 a1
               obtain ⟨p20,q20,hx20⟩:=zb a0 (ji18)
               go_wp2
               repeat (go_quiet (fail);try go_wp2)
               go_roundg kj2
               case measure=>have:=HK1.out;have:=HJ2.out;omega
               case rel=>exact ⟨(wrap64 ((ji18)+1)),(by first|rfl|(simp;done)|(simp only [←hji18]<;>(first|rfl|simp))|(simp [*];done)),H',⟨by have:=HK1.out;have:=HJ2.out;omega⟩,zq⟩
           · have H':=z0 H
             clear H
             obtain ⟨p10,q10,hx10⟩:=zb a0 x5_1
             obtain ⟨p13,q13,hx13⟩:=zb a0 a1
             go_wp2
             repeat (go_quiet (fail);try go_wp2)
             go_roundg kj2
             case measure=>have:=HK1.out;have:=HJ2.out;omega
             case rel=>exact ⟨(wrap64 ((wrap64 (x5_1+1))+1)),zr,H',⟨by have:=HK1.out;have:=HJ2.out;omega⟩,zq⟩
         · have H':=z0 H
           clear H
           obtain ⟨p10,q10,hx10⟩:=zb a0 x5_1
           obtain ⟨p13,q13,hx13⟩:=zb a0 a1
           go_wp2
           repeat (go_quiet (fail);try go_wp2)
           go_roundg kj2
           case measure=>have:=HK1.out;have:=HJ2.out;omega
           case rel=>exact ⟨(wrap64 (x5_1+1)),zr,H',⟨by have:=HK1.out;have:=HJ2.out;omega⟩,zq⟩
     · replace c7:=Bool.eq_false_iff.mpr c7
       subst c7
       rw [if_neg nofun] at H
       obtain rfl:=Option.some.inj H
       go_wp2
       repeat (go_quiet (fail);try go_wp2)
       go_ret
       exact ⟨zr,zq⟩
def iI.f:Option (List ByteArray):=some (([(⟨#[46,46,46]⟩:ByteArray),(⟨#[60,60,61]⟩:ByteArray),(⟨#[62,62,61]⟩:ByteArray),(⟨#[60,60]⟩:ByteArray),(⟨#[62,62]⟩:ByteArray),(⟨#[60,61]⟩:ByteArray),(⟨#[62,61]⟩:ByteArray),(⟨#[61,61]⟩:ByteArray),(⟨#[33,61]⟩:ByteArray),(⟨#[38,38]⟩:ByteArray),(⟨#[124,124]⟩:ByteArray),(⟨#[43,43]⟩:ByteArray),(⟨#[45,45]⟩:ByteArray),(⟨#[43,61]⟩:ByteArray),(⟨#[45,61]⟩:ByteArray),(⟨#[42,61]⟩:ByteArray),(⟨#[47,61]⟩:ByteArray),(⟨#[37,61]⟩:ByteArray),(⟨#[38,61]⟩:ByteArray),(⟨#[124,61]⟩:ByteArray),(⟨#[94,61]⟩:ByteArray),(⟨#[45,62]⟩:ByteArray),(⟨#[43]⟩:ByteArray),(⟨#[45]⟩:ByteArray),(⟨#[42]⟩:ByteArray),(⟨#[47]⟩:ByteArray),(⟨#[37]⟩:ByteArray),(⟨#[38]⟩:ByteArray),(⟨#[124]⟩:ByteArray),(⟨#[94]⟩:ByteArray),(⟨#[33]⟩:ByteArray),(⟨#[126]⟩:ByteArray),(⟨#[60]⟩:ByteArray),(⟨#[62]⟩:ByteArray),(⟨#[61]⟩:ByteArray),(⟨#[63]⟩:ByteArray),(⟨#[58]⟩:ByteArray),(⟨#[59]⟩:ByteArray),(⟨#[44]⟩:ByteArray),(⟨#[46]⟩:ByteArray),(⟨#[40]⟩:ByteArray),(⟨#[41]⟩:ByteArray),(⟨#[91]⟩:ByteArray),(⟨#[93]⟩:ByteArray),(⟨#[123]⟩:ByteArray),(⟨#[125]⟩:ByteArray),(⟨#[35]⟩:ByteArray)]:List ByteArray))
theorem iI.calls (r:List ByteArray)(w:World)(h:iI.f=some r):
 Calls Tryz.prog 196 #[] w fun e w'=>∃v0_:Value,e= .returned (v0_)∧Kd.R Kd.string 9 w' w.heap.size (fun _=>True) v0_ r∧Below w.heap.size w w':=by
 have HB:=z0 (Below.refl w.heap.size w)
 have H:=h
 clear h
 unfold iI.f at H
 obtain ⟨y121,hy121⟩:∃y_:List ByteArray,y_=(([(⟨#[46,46,46]⟩:ByteArray),(⟨#[60,60,61]⟩:ByteArray),(⟨#[62,62,61]⟩:ByteArray),(⟨#[60,60]⟩:ByteArray),(⟨#[62,62]⟩:ByteArray),(⟨#[60,61]⟩:ByteArray),(⟨#[62,61]⟩:ByteArray),(⟨#[61,61]⟩:ByteArray),(⟨#[33,61]⟩:ByteArray),(⟨#[38,38]⟩:ByteArray),(⟨#[124,124]⟩:ByteArray),(⟨#[43,43]⟩:ByteArray),(⟨#[45,45]⟩:ByteArray),(⟨#[43,61]⟩:ByteArray),(⟨#[45,61]⟩:ByteArray),(⟨#[42,61]⟩:ByteArray),(⟨#[47,61]⟩:ByteArray),(⟨#[37,61]⟩:ByteArray),(⟨#[38,61]⟩:ByteArray),(⟨#[124,61]⟩:ByteArray),(⟨#[94,61]⟩:ByteArray),(⟨#[45,62]⟩:ByteArray),(⟨#[43]⟩:ByteArray),(⟨#[45]⟩:ByteArray),(⟨#[42]⟩:ByteArray),(⟨#[47]⟩:ByteArray),(⟨#[37]⟩:ByteArray),(⟨#[38]⟩:ByteArray),(⟨#[124]⟩:ByteArray),(⟨#[94]⟩:ByteArray),(⟨#[33]⟩:ByteArray),(⟨#[126]⟩:ByteArray),(⟨#[60]⟩:ByteArray),(⟨#[62]⟩:ByteArray),(⟨#[61]⟩:ByteArray),(⟨#[63]⟩:ByteArray),(⟨#[58]⟩:ByteArray),(⟨#[59]⟩:ByteArray),(⟨#[44]⟩:ByteArray),(⟨#[46]⟩:ByteArray),(⟨#[40]⟩:ByteArray),(⟨#[41]⟩:ByteArray),(⟨#[91]⟩:ByteArray),(⟨#[93]⟩:ByteArray),(⟨#[123]⟩:ByteArray),(⟨#[125]⟩:ByteArray),(⟨#[35]⟩:ByteArray)]:List ByteArray)):=⟨_,rfl⟩
 replace H:(some y121)=some r:=by first|(rw [hy121];with_reducible exact H)|(have H2_:=(Option.bind_some _ _).symm.trans H;rw [hy121];with_reducible exact H2_)|(have H2_:=(Option.bind_some _ _).symm.trans H;with_reducible exact H2_)|with_reducible exact H|(rw [hy121];exact H)|exact H
 have Ny121:=z0 hy121
 clear hy121
 obtain rfl:=Option.some.inj H
 go_enter Tryz.func196,Tryz.ntmps196
 go_wp2_with (first|((with_reducible refine iP (N:=1) rfl ?_);refine Kd.xK Kd.string _ 9 ?hg (N:=1) ?hd (xs:=([(⟨#[46,46,46]⟩:ByteArray),(⟨#[60,60,61]⟩:ByteArray),(⟨#[62,62,61]⟩:ByteArray),(⟨#[60,60]⟩:ByteArray),(⟨#[62,62]⟩:ByteArray),(⟨#[60,61]⟩:ByteArray),(⟨#[62,61]⟩:ByteArray),(⟨#[61,61]⟩:ByteArray),(⟨#[33,61]⟩:ByteArray),(⟨#[38,38]⟩:ByteArray),(⟨#[124,124]⟩:ByteArray),(⟨#[43,43]⟩:ByteArray),(⟨#[45,45]⟩:ByteArray),(⟨#[43,61]⟩:ByteArray),(⟨#[45,61]⟩:ByteArray),(⟨#[42,61]⟩:ByteArray),(⟨#[47,61]⟩:ByteArray),(⟨#[37,61]⟩:ByteArray),(⟨#[38,61]⟩:ByteArray),(⟨#[124,61]⟩:ByteArray),(⟨#[94,61]⟩:ByteArray),(⟨#[45,62]⟩:ByteArray),(⟨#[43]⟩:ByteArray),(⟨#[45]⟩:ByteArray),(⟨#[42]⟩:ByteArray),(⟨#[47]⟩:ByteArray),(⟨#[37]⟩:ByteArray),(⟨#[38]⟩:ByteArray),(⟨#[124]⟩:ByteArray),(⟨#[94]⟩:ByteArray),(⟨#[33]⟩:ByteArray),(⟨#[126]⟩:ByteArray),(⟨#[60]⟩:ByteArray),(⟨#[62]⟩:ByteArray),(⟨#[61]⟩:ByteArray),(⟨#[63]⟩:ByteArray),(⟨#[58]⟩:ByteArray),(⟨#[59]⟩:ByteArray),(⟨#[44]⟩:ByteArray),(⟨#[46]⟩:ByteArray),(⟨#[40]⟩:ByteArray),(⟨#[41]⟩:ByteArray),(⟨#[91]⟩:ByteArray),(⟨#[93]⟩:ByteArray),(⟨#[123]⟩:ByteArray),(⟨#[125]⟩:ByteArray),(⟨#[35]⟩:ByteArray)]:List ByteArray)) (inner:=[.string (⟨#[46,46,46]⟩:ByteArray),.string (⟨#[60,60,61]⟩:ByteArray),.string (⟨#[62,62,61]⟩:ByteArray),.string (⟨#[60,60]⟩:ByteArray),.string (⟨#[62,62]⟩:ByteArray),.string (⟨#[60,61]⟩:ByteArray),.string (⟨#[62,61]⟩:ByteArray),.string (⟨#[61,61]⟩:ByteArray),.string (⟨#[33,61]⟩:ByteArray),.string (⟨#[38,38]⟩:ByteArray),.string (⟨#[124,124]⟩:ByteArray),.string (⟨#[43,43]⟩:ByteArray),.string (⟨#[45,45]⟩:ByteArray),.string (⟨#[43,61]⟩:ByteArray),.string (⟨#[45,61]⟩:ByteArray),.string (⟨#[42,61]⟩:ByteArray),.string (⟨#[47,61]⟩:ByteArray),.string (⟨#[37,61]⟩:ByteArray),.string (⟨#[38,61]⟩:ByteArray),.string (⟨#[124,61]⟩:ByteArray),.string (⟨#[94,61]⟩:ByteArray),.string (⟨#[45,62]⟩:ByteArray),.string (⟨#[43]⟩:ByteArray),.string (⟨#[45]⟩:ByteArray),.string (⟨#[42]⟩:ByteArray),.string (⟨#[47]⟩:ByteArray),.string (⟨#[37]⟩:ByteArray),.string (⟨#[38]⟩:ByteArray),.string (⟨#[124]⟩:ByteArray),.string (⟨#[94]⟩:ByteArray),.string (⟨#[33]⟩:ByteArray),.string (⟨#[126]⟩:ByteArray),.string (⟨#[60]⟩:ByteArray),.string (⟨#[62]⟩:ByteArray),.string (⟨#[61]⟩:ByteArray),.string (⟨#[63]⟩:ByteArray),.string (⟨#[58]⟩:ByteArray),.string (⟨#[59]⟩:ByteArray),.string (⟨#[44]⟩:ByteArray),.string (⟨#[46]⟩:ByteArray),.string (⟨#[40]⟩:ByteArray),.string (⟨#[41]⟩:ByteArray),.string (⟨#[91]⟩:ByteArray),.string (⟨#[93]⟩:ByteArray),.string (⟨#[123]⟩:ByteArray),.string (⟨#[125]⟩:ByteArray),.string (⟨#[35]⟩:ByteArray)]) (ok:=fun _=>True) (okp:=fun _=>True) ?hr ?hp (fun _ hk=>hk) trivial (Below.refl _ _) (Nat.le_refl _) (by simp) ?_;(case hd=>rfl);(case hg=>rfl);(case hr=>first|(go_simp;done)|(go_simp;rfl));(case hp=>exact (dJ.one (show Kd.M Kd.string _ _ _ (⟨#[46,46,46]⟩:ByteArray) [.string (⟨#[46,46,46]⟩:ByteArray)] from rfl) (dJ.one (show Kd.M Kd.string _ _ _ (⟨#[60,60,61]⟩:ByteArray) [.string (⟨#[60,60,61]⟩:ByteArray)] from rfl) (dJ.one (show Kd.M Kd.string _ _ _ (⟨#[62,62,61]⟩:ByteArray) [.string (⟨#[62,62,61]⟩:ByteArray)] from rfl) (dJ.one (show Kd.M Kd.string _ _ _ (⟨#[60,60]⟩:ByteArray) [.string (⟨#[60,60]⟩:ByteArray)] from rfl) (dJ.one (show Kd.M Kd.string _ _ _ (⟨#[62,62]⟩:ByteArray) [.string (⟨#[62,62]⟩:ByteArray)] from rfl) (dJ.one (show Kd.M Kd.string _ _ _ (⟨#[60,61]⟩:ByteArray) [.string (⟨#[60,61]⟩:ByteArray)] from rfl) (dJ.one (show Kd.M Kd.string _ _ _ (⟨#[62,61]⟩:ByteArray) [.string (⟨#[62,61]⟩:ByteArray)] from rfl) (dJ.one (show Kd.M Kd.string _ _ _ (⟨#[61,61]⟩:ByteArray) [.string (⟨#[61,61]⟩:ByteArray)] from rfl) (dJ.one (show Kd.M Kd.string _ _ _ (⟨#[33,61]⟩:ByteArray) [.string (⟨#[33,61]⟩:ByteArray)] from rfl) (dJ.one (show Kd.M Kd.string _ _ _ (⟨#[38,38]⟩:ByteArray) [.string (⟨#[38,38]⟩:ByteArray)] from rfl) (dJ.one (show Kd.M Kd.string _ _ _ (⟨#[124,124]⟩:ByteArray) [.string (⟨#[124,124]⟩:ByteArray)] from rfl) (dJ.one (show Kd.M Kd.string _ _ _ (⟨#[43,43]⟩:ByteArray) [.string (⟨#[43,43]⟩:ByteArray)] from rfl) (dJ.one (show Kd.M Kd.string _ _ _ (⟨#[45,45]⟩:ByteArray) [.string (⟨#[45,45]⟩:ByteArray)] from rfl) (dJ.one (show Kd.M Kd.string _ _ _ (⟨#[43,61]⟩:ByteArray) [.string (⟨#[43,61]⟩:ByteArray)] from rfl) (dJ.one (show Kd.M Kd.string _ _ _ (⟨#[45,61]⟩:ByteArray) [.string (⟨#[45,61]⟩:ByteArray)] from rfl) (dJ.one (show Kd.M Kd.string _ _ _ (⟨#[42,61]⟩:ByteArray) [.string (⟨#[42,61]⟩:ByteArray)] from rfl) (dJ.one (show Kd.M Kd.string _ _ _ (⟨#[47,61]⟩:ByteArray) [.string (⟨#[47,61]⟩:ByteArray)] from rfl) (dJ.one (show Kd.M Kd.string _ _ _ (⟨#[37,61]⟩:ByteArray) [.string (⟨#[37,61]⟩:ByteArray)] from rfl) (dJ.one (show Kd.M Kd.string _ _ _ (⟨#[38,61]⟩:ByteArray) [.string (⟨#[38,61]⟩:ByteArray)] from rfl) (dJ.one (show Kd.M Kd.string _ _ _ (⟨#[124,61]⟩:ByteArray) [.string (⟨#[124,61]⟩:ByteArray)] from rfl) (dJ.one (show Kd.M Kd.string _ _ _ (⟨#[94,61]⟩:ByteArray) [.string (⟨#[94,61]⟩:ByteArray)] from rfl) (dJ.one (show Kd.M Kd.string _ _ _ (⟨#[45,62]⟩:ByteArray) [.string (⟨#[45,62]⟩:ByteArray)] from rfl) (dJ.one (show Kd.M Kd.string _ _ _ (⟨#[43]⟩:ByteArray) [.string (⟨#[43]⟩:ByteArray)] from rfl) (dJ.one (show Kd.M Kd.string _ _ _ (⟨#[45]⟩:ByteArray) [.string (⟨#[45]⟩:ByteArray)] from rfl) (dJ.one (show Kd.M Kd.string _ _ _ (⟨#[42]⟩:ByteArray) [.string (⟨#[42]⟩:ByteArray)] from rfl) (dJ.one (show Kd.M Kd.string _ _ _ (⟨#[47]⟩:ByteArray) [.string (⟨#[47]⟩:ByteArray)] from rfl) (dJ.one (show Kd.M Kd.string _ _ _ (⟨#[37]⟩:ByteArray) [.string (⟨#[37]⟩:ByteArray)] from rfl) (dJ.one (show Kd.M Kd.string _ _ _ (⟨#[38]⟩:ByteArray) [.string (⟨#[38]⟩:ByteArray)] from rfl) (dJ.one (show Kd.M Kd.string _ _ _ (⟨#[124]⟩:ByteArray) [.string (⟨#[124]⟩:ByteArray)] from rfl) (dJ.one (show Kd.M Kd.string _ _ _ (⟨#[94]⟩:ByteArray) [.string (⟨#[94]⟩:ByteArray)] from rfl) (dJ.one (show Kd.M Kd.string _ _ _ (⟨#[33]⟩:ByteArray) [.string (⟨#[33]⟩:ByteArray)] from rfl) (dJ.one (show Kd.M Kd.string _ _ _ (⟨#[126]⟩:ByteArray) [.string (⟨#[126]⟩:ByteArray)] from rfl) (dJ.one (show Kd.M Kd.string _ _ _ (⟨#[60]⟩:ByteArray) [.string (⟨#[60]⟩:ByteArray)] from rfl) (dJ.one (show Kd.M Kd.string _ _ _ (⟨#[62]⟩:ByteArray) [.string (⟨#[62]⟩:ByteArray)] from rfl) (dJ.one (show Kd.M Kd.string _ _ _ (⟨#[61]⟩:ByteArray) [.string (⟨#[61]⟩:ByteArray)] from rfl) (dJ.one (show Kd.M Kd.string _ _ _ (⟨#[63]⟩:ByteArray) [.string (⟨#[63]⟩:ByteArray)] from rfl) (dJ.one (show Kd.M Kd.string _ _ _ (⟨#[58]⟩:ByteArray) [.string (⟨#[58]⟩:ByteArray)] from rfl) (dJ.one (show Kd.M Kd.string _ _ _ (⟨#[59]⟩:ByteArray) [.string (⟨#[59]⟩:ByteArray)] from rfl) (dJ.one (show Kd.M Kd.string _ _ _ (⟨#[44]⟩:ByteArray) [.string (⟨#[44]⟩:ByteArray)] from rfl) (dJ.one (show Kd.M Kd.string _ _ _ (⟨#[46]⟩:ByteArray) [.string (⟨#[46]⟩:ByteArray)] from rfl) (dJ.one (show Kd.M Kd.string _ _ _ (⟨#[40]⟩:ByteArray) [.string (⟨#[40]⟩:ByteArray)] from rfl) (dJ.one (show Kd.M Kd.string _ _ _ (⟨#[41]⟩:ByteArray) [.string (⟨#[41]⟩:ByteArray)] from rfl) (dJ.one (show Kd.M Kd.string _ _ _ (⟨#[91]⟩:ByteArray) [.string (⟨#[91]⟩:ByteArray)] from rfl) (dJ.one (show Kd.M Kd.string _ _ _ (⟨#[93]⟩:ByteArray) [.string (⟨#[93]⟩:ByteArray)] from rfl) (dJ.one (show Kd.M Kd.string _ _ _ (⟨#[123]⟩:ByteArray) [.string (⟨#[123]⟩:ByteArray)] from rfl) (dJ.one (show Kd.M Kd.string _ _ _ (⟨#[125]⟩:ByteArray) [.string (⟨#[125]⟩:ByteArray)] from rfl) (dJ.one (show Kd.M Kd.string _ _ _ (⟨#[35]⟩:ByteArray) [.string (⟨#[35]⟩:ByteArray)] from rfl) (dJ.none _ _)))))))))))))))))))))))))))))))))))))))))))))))));intro v122 w1 ho2 hb hg_ hnew_;clear hg_ hnew_;(first|rw [←Ny121.out] at ho2|(simp only [Int.reduceToNat] at ho2;rw [←Ny121.out] at ho2));have n0_:=z0 (Kd.fZ ho2 (aQ zw));have n1_:=z0 (ak zw hb);revert n0_ n1_;clear HB;intro HO123 HB;clear hb ho2))
 go_ret
 exact ⟨_,zv,by (with_reducible repeat (first|apply Kd.dP|apply Kd.dS|apply Kd.fU));exact HO123.out,zw⟩
def dI.l0:Nat→ByteArray→Int→ByteArray→List ByteArray→Int→Option (ByteArray)
 |0,_,_,_,_,_=>none
 |k+1,x0,x1,x5,x6,x7=>if x7<(x6.length:Int) then (if 0≤x7 then (if ((jv ByteArray.empty x6 x7).size:Int)>(x5.size:Int) then ((cO.f x0 x1 (jv ByteArray.empty x6 x7)).bind fun t129=>(if t129=true then (dI.l0 k x0 x1 (jv ByteArray.empty x6 x7) x6 (wrap64 (x7+1))) else (dI.l0 k x0 x1 x5 x6 (wrap64 (x7+1))))) else (dI.l0 k x0 x1 x5 x6 (wrap64 (x7+1)))) else (none)) else (some x5)
def dI.f (k:Nat)(a0:ByteArray)(a1:Int):Option (ByteArray):=(iI.f).bind fun t124=>(dI.l0 k a0 a1 (⟨#[]⟩:ByteArray) t124 0)
theorem dI.calls (k:Nat)(a0:ByteArray)(a1:Int)(r:ByteArray)(w:World)(h:dI.f k a0 a1=some r):
 Calls Tryz.prog 181 #[.string a0,.int .i64 a1] w fun e w'=>e= .returned (.string r)∧Below w.heap.size w w':=by
 have HB:=z0 (Below.refl w.heap.size w)
 have H:=h
 clear h
 unfold dI.f at H
 replace H:=zo H
 obtain ⟨t124,A3,H⟩:=H
 (try dsimp only at H)
 have H':=z0 H
 clear H
 go_enter Tryz.func181,Tryz.ntmps181
 go_wp2_with (first|(refine zc 8 rfl Tryz.func196 #[] ?_;(with_reducible refine (iI.calls t124 _ A3.out).mono ?_);rintro e w4 ⟨v125,rfl,ho0,hb⟩;refine ⟨_,rfl,?_⟩;have n0_:=z0 (Kd.fZ ho0 (aQ zw));have n1_:=z0 (ak zw hb);revert n0_ n1_;clear HB;intro HO126 HB;(try clear hb);(try clear hk);(try clear hi);(try clear ho0)))
 (try go_simp)
 go_loopg [5,7] k (fun kq v5 v7 w'=>∃(x5_1:ByteArray) (x7_1:Int),v5= .string x5_1∧v7= .int .i64 x7_1∧ah (dI.l0 kq a0 a1 x5_1 t124 x7_1=some r)∧ah (kq≤k)∧ah (Kd.R Kd.string 9 w' w.heap.size (fun _=>True) v125 t124)∧ah (Below w.heap.size w w'))
 case atStart=>exact ⟨((⟨#[]⟩:ByteArray)),(0),zr,zr,H',⟨Nat.le_refl _⟩,⟨by (with_reducible repeat (first|apply Kd.dP|apply Kd.dS|apply Kd.fU));exact HO126.out⟩,⟨zw⟩⟩
 case round=>
  clear H'
  obtain ⟨x5_1,x7_1,rfl,rfl,HA,HK1,HO_6,HB⟩:=hrel
  cases gk with
  |zero=>exact absurd HA.out (by simp [dI.l0])
  |succ k1=>
   have H:=HA.out
   clear HA
   simp only [dI.l0] at H
   replace H:=zd H
   rcases H with ⟨c5b0,H⟩|⟨c5b0,H⟩
   · replace H:=zdn H
     obtain ⟨c6b0,H⟩:=H
     by_cases c7:((jv ByteArray.empty t124 x7_1).size:Int)>(x5_1.size:Int)
     · rw [if_pos c7] at H
       have c7b0:decide ((x5_1.size:Int)<((jv ByteArray.empty t124 x7_1).size:Int))=true:=decide_eq_true c7
       have c7b1:decide (x5_1.size<(jv ByteArray.empty t124 x7_1).size)=true:=decide_eq_true (Int.ofNat_lt.mp c7)
       clear c7
       replace H:=zo H
       obtain ⟨t129,A8,H⟩:=H
       (try dsimp only at H)
       by_cases c9:t129=true
       · subst c9
         rw [if_pos rfl] at H
         have H':=z0 H
         clear H
         obtain ⟨Ao10,co10,eo10⟩:=Kd.bF HO_6.out
         subst eo10
         have p127:0≤(x7_1:Int):=of_decide_eq_true (by first|(with_reducible assumption)|assumption)
         have q127:x7_1<(t124.length:Int):=of_decide_eq_true (by first|(with_reducible assumption)|assumption)
         obtain ⟨ad127,e127,hx127_0⟩:=Kd.fF (Kd.aZ HO_6.out).2.2 x7_1 p127 q127
         cases e127
         replace p127:=eq_true p127
         replace q127:=eq_true q127
         have p128:0≤(x7_1:Int):=of_decide_eq_true (by first|(with_reducible assumption)|assumption)
         have q128:x7_1<(t124.length:Int):=of_decide_eq_true (by first|(with_reducible assumption)|assumption)
         obtain ⟨ad128,e128,hx128_0⟩:=Kd.fF (Kd.aZ HO_6.out).2.2 x7_1 p128 q128
         obtain rfl:ad127=ad128:=(by injection e128)
         replace p128:=eq_true p128
         replace q128:=eq_true q128
         go_wp2_with (first|(go_at_call 194;(with_reducible refine (cO.calls a0 a1 (jv ByteArray.empty t124 x7_1) true _ A8.out).mono ?_);rintro e w' ⟨rfl,⟨nd,rfl⟩⟩;have p130:0≤(x7_1:Int):=of_decide_eq_true (by first|(with_reducible assumption)|assumption);have q130:x7_1<(t124.length:Int):=of_decide_eq_true (by first|(with_reducible assumption)|assumption);obtain ⟨ad130,e130,hx130_0⟩:=Kd.fF (Kd.aZ HO_6.out).2.2 x7_1 p130 q130;obtain rfl:ad127=ad130:=(by injection e130);replace p130:=eq_true p130;replace q130:=eq_true q130))
         go_roundg k1
         case measure=>have:=HK1.out;omega
         case rel=>exact ⟨(jv ByteArray.empty t124 x7_1),(wrap64 (x7_1+1)),zr,zr,H',⟨by have:=HK1.out;omega⟩,⟨by (with_reducible repeat (first|apply Kd.dP|apply Kd.dS|apply Kd.fU));exact HO_6.out⟩,⟨zw⟩⟩
       · replace c9:=Bool.eq_false_iff.mpr c9
         subst c9
         rw [if_neg nofun] at H
         have H':=z0 H
         clear H
         obtain ⟨Ao11,co11,eo11⟩:=Kd.bF HO_6.out
         subst eo11
         have p127:0≤(x7_1:Int):=of_decide_eq_true (by first|(with_reducible assumption)|assumption)
         have q127:x7_1<(t124.length:Int):=of_decide_eq_true (by first|(with_reducible assumption)|assumption)
         obtain ⟨ad127,e127,hx127_0⟩:=Kd.fF (Kd.aZ HO_6.out).2.2 x7_1 p127 q127
         cases e127
         replace p127:=eq_true p127
         replace q127:=eq_true q127
         have p128:0≤(x7_1:Int):=of_decide_eq_true (by first|(with_reducible assumption)|assumption)
         have q128:x7_1<(t124.length:Int):=of_decide_eq_true (by first|(with_reducible assumption)|assumption)
         obtain ⟨ad128,e128,hx128_0⟩:=Kd.fF (Kd.aZ HO_6.out).2.2 x7_1 p128 q128
         obtain rfl:ad127=ad128:=(by injection e128)
         replace p128:=eq_true p128
         replace q128:=eq_true q128
         go_wp2_with (first|(go_at_call 194;(with_reducible refine (cO.calls a0 a1 (jv ByteArray.empty t124 x7_1) false _ A8.out).mono ?_);rintro e w' ⟨rfl,⟨nd,rfl⟩⟩))
         go_roundg k1
         case measure=>have:=HK1.out;omega
         case rel=>exact ⟨(x5_1),(wrap64 (x7_1+1)),zr,zr,H',⟨by have:=HK1.out;omega⟩,⟨by (with_reducible repeat (first|apply Kd.dP|apply Kd.dS|apply Kd.fU));exact HO_6.out⟩,⟨zw⟩⟩
     · rw [if_neg c7] at H
       have c7b0:decide ((x5_1.size:Int)<((jv ByteArray.empty t124 x7_1).size:Int))=false:=decide_eq_false c7
       have c7b1:decide (x5_1.size<(jv ByteArray.empty t124 x7_1).size)=false:=decide_eq_false (fun h=>c7 (Int.ofNat_lt.mpr h))
       clear c7
       have H':=z0 H
       clear H
       obtain ⟨Ao12,co12,eo12⟩:=Kd.bF HO_6.out
       subst eo12
       have p127:0≤(x7_1:Int):=of_decide_eq_true (by first|(with_reducible assumption)|assumption)
       have q127:x7_1<(t124.length:Int):=of_decide_eq_true (by first|(with_reducible assumption)|assumption)
       obtain ⟨ad127,e127,hx127_0⟩:=Kd.fF (Kd.aZ HO_6.out).2.2 x7_1 p127 q127
       cases e127
       replace p127:=eq_true p127
       replace q127:=eq_true q127
       go_wp2
       go_roundg k1
       case measure=>have:=HK1.out;omega
       case rel=>exact ⟨(x5_1),(wrap64 (x7_1+1)),zr,zr,H',⟨by have:=HK1.out;omega⟩,⟨by (with_reducible repeat (first|apply Kd.dP|apply Kd.dS|apply Kd.fU));exact HO_6.out⟩,⟨zw⟩⟩
   · obtain rfl:=Option.some.inj H
     obtain ⟨Ao13,co13,eo13⟩:=Kd.bF HO_6.out
     subst eo13
     go_wp2
     go_ret
     exact ⟨zv,zw⟩
end Go.Proofs.YtolaiebjmhieiaaGreatDoor.ORef
end
