/- HeadUsers: for every list of files, every name and every list of places the law answers true, and all read behind the call as before; the listed tables are tied to the text of the program; no condition. -/
import Derived.Test.YtolaiebjmhieiaaGreatDoorM01
import Derived.Test.YtolaiebjmhieiaaGreatDoorM11
import Derived.Test.YtolaiebjmhieiaaGreatDoorCards
import Derived.Test.YtolaiebjmhieiaaGreatDoorTie
import Derived.WalkKit
import Derived.ProofKit
import Derived.OpenShut
import Derived.ShutString
import Derived.ChangeOld
import Derived.ChangeSame
import Derived.Below
import Derived.SizedLaws
import Derived.Deep.Slices
import Derived.Deep.DeepHandedRow
import Derived.Deep.DeepWitnessRowRef
import Derived.Deep.DeepLaidRun
import Derived.Lib.LaidIn
import Derived.Lib.LaidU8
import Derived.Shelf.Vars
set_option maxHeartbeats 8000000
set_option maxRecDepth 100000
set_option linter.unusedVariables false
set_option linter.unusedSimpArgs false
section
namespace Go.Proofs.YtolaiebjmhieiaaGreatDoor.headUsers
open Go.ChangeShapes Go.WideShapes Go.ChangeAt Go.RowKit
open Go.ChangeMaps (open_string shut_string)
open YtolaiebjmhieiaaGreatDoorW.PrintWords Go.Proofs.YtolaiebjmhieiaaGreatDoor.OScan
theorem own:ownKnob Tryz.prog.godebug=none:=by kernel_rfl
theorem laidOut:laidOutB Tryz.prog=true:=by kernel_rfl
theorem y7 {α:Type}{D:Kd α}{H:Type}{Q:DataW H→α→Prop}{enc:TypeId × Value→H}{P:Program}{W:World}{base b0:Nat}{r:Reach}{sp:Nat→Bool}{held:Bool}{t e:TypeId}{v:Value}{d:DataW H}{p:List MemPlace}
 (ht:P.underlying t=some (.slice e)) (hC:P.cellsOf e=D.sz) (hel:∀{n:Nat} {cs:List Value} {x:DataW H × List MemPlace},DataW.trod enc P W base sp held n e cs=some x→∃a,D.K W a cs∧Q x.1 a)
 (hv:Value.okWide P W r b0 t v) (h:DataW.Trod enc P W base sp held t v d p):
 ∃(A:Option Addr) (c:Nat) (l:List α),v= .slice A l.length c∧Kd.C D W A l.length l∧l.length≤c∧(A=none∨∃b o,A=some ⟨b,o,none⟩)∧
  (l=[]∨∃elems spare,d= .slice elems spare∧elems.length=l.length∧∀(i:Nat) (y:α),l[i]? =some y→∃dd,elems[i]? =some dd∧Q dd y):=by
 obtain ⟨a0,len0,cap0,rfl⟩:=okWide_slice ht hv
 have hsp:a0=none∨∃b o,a0=some ⟨b,o,none⟩:=by
  cases a0 with
  |none=>exact .inl rfl
  |some a=>
   simp only [Value.okWide,ht,Cell.okWide,Cell.ok] at hv
   obtain ⟨_,_,_,h2,_⟩:=hv
   obtain ⟨b,o,s⟩:=a
   simp only at h2
   subst h2
   exact .inr ⟨b,o,rfl⟩
 obtain ⟨fuel,hf⟩:=h
 rcases Go.Deep.open_slice ht hf with ⟨hcs,_⟩|⟨a,len,cap,m,n,D',Pl,hcs,_,hl,hm,hmm,hx0,hi⟩
 · simp [Value.cells] at hcs
   obtain ⟨rfl,rfl,rfl⟩:=hcs
   exact ⟨none,0,[],rfl,⟨rfl,by simp,fun hn=>absurd hn (by simp)⟩,by simp,.inl rfl,.inl rfl⟩
 · simp [Value.cells] at hcs
   obtain ⟨rfl,rfl,rfl⟩:=hcs
   have hlm:len0≤m:=by rw [hmm];split<;>omega
   have each:∀i,i<len0→∃y:α,Q (D' i) y∧∃c:List Value,c.length=D.sz∧D.K W y c∧∀j u,c[j]? =some u→W.cell? (a.add (i*D.sz+j))=some u:=by
    intro i hil
    obtain ⟨cs',hc,ht'⟩:=hi i (by omega)
    obtain ⟨y,hy,hq⟩:=hel ht'
    obtain ⟨_,hcl,hat⟩:=World.cells?_some hc
    refine ⟨y,hq,cs',by rw [hcl,hC],hy,fun j u hu=> ?_⟩
    have hj:j<P.cellsOf e:=by
     have:=(List.getElem?_eq_some_iff.1 hu).1
     omega
    have:=hat j hj
    rw [hu] at this
    rw [←hC,←Go.Deep.add_add]
    exact this
   have:∃l:List α,l.length=len0∧∀(i:Nat) (y:α),l[i]? =some y→Q (D' i) y∧∃c:List Value,c.length=D.sz∧D.K W y c∧∀j u,c[j]? =some u→W.cell? (a.add (i*D.sz+j))=some u:=by
    clear hi hlm hl hmm hf hv hx0
    induction len0 with
    |zero=>exact ⟨[],rfl,fun i y hy=>by simp at hy⟩
    |succ len0 ih=>
     obtain ⟨l,hll,hle⟩:=ih (fun i hil=>each i (by omega))
     obtain ⟨y,hy⟩:=each len0 (by omega)
     refine ⟨l++[y],by simp [hll],fun i z hz=> ?_⟩
     by_cases hil:i<l.length
     · rw [List.getElem?_append_left hil] at hz
       exact hle i z hz
     · rw [List.getElem?_append_right (by omega)] at hz
       have hi0:i-l.length=0:=by
        have:=(List.getElem?_eq_some_iff.1 hz).1
        simp at this
        omega
       rw [hi0] at hz
       simp at hz
       obtain rfl:i=len0:=by omega
       rw [←hz]
       exact hy
   obtain ⟨l,hll,hle⟩:=this
   refine ⟨some a,cap0,l,by rw [hll],⟨rfl,?_,fun _=>⟨a,rfl,fun i y hy=>(hle i y hy).2⟩⟩,by rw [hll];exact hl,hsp,.inr ⟨_,_,congrArg Prod.fst hx0,by rw [List.length_map,List.length_range,hll],fun i y hy=>⟨D' i,?_,(hle i y hy).1⟩⟩⟩
   · rw [hll]
     unfold maxLen at hm
     omega
   · have hil:i<len0:=by rw [←hll];exact (List.getElem?_eq_some_iff.1 hy).1
     rw [List.getElem?_map,List.getElem?_range hil]
     rfl
theorem weightsAll_mem {H:Type}{P:Program}{e:TypeId}:∀{l:List (DataW H)} {i:Nat} {d:DataW H},l[i]? =some d→∀n∈d.weights P e,n∈DataW.weightsAll P e l
 |[],i,d,h,_,_=>by simp at h
 |a::l,0,d,h,n,hn=>by
  simp only [List.getElem?_cons_zero,Option.some.injEq] at h
  subst h
  exact List.mem_append_left _ hn
 |a::l,i+1,d,h,n,hn=>by
  simp only [List.getElem?_cons_succ] at h
  exact List.mem_append_right _ (weightsAll_mem h n hn)
theorem xw {H:Type}{P:Program}{ts:List TypeId}{ds:List (DataW H)}(h:(DataW.weightsEach P ts ds).all (· ≤reachBytes)=true){j:Nat}{t e:TypeId}{elems spare:List (DataW H)}(ht:ts[j]? =some t)(hd:ds[j]? =some (.slice elems spare))(hu:P.underlying t=some (.slice e))
 {i:Nat} {d:DataW H} (hi:elems[i]? =some d):∀n∈d.weights P e,n≤reachBytes:=fun n hn=>by
 have:=List.all_eq_true.1 h n (DataW.weights_mem_each ht hd n (by
  simp only [DataW.weights,hu]
  exact List.mem_cons_of_mem _ (List.mem_append_left _ (weightsAll_mem hi n hn))))
 simpa using this
theorem L6 {H:Type}{enc:TypeId × Value→H}{W:World}{base:Nat}{sp:Nat→Bool}{held:Bool}{n:Nat}{cs:List Value}{x:DataW H × List MemPlace}(h:DataW.trod enc Tryz.prog W base sp held n 46 cs=some x):
 ∃a:Fl,kFl.K W a cs∧x.1= .agg [.lit (.string a.1.data.toList),.lit (.string a.2.data.toList)]:=by
 obtain ⟨y0,y1,m,hx,hl,h0,h1⟩:=Go.ChangeShapes.trod_struct2 Tryz.underlying46 h
 have hc:Tryz.prog.cellsOf 46=2:=by kernel_rfl
 have h9:Tryz.prog.cellsOf 9=1:=by kernel_rfl
 rw [hc] at hl
 match cs,hl with
 |[c0,c1],_=>
  simp only [h9,List.drop_zero,List.take_succ_cons,List.take_zero,List.drop_succ_cons] at h0 h1
  obtain ⟨s0,e0,f0,_⟩:=DataW.trod_string Tryz.underlying9 h0
  obtain ⟨s1,e1,f1,_⟩:=DataW.trod_string Tryz.underlying9 h1
  simp only [List.cons.injEq,and_true] at e0 e1
  subst e0 e1
  refine ⟨(s0,s1),⟨[.string s0],[.string s1],rfl,rfl,rfl⟩,?_⟩
  rw [hx,f0,f1]
theorem Le {H:Type}{enc:TypeId × Value→H}{W:World}{base:Nat}{sp:Nat→Bool}{held:Bool}{n:Nat}{cs:List Value}{x:DataW H × List MemPlace}(h:DataW.trod enc Tryz.prog W base sp held n 9 cs=some x):
 ∃a:ByteArray,Kd.string.K W a cs∧x.1= .lit (.string a.data.toList):=by
 obtain ⟨s,e,f,_⟩:=DataW.trod_string Tryz.underlying9 h
 subst e
 exact ⟨s,rfl,by rw [f]⟩
theorem J4 (W:World)(hL:laidMetH Tryz.prog Rows.headUsersRow.laid W)(hS:W.ShapedOpen Tryz.prog):jg W:=by
 refine ⟨⟨cell_of_shapedOpen_int (P:=Tryz.prog) (g:=1) (t:=3) (zero:= #[.int .i64 0]) hS (of_decide_eq_true (by kernel_rfl)) (by kernel_rfl) rfl (by kernel_rfl) (by kernel_rfl) Tryz.underlying3,trivial⟩,?_⟩
 have hL':laidMet Tryz.prog Rows.headUsersRow.laid W:=hL
 obtain ⟨g,t,cs,fuel,p,hg,hty,hvar,hd⟩:=Lib.laidMet.reads hL' (n:= "strings.asciiSpace") (.tail _ (.tail _ (.head _)))
 obtain rfl:=Option.some.inj ((show Tryz.prog.globalNamed "strings.asciiSpace"=some 0 by kernel_rfl).symm.trans hg)
 obtain rfl:=Option.some.inj ((show (Tryz.prog.globals[0]?).map (·.type)=some 210 by kernel_rfl).symm.trans hty)
 unfold Lib.TabIs
 rw [hvar]
 have hz:(Rows.laid_strings_asciiSpace:DataW Unit)=Lib.tabData .u8 Lib.asciiSpaceTab:=by kernel_rfl
 rw [hz] at hd
 rw [←Lib.cells_of_tab Tryz.underlying210 Tryz.underlying5 (by kernel_rfl) (by kernel_rfl) hd]
noncomputable def laidWorld (os:Os):World:=
 let N:=(World.settled Tryz.prog os).heap.size
 let w0:=World.holding Tryz.prog os ⟨#[.cells (Lib.whiteT.map fun (z:Nat)=>Value.int .u16 (z:Int)).toArray 240,.cells #[.slice (some ⟨N,0,none⟩) 7 7,.slice none 0 0,.int .i64 2] 237],#[],[]⟩
 let put (h:Array Obj) (g:Nat) (cs:Array Value):Array Obj:=h.modify g fun
  | .cells _ t frozen=> .cells cs t frozen
  |o=>o
 {w0 with heap:=put (put (put (put w0.heap 0 (Lib.asciiSpaceTab.map fun z=>Value.int .u8 z).toArray) 3 (Lib.firstTab.map fun z=>Value.int .u8 z).toArray)
  4 ((List.range 16).flatMap fun i=>[Value.int .u8 (Lib.accLo i),Value.int .u8 (Lib.accHi i)]).toArray) 2 #[.pointer (some ⟨N+1,0,none⟩)]}
noncomputable abbrev start:Array Value:= #[.slice none 0 0,.string ByteArray.empty,.slice none 0 0]
theorem laid_met (os:Os):laidMet Tryz.prog Rows.headUsersRow.laid ((laidWorld os).forCall (fun _ _=>0) ⟨#[],start,[]⟩).memory:=
 laidMet_of_run3 10 (by kernel_rfl) (by kernel_rfl) (by kernel_rfl)
theorem reads (os:Os){H:Type}(enc:TypeId × Value→H):∃places,DataW.whole enc Tryz.prog ((laidWorld os).forCall (fun _ _=>0) ⟨#[],start,[]⟩).memory Tryz.f4.params.toList Rows.headUsersSpec.vars false start.toList 8=some ([.nil,.lit (.string []),.nil],[],places):=
 ⟨[],by kernel_rfl⟩
theorem contract (H:Type)(enc:TypeId × Value→H)(W:World)(base:Nat)(args:Array Value)(ds gs:List (DataW H))(before:List MemPlace)
 (hval:∀(j:Nat) t v,Tryz.f4.params[j]? =some t→args[j]? =some v→Value.okWide Tryz.prog W .any base t v)
 (hW:DataW.Whole enc Tryz.prog Tryz.f4.params.toList Rows.headUsersSpec.vars false W args.toList ds gs before)
 (hsz:(DataW.weightsEach Tryz.prog (Tryz.f4.params.toList++Rows.headUsersSpec.plain.varTypes Tryz.prog) (ds++gs)).all (· ≤reachBytes)=true)
 (hG:jg W):
 Calls Tryz.prog 4 args W fun e W'=>∃v,e= .returned v∧Rows.headUsersSpec.post enc Tryz.prog Tryz.f4 false true false false W args v W':=by
 have hW':=hW
 obtain ⟨p,q,hA0,hV,rfl,hfz,hnd⟩:=hW
 have hA:DataW.TrodAll enc Tryz.prog W 0 (fun _=>true) true Tryz.f4.params.toList args.toList ds p:=hA0
 rw [Tryz.params4] at hA hval hsz
 obtain ⟨v0,vs0,d0,ds0,p0,q0,hargs,rfl,rfl,h0,r0⟩:=trodAll_cons hA
 obtain ⟨v1,vs1,d1,ds1,p1,q1,rfl,rfl,rfl,h1,r1⟩:=trodAll_cons r0
 obtain ⟨v2,vs2,d2,ds2,p2,q2,rfl,rfl,rfl,h2,r2⟩:=trodAll_cons r1
 obtain ⟨rfl,rfl,rfl⟩:=trodAll_nil r2
 obtain rfl:args= #[v0,v1,v2]:=by cases args;simp_all
 obtain ⟨rfl,rfl⟩:=trodVars_none hV
 have lt0:∀x∈p0,x.block<W.heap.size:=by obtain ⟨m,hm⟩:=h0;exact DataW.trod_lt m _ _ _ hm
 have lt1:∀x∈p1,x.block<W.heap.size:=by obtain ⟨m,hm⟩:=h1;exact DataW.trod_lt m _ _ _ hm
 have lt2:∀x∈p2,x.block<W.heap.size:=by obtain ⟨m,hm⟩:=h2;exact DataW.trod_lt m _ _ _ hm
 have k1:=h1
 obtain ⟨A,c,files,rfl,hr0,hc0,_,hq0⟩:=y7 (D:=kFl) (Q:=fun d a=>d= .agg [.lit (.string a.1.data.toList),.lit (.string a.2.data.toList)]) Tryz.underlying22 (by kernel_rfl) (fun h=>L6 h) (hval 0 22 v0 rfl rfl) h0
 obtain ⟨name,rfl,_,_,_⟩:=open_string Tryz.underlying9 (hval 1 9 v1 rfl rfl) h1
 obtain ⟨Ap,cp,ps,rfl,hr2,hc2,hsp2,hq2⟩:=y7 (D:=Kd.string) (Q:=fun d a=>d= .lit (.string a.data.toList)) Tryz.underlying23 (by kernel_rfl) (fun h=>Le h) (hval 2 23 v2 rfl rfl) h2
 have b46:Tryz.prog.bytesOf 46=32:=by kernel_rfl
 have hfl:files.length≤140737488355328:=by
  rcases hq0 with rfl|⟨elems,spare,rfl,hl,_⟩
  · simp
  · have:=sized_slice hsz (j:=0) (t:=22) (e:=46) rfl rfl Tryz.underlying22
    rw [b46] at this
    unfold reachBytes at this
    omega
 have hfs:∀f∈files,f.1.size≤140737488355328∧f.2.size≤140737488355328:=by
  intro f hf
  obtain ⟨i,hi⟩:=List.getElem?_of_mem hf
  rcases hq0 with rfl|⟨elems,spare,rfl,hl,hel⟩
  · simp at hi
  · obtain ⟨dd,hdd,rfl⟩:=hel i f hi
    have:=xw hsz (j:=0) (t:=22) (e:=46) rfl rfl Tryz.underlying22 hdd
    have w0:=this f.1.data.toList.length (by simp [DataW.weights,DataW.weightsEach,Tryz.underlying46])
    have w1:=this f.2.data.toList.length (by simp [DataW.weights,DataW.weightsEach,Tryz.underlying46])
    simp only [Array.length_toList,ByteArray.size_data,reachBytes] at w0 w1
    omega
 have hps:∀f∈ps,f.size≤140737488355328:=by
  intro f hf
  obtain ⟨i,hi⟩:=List.getElem?_of_mem hf
  rcases hq2 with rfl|⟨elems,spare,rfl,hl,hel⟩
  · simp at hi
  · obtain ⟨dd,hdd,rfl⟩:=hel i f hi
    have w0:=xw hsz (j:=2) (t:=23) (e:=9) rfl rfl Tryz.underlying23 hdd f.data.toList.length (by simp [DataW.weights])
    simp only [Array.length_toList,ByteArray.size_data,reachBytes] at w0
    omega
 clear hA0 hq0 hq2 hsz
 refine (Fg (W:=W) (files:=files) (ps:=ps) (A:=A) (Ap:=Ap) (c:=c) (cp:=cp) ⟨hG,hr0,hc0,hr2,hc2,hsp2,hfl,hfs,hps⟩ name).mono fun e W' ⟨he,bel⟩=> ?_
 subst he
 exact ⟨_,rfl,_,_,_,[],_,[],hW',trodAll_mk1 (shut_bool Tryz.underlying4 _),(trodAll_cons_mk (Below.trod laidOut (by kernel_rfl) (of_decide_eq_true (by kernel_rfl)) h0 bel lt0) (trodAll_cons_mk (Below.trod laidOut (by kernel_rfl) (of_decide_eq_true (by kernel_rfl)) k1 bel lt1) (trodAll_cons_mk (Below.trod laidOut (by kernel_rfl) (of_decide_eq_true (by kernel_rfl)) h2 bel lt2) trodAll_mk0))),rfl,bel.frame _,fun h=>by cases h⟩
theorem lifted (os:Os)(started:os.Started)(H:Type)(enc:TypeId × Value→H)(F:Stop.Interp):
 ReturnsInHanded {} Tryz.checked os 4 .any ((OpenSpec.ofChange Rows.headUsersSpec).preRow enc Tryz.prog Tryz.f4 Rows.headUsersRow.domain false Rows.headUsersRow.laid) (((OpenSpec.ofChange Rows.headUsersSpec).at F).post enc Tryz.prog Tryz.f4 false true false false):=by
 obtain ⟨places,hx⟩:=reads os enc
 refine returnsInHanded_of_row (C:=Tryz.checked) (s:=OpenSpec.ofChange Rows.headUsersSpec) own started (by kernel_rfl) Tryz.func4
  (witness_row_atRef (enc:=enc) (C:=Tryz.checked) false (laidWorld os) start rfl (by kernel_rfl) (by kernel_rfl) (by kernel_rfl)
   (OpenSpec.preRow_of_cond 8 hx (by kernel_rfl) (fun k hk=>by cases hk) (by kernel_rfl) (laid_met os))) ?_
 intro W base args ds gs before hval hW _ _ hsz hL hS _
 exact contract H enc W base args ds gs before hval hW hsz (J4 W hL hS)
theorem said:Rows.HeadUsersSaid:=
 OpenClaim.holds_of_cond 4 Tryz.f4 rfl rfl rfl rfl rfl rfl rfl ⟨rfl,rfl,rfl,rfl,rfl⟩ rfl rfl rfl rfl rfl (by kernel_rfl) Tryz.func4 (by kernel_rfl)
  (of_decide_eq_true (by kernel_rfl)) (by unfold Func.isWrapper;first|(rw [if_pos (by decide+kernel)];kernel_rfl)|(rw [if_neg (by decide+kernel)];exact ⟨rfl,rfl⟩))
  (fun os started H enc _ F=>by rw [OpenClaim.pre_eq_preRow];exact lifted os started H enc F)
theorem plain (f:FuncId)(fn:Func)(hf:Tryz.pinned.checked.prog.funcNamed "smocking/smockinglaw21.HeadUsers"=some f)(hfn:Tryz.pinned.checked.prog.funcs[f]? =some fn):
 false=Tryz.pinned.checked.prog.looks []∧∀(j:Nat) t,fn.params[j]? =some t→Tryz.pinned.checked.prog.wantsStandIn t=false:=by
 obtain rfl:f=4:=Option.some.inj ((show Tryz.prog.funcNamed "smocking/smockinglaw21.HeadUsers"=some 4 by kernel_rfl).symm.trans hf) |>.symm
 obtain rfl:fn=Tryz.f4:=(Option.some.inj (Tryz.func4.symm.trans hfn)).symm
 refine ⟨by kernel_rfl,fun j t ht=> ?_⟩
 rw [Tryz.params4] at ht
 have ht:=Array.mem_of_getElem? ht
 simp at ht
 rcases ht with rfl|rfl|rfl
 · exact (show Tryz.prog.wantsStandIn 22=false by kernel_rfl)
 · exact (show Tryz.prog.wantsStandIn 9=false by kernel_rfl)
 · exact (show Tryz.prog.wantsStandIn 23=false by kernel_rfl)
theorem card:Rows.HeadUsersCardSaid:=
 Claim7.holds_tied_plain_at .later [] _ _ _ _ said (fun _ h=>by cases h) (by kernel_rfl) (fun _ h=>by cases h) headUsers_row_tie rfl ⟨rfl,rfl⟩ (by kernel_rfl) rfl plain (by kernel_rfl)
end Go.Proofs.YtolaiebjmhieiaaGreatDoor.headUsers
namespace Go.Proofs.YtolaiebjmhieiaaGreatDoor
theorem headUsers_card:Rows.HeadUsersCardSaid:=headUsers.card
end Go.Proofs.YtolaiebjmhieiaaGreatDoor
end
