/- Parts of the proof of HeadUses; no condition. -/
import Derived.Test.YtolaiebjmhieiaaGreatDoorM01
import Derived.Test.YtolaiebjmhieiaaGreatDoorM06
import Derived.Deep.QuietTactic
import Derived.BigQuiet
import Derived.OwnWalk
set_option maxHeartbeats 8000000
set_option maxRecDepth 100000
set_option linter.unusedVariables false
set_option linter.unusedSimpArgs false
section
namespace Go.Proofs.YtolaiebjmhieiaaGreatDoor.OScan
open Go.RowKit YtolaiebjmhieiaaGreatDoorW.PrintWords YtolaiebjmhieiaaGreatDoorW.PrintLast YtolaiebjmhieiaaGreatDoorW.PrintMore
def opensB (a:ByteArray):Bool:=a.toList==([105,102]:List UInt8)||(a.toList==([105,102,100,101,102]:List UInt8)||a.toList==([105,102,110,100,101,102]:List UInt8))
theorem opens_f (a:ByteArray):OCond.cond_opens.f a=some (opensB a):=by
 unfold OCond.cond_opens.f opensB
 by_cases h1:a.toList=([105,102]:List UInt8)
 · simp [h1]
 · by_cases h2:a.toList=([105,102,100,101,102]:List UInt8)
   · simp [h2]
   · rw [if_neg h1,if_neg h2,beq_eq_false_iff_ne.mpr h1,beq_eq_false_iff_ne.mpr h2,Bool.false_or,Bool.false_or]
abbrev elifL:List UInt8:=[101,108,105,102]
abbrev elseL:List UInt8:=[101,108,115,101]
abbrev endifL:List UInt8:=[101,110,100,105,102]
def grAt (gs:List Gr)(n:Nat):Gr:=gs.getD n ([],0,0,0)
def lineF (at_:Int)(gs:List Gr)(n:Nat):List Gr:=gs.set n ((grAt gs n).1++[at_],(grAt gs n).2)
def stepF (kind:ByteArray)(at_:Int)(gs:List Gr)(st:List Ope):Option (List Gr × List Ope):=
 if opensB kind=true then some (beginF at_ gs st)
 else if kind.toList≠elifL∧kind.toList≠elseL∧kind.toList≠endifL then some (gs,st)
 else match st with
 |[]=>none
 |x::st'=>
  if x.2.2=true∧kind.toList≠endifL then none
  else if kind.toList≠endifL then some (lineF at_ gs x.1,(x.1,wrap64 (x.2.1+1),kind.toList==elseL)::st')
  else some (gs.set x.1 ((grAt gs x.1).1++[at_],((grAt gs x.1).1.length:Int)+(if x.2.2=true then 0 else 1),(grAt gs x.1).2.2),st')
def StepQ (base F:Nat)(w0:World)(r:Option (List Gr × List Ope))(e:Ending)(w':World):Prop:=
 match r with
 |none=>e= .returned (.bool false)∧Below base w0 w'
 |some (gs',st')=>e= .returned (.bool true)∧(∃v' p',FS base F w' v' p' gs' st')∧Below base w0 w'
theorem below_via {base:Nat}{w0 w w1:World}(h:Below base w0 w)(hb:base≤w.heap.size)(k:Below w.heap.size w w1):Below base w0 w1:=
 h.trans ⟨k.os,k.tape,k.output,k.size,fun i hi=>k.block i (by omega)⟩
theorem FS.drawn {base F:Nat}{w w1:World}{v p:Value}{gs:List Gr}{st:List Ope}(h:FS base F w v p gs st)(hb:Below w.heap.size w w1):FS base F w1 v p gs st:=
 ⟨h.hF,(hb.block _ (blk_lt h.hc)).trans h.hc,Kd.S_below h.hgs hb,h.hst.step hb.size (fun k _ h2 _=>hb.block k h2),h.wf⟩
theorem step_easy (kind:ByteArray)(at_:Int)(base F:Nat)(w0 w:World)(v p:Value)(gs:List Gr)(st:List Ope)(HF:FS base F w v p gs st)(HB:Below base w0 w)(hl:gs.length≤1000000)
 (hk:opensB kind=true∨(opensB kind=false∧kind.toList≠elifL∧kind.toList≠elseL∧kind.toList≠endifL)):
 Calls Tryz.prog 69 #[.pointer (some ⟨F,0,none⟩),.string kind,.int .i64 at_] w (StepQ base F w0 (stepF kind at_ gs st)):=by
 have H68:=fun W=>OCond.cond_opens.calls kind _ W (opens_f kind)
 rcases hk with hk|⟨hk,h1,h2,h3⟩
 · have hr:stepF kind at_ gs st=some (beginF at_ gs st):=by unfold stepF;rw [if_pos hk]
   rw [hr]
   rw [hk] at H68
   have HLE:Aside0 (base≤w.heap.size):=⟨by have:=HF.hF;have:=blk_lt HF.hc;omega⟩
   have HFA:=z0 HF
   have HBA:=z0 HB
   clear HF HB hr
   go_enter Tryz.func69,Tryz.ntmps69
   go_wp2_with (first|(go_at_call 68;go_loud (refine (H68 _).mono ?_;rintro e w8 ⟨rfl,hd⟩;have HF8:=z0 (HFA.out.drawn hd.below);have HB8:=z0 (below_via HBA.out HLE.out hd.below);clear hd))|(go_at_call 125;go_loud (refine (begin_any at_ base F w0 _ _ _ gs st HF8.out HB8.out hl).mono ?_;rintro e w9 ⟨rfl,v9,p9,hf9,hb9⟩;have HF9:=z0 hf9;have HB9:=z0 hb9;clear hf9 hb9)))
   go_ret
   exact ⟨rfl,⟨_,_,HF9.out⟩,HB9.out⟩
 · have hr:stepF kind at_ gs st=some (gs,st):=by unfold stepF;rw [if_neg (by simp [hk]),if_pos ⟨h1,h2,h3⟩]
   rw [hr]
   rw [hk] at H68
   have HLE:Aside0 (base≤w.heap.size):=⟨by have:=HF.hF;have:=blk_lt HF.hc;omega⟩
   have HFA:=z0 HF
   have HBA:=z0 HB
   have c1:(kind.toList==elifL)=false:=beq_eq_false_iff_ne.mpr h1
   have c1':(kind.toList !=elifL)=true:=bne_iff_ne.mpr h1
   have c2:(kind.toList==elseL)=false:=beq_eq_false_iff_ne.mpr h2
   have c2':(kind.toList !=elseL)=true:=bne_iff_ne.mpr h2
   have c3:(kind.toList==endifL)=false:=beq_eq_false_iff_ne.mpr h3
   have c3':(kind.toList !=endifL)=true:=bne_iff_ne.mpr h3
   clear HF HB hr
   go_enter Tryz.func69,Tryz.ntmps69
   go_wp2_with (first|(go_at_call 68;go_loud (refine (H68 _).mono ?_;rintro e w8 ⟨rfl,hd⟩;have HF8:=z0 (HFA.out.drawn hd.below);have HB8:=z0 (below_via HBA.out HLE.out hd.below);clear hd)))
   go_ret
   exact ⟨rfl,⟨_,_,HF8.out⟩,HB8.out⟩
structure KindIs (kind:ByteArray)(bi bs be:Bool):Prop where
 c1:(kind.toList==elifL)=bi
 c1':(kind.toList !=elifL)= !bi
 c2:(kind.toList==elseL)=bs
 c2':(kind.toList !=elseL)= !bs
 c3:(kind.toList==endifL)=be
 c3':(kind.toList !=endifL)= !be
theorem kindIs (kind:ByteArray)(h:kind.toList=elifL∨kind.toList=elseL∨kind.toList=endifL):KindIs kind true false false∨KindIs kind false true false∨KindIs kind false false true:=by
 rcases h with h|h|h
 · exact .inl ⟨by rw [h];decide,by rw [h];decide,by rw [h];decide,by rw [h];decide,by rw [h];decide,by rw [h];decide⟩
 · exact .inr (.inl ⟨by rw [h];decide,by rw [h];decide,by rw [h];decide,by rw [h];decide,by rw [h];decide,by rw [h];decide⟩)
 · exact .inr (.inr ⟨by rw [h];decide,by rw [h];decide,by rw [h];decide,by rw [h];decide,by rw [h];decide,by rw [h];decide⟩)
theorem notOpens (kind:ByteArray)(h:kind.toList=elifL∨kind.toList=elseL∨kind.toList=endifL):opensB kind=false:=by
 unfold opensB
 rcases h with h|h|h<;>rw [h]<;>decide
theorem step_false (kind:ByteArray)(at_:Int)(base F:Nat)(w0 w:World)(v p:Value)(gs:List Gr)(st:List Ope)(HF:FS base F w v p gs st)(HB:Below base w0 w)
 (hk:kind.toList=elifL∨kind.toList=elseL∨kind.toList=endifL) (hst:st=[]∨∃x st',st=x::st'∧x.2.2=true∧kind.toList≠endifL):
 Calls Tryz.prog 69 #[.pointer (some ⟨F,0,none⟩),.string kind,.int .i64 at_] w fun e w'=>e= .returned (.bool false)∧Below base w0 w':=by
 have H68:=fun W=>OCond.cond_opens.calls kind _ W (opens_f kind)
 rw [notOpens kind hk] at H68
 have HLE:Aside0 (base≤w.heap.size):=⟨by have:=HF.hF;have:=blk_lt HF.hc;omega⟩
 have HBA:=z0 HB
 have hFF:=HF.hc
 have hg1:w.cell? ⟨F,1,none⟩=some p:=by have:=cell_of_row w F 1 _ _ _ hFF;simpa using this
 have hst':=HF.hst
 clear HF HB hFF
 rcases hst with rfl|⟨⟨n,br,hs_⟩,st',rfl,rfl,hne⟩
 · obtain rfl:p= .pointer none:=hst'
   try clear hst'
   rcases kindIs kind hk with ⟨c1,c1',c2,c2',c3,c3'⟩|⟨c1,c1',c2,c2',c3,c3'⟩|⟨c1,c1',c2,c2',c3,c3'⟩
   all_goals
    clear hk
    go_enter Tryz.func69,Tryz.ntmps69
    go_wp2_with (first|(go_at_call 68;go_loud (refine (H68 _).mono ?_;rintro e w8 ⟨rfl,hd⟩;have HB8:=z0 (below_via HBA.out HLE.out hd.below);replace hg1:=(hd.below.cell (World.block_lt_of_cell? w _ hg1)).trans hg1;clear hd)))
    go_ret
    exact ⟨rfl,HB8.out⟩
 · obtain ⟨P,q0,rfl,hP0,hP1,hP2,hP3⟩:=hst'
   have z3:w.cell? ⟨P,2,none⟩=some (.bool true):=by have:=cell_of_row w P 2 _ _ _ hP2;simpa using this
   clear hP2 hP3
   rcases kindIs kind hk with ⟨c1,c1',c2,c2',c3,c3'⟩|⟨c1,c1',c2,c2',c3,c3'⟩|⟨c1,c1',c2,c2',c3,c3'⟩
   · clear hk hne
     go_enter Tryz.func69,Tryz.ntmps69
     go_wp2_with (first|(go_at_call 68;go_loud (refine (H68 _).mono ?_;rintro e w8 ⟨rfl,hd⟩;have HB8:=z0 (below_via HBA.out HLE.out hd.below);replace hg1:=(hd.below.cell (World.block_lt_of_cell? w _ hg1)).trans hg1;replace z3:=(hd.below.cell (World.block_lt_of_cell? w _ z3)).trans z3;clear hd)))
     go_ret
     exact ⟨rfl,HB8.out⟩
   · clear hk hne
     go_enter Tryz.func69,Tryz.ntmps69
     go_wp2_with (first|(go_at_call 68;go_loud (refine (H68 _).mono ?_;rintro e w8 ⟨rfl,hd⟩;have HB8:=z0 (below_via HBA.out HLE.out hd.below);replace hg1:=(hd.below.cell (World.block_lt_of_cell? w _ hg1)).trans hg1;replace z3:=(hd.below.cell (World.block_lt_of_cell? w _ z3)).trans z3;clear hd)))
     go_ret
     exact ⟨rfl,HB8.out⟩
   · exact absurd (beq_iff_eq.1 c3) hne
theorem else_end {base F P n:Nat}{w9 w11:World}{v q:Value}{gs gs':List Gr}{br br':Int}{hs hs':Bool}{st:List Ope}(HF:FS base F w9 v (.pointer (some ⟨P,0,none⟩)) gs ((n,br,hs)::st))
 (hF11:w11.heap[F]? =some (.cells #[v,.pointer (some ⟨P,0,none⟩)] 131 (0,0))) (hP11:w11.heap[P]? =some (.cells #[.int .i64 n,.int .i64 br,.bool hs,q] 136 (0,0))) (hP0:base≤P) (HC:Chain w9 base P q st)
 (HS:Kd.S kGr 134 w11 base (fun _=>True) v gs') (hl:gs'.length=gs.length) (hFP:¬P=F)
 (keep:∀(k:Nat) (c:Array Value) (t:TypeId),w9.heap[k]? =some (Obj.cells c t (0,0))→t≠3→t≠134→w11.heap[k]? =some (Obj.cells c t (0,0))):
 FS base F ((w11.setCell ⟨P,1,none⟩ (.int .i64 br')).setCell ⟨P,2,none⟩ (.bool hs')) v (.pointer (some ⟨P,0,none⟩)) gs' ((n,br',hs')::st):=by
 have hP12:=blk_put hP11 1 (.int .i64 br') rfl
 have hP13:=blk_put hP12 2 (.bool hs') rfl
 refine ⟨HF.hF,blk_far (blk_far hF11 (fun h=>hFP h.symm) _) (fun h=>hFP h.symm) _,Kd.S_set (Kd.S_set HS hP11 (by decide) 1 _) hP12 (by decide) 2 _,⟨P,q,rfl,hP0,by have:=blk_lt hP13;simpa using this,hP13,?_⟩,?_⟩
 · refine HC.step (Nat.le_refl _) (fun k h1 h2 h3=> ?_)
   obtain ⟨c,h3⟩:=h3
   have hkP:k≠P:=by omega
   exact (Below.heap_setCell _ ⟨P,2,none⟩ _ k hkP).trans ((Below.heap_setCell _ ⟨P,1,none⟩ _ k hkP).trans ((keep k c 136 h3 (by decide) (by decide)).trans h3.symm))
 · intro y hy
   rw [hl]
   rcases List.mem_cons.1 hy with rfl|hy
   · exact HF.wf (n,br,hs) List.mem_cons_self
   · exact HF.wf _ (List.mem_cons_of_mem _ hy)
theorem step_else (kind:ByteArray)(at_:Int)(base F:Nat)(w0 w:World)(v p:Value)(gs:List Gr)(n:Nat)(br:Int)(hs_:Bool)(st:List Ope)(HF:FS base F w v p gs ((n,br,hs_)::st))(HB:Below base w0 w)(hl:gs.length≤1000000)(hll:(grAt gs n).1.length≤1000000)
 (bi bs:Bool) (hk:kind.toList=elifL∨kind.toList=elseL) (hK:KindIs kind bi bs false) (hbb:(bi=true∧bs=false)∨(bi=false∧bs=true)) (hne:hs_=false):
 Calls Tryz.prog 69 #[.pointer (some ⟨F,0,none⟩),.string kind,.int .i64 at_] w (StepQ base F w0 (some (lineF at_ gs n,(n,wrap64 (br+1),kind.toList==elseL)::st))):=by
 have H68:=fun W=>OCond.cond_opens.calls kind _ W (opens_f kind)
 rw [notOpens kind (hk.elim .inl (fun h=> .inr (.inl h)))] at H68
 have hnl:n<gs.length:=HF.wf _ (List.mem_cons_self)
 obtain ⟨B,cap,rfl,hB0,hB1,hBc⟩:=Kd.S_form HF.hgs (by omega)
 obtain ⟨P,q0,rfl,hP0,hP1,hP2,hP3⟩:=HF.hst
 simp only at hP2
 have hFF:=HF.hc
 obtain ⟨c1,c1',c2,c2',c3,c3'⟩:=hK
 have hFl:=blk_lt hFF
 have hg0:w.cell? ⟨F,0,none⟩=some (.slice (some ⟨B,0,none⟩) gs.length cap):=by have:=cell_of_row w F 0 _ _ _ hFF;simpa using this
 have hg1:w.cell? ⟨F,1,none⟩=some (.pointer (some ⟨P,0,none⟩)):=by have:=cell_of_row w F 1 _ _ _ hFF;simpa using this
 have z1:w.cell? ⟨P,0,none⟩=some (.int .i64 n):=by have:=cell_of_row w P 0 _ _ _ hP2;simpa using this
 have z2:w.cell? ⟨P,1,none⟩=some (.int .i64 br):=by have:=cell_of_row w P 1 _ _ _ hP2;simpa using this
 have z3:w.cell? ⟨P,2,none⟩=some (.bool false):=by have:=cell_of_row w P 2 _ _ _ hP2;rw [←hne];simpa using this
 subst hne
 have hi1:(0:Int)≤(n:Int):=by omega
 have hi2:(n:Int)<(gs.length:Int):=by omega
 have HLE:Aside0 (base≤w.heap.size):=⟨by have:=HF.hF;omega⟩
 have HBA:=z0 HB
 have HFA:=z0 HF
 clear HB HF hFF hP2 hP3 hk
 rcases hbb with ⟨rfl,rfl⟩|⟨rfl,rfl⟩
 · go_enter Tryz.func69,Tryz.ntmps69
   go_wp2_with (first|(go_at_call 68;go_loud (refine (H68 _).mono ?_;rintro e w8 ⟨rfl,hd⟩;have HF8:=z0 (HFA.out.drawn hd.below);have HB8:=z0 (below_via HBA.out HLE.out hd.below);replace hg0:=(hd.below.cell (World.block_lt_of_cell? w _ hg0)).trans hg0;replace hg1:=(hd.below.cell (World.block_lt_of_cell? w _ hg1)).trans hg1;replace z3:=(hd.below.cell (World.block_lt_of_cell? w _ z3)).trans z3;replace z1:=(hd.below.cell (World.block_lt_of_cell? w _ z1)).trans z1;replace z2:=(hd.below.cell (World.block_lt_of_cell? w _ z2)).trans z2;clear hd)))
   go_quiet (fail)
   obtain ⟨w9,hw9⟩:∃w9,w9=w8.drewN nq:=⟨_,rfl⟩
   rw [←hw9]
   have HF9:Aside0 (FS base F w9 (.slice (some ⟨B,0,none⟩) gs.length cap) (.pointer (some ⟨P,0,none⟩)) gs ((n,br,false)::st)):=⟨by rw [hw9];exact HF8.out.drawn (pw_below_drewN (Below.refl _ _) nq)⟩
   have HB9:Aside0 (Below base w0 w9):=⟨by rw [hw9];exact pw_below_drewN HB8.out nq⟩
   have HSZ9:Aside0 (base≤w9.heap.size):=⟨by have:=HF9.out.hF;have:=blk_lt HF9.out.hc;omega⟩
   clear hw9 HF8 HB8 hg0 hg1 z1 z2 z3 w8
   obtain ⟨oki,c,hcl,hM,hcc,hfr,hoki,hH⟩:=Kd.S_elem HF9.out.hgs ([],0,0,0) n hi1 hi2
   rw [Int.toNat_natCast] at hM hcc hfr
   change kGr.M w9 base oki (grAt gs n) c at hM
   generalize hg:grAt gs n=g0 at *
   obtain ⟨ls,b2,b3,b4⟩:=g0
   obtain ⟨_,_,rfl,⟨vl,rfl,hR⟩,⟨_,_,rfl,rfl,⟨_,_,rfl,rfl,rfl⟩⟩⟩:=hM
   simp only at hR hll
   obtain ⟨Al,cl,rfl⟩:=Kd.R_slice hR
   have hv0:w9.cell? ⟨B,n*4,none⟩=some (.slice Al ls.length cl):=hcc 0 _ rfl
   have HR:=z0 (Kd.R_mono (ok':=fun k=>oki k∨True∧w9.heap.size≤k) hR (fun k hk=> .inl hk))
   have HH:=z0 (Kd.H_widen hH)
   have HOW:Aside0 (∀k,(Value.slice Al ls.length cl).ownBlock=some k→oki k):=⟨hR.1⟩
   have HOK:=z0 hoki
   obtain ⟨P',q1,eP,_,hP1',hP2',hP3'⟩:=HF9.out.hst
   obtain rfl:P=P':=by injection eP with eP;injection eP with eP;injection eP
   simp only at hP2'
   have HP9:=z0 hP2'
   have HC9:=z0 hP3'
   have hFP:¬F=P:=by
    rintro rfl
    have:=HF9.out.hc
    rw [hP2'] at this
    injection this with this
    injection this with _ this
    exact absurd this (by decide)
   have hPF:¬P=F:=fun h=>hFP h.symm
   have KEEP:Aside0 (∀w10 w11:World,World.grownBy w9 w10 (Value.slice Al ls.length cl).ownBlock→World.grownBy w10 w11 (some B)→∀(k:Nat) (c:Array Value) (t:TypeId),w9.heap[k]? =some (Obj.cells c t (0,0))→t≠3→t≠134→w11.heap[k]? =some (Obj.cells c t (0,0))):=⟨fun w10 w11 h1 h2 k c t hc ht1 ht2=>by
    have a1:some k≠(Value.slice Al ls.length cl).ownBlock:=fun e=>by
     obtain ⟨c',h⟩:=Kd.R_typed HR.out k e.symm
     rw [h] at hc;injection hc with hc;injection hc with _ hc;exact ht1 hc.symm
    have a2:some k≠some B:=fun e=>by
     injection e with e;subst e
     obtain ⟨c',h⟩:=Kd.S_typed HF9.out.hgs k rfl
     rw [h] at hc;injection hc with hc;injection hc with _ hc;exact ht2 hc.symm
    have b1:=(h1.block k (blk_lt hc) a1).trans hc
    exact (h2.block k (blk_lt b1) a2).trans b1⟩
   clear hcc hfr hoki hH hR hcl hP2' hP3' eP
   go_wp2_with (first|(at_builtin;go_loud (refine Kd.R_append (Kd.int .i64) (w0:=w0) base rfl (.tmp 60) (.tmp 62) 120 3 (.int .i64 0) 8 rfl Tryz.underlying120 (by kernel_rfl) rfl (by decide) (by omega) (.slice Al ls.length cl) ls at_ [.int .i64 at_] (fun k=>oki k∨True∧w9.heap.size≤k) (fun _=>False) rfl rfl rfl (fun _ hk=>hk.elim) (fun k hk=> .inr ⟨trivial,hk⟩) HR.out HB9.out HSZ9.out (by omega) ?_;intro v1 w10 ho hb hg1 hat;obtain ⟨A1,k1,rfl⟩:=Kd.R_slice ho;rw [List.length_append,List.length_singleton] at ho;have HR1:=z0 ho;have HB10:=z0 hb;have HG10:=z0 hg1;clear ho hb hg1 hat))|(refine gate_ (.store 120 (.tmp 65) (.tmp 63)) rfl ?_;go_loud (refine Kd.H_store kGr (w0:=w0) base rfl rfl 120 (.tmp 65) (.tmp 63) rfl 134 (n:Int) 0 gs (ls++[at_],b2,b3,b4) (.slice A1 (ls.length+1) k1) [.slice A1 (ls.length+1) k1] [.slice Al ls.length cl,.int .i64 b2,.int .i64 b3,.int .i64 b4] (fun _=>True) (fun k=>oki k∨True∧w9.heap.size≤k) (fun k=>oki k∨True∧w9.heap.size≤k) rfl (by rw [Int.toNat_natCast];rfl) rfl rfl (by kernel_rfl) (fun q hq=>by rw [List.mem_singleton.1 hq];rfl) (Kd.H_grown HH.out HG10.out (fun k hk=> .inl (HOW.out k hk))) hi1 hi2 (show 0+1≤4 by omega) ?aM (fun _ h=>h) HB10.out ?_;(case aM=>exact ⟨_,_,rfl,⟨_,rfl,HR1.out⟩,⟨_,_,rfl,rfl,⟨_,_,rfl,rfl,rfl⟩⟩⟩);intro w11 ho hb hg2;have HS11:=z0 ho;have HB11:=z0 hb;have HG11:=z0 hg2;have hF11:=KEEP.out _ _ HG10.out hg2 F _ 131 HF9.out.hc (by decide) (by decide);have hP11:=KEEP.out _ _ HG10.out hg2 P _ 136 HP9.out (by decide) (by decide);have y1:w11.cell? ⟨F,1,none⟩=some (.pointer (some ⟨P,0,none⟩)):=(by have:=cell_of_row _ F 1 _ _ _ hF11;simpa using this);have y2:w11.cell? ⟨P,1,none⟩=some (.int .i64 br):=(by have:=cell_of_row _ P 1 _ _ _ hP11;simpa using this);have y3:w11.cell? ⟨P,2,none⟩=some (.bool false):=(by have:=cell_of_row _ P 2 _ _ _ hP11;simpa using this);have y4:=blk_frozen hP11 1;have y5:=blk_frozen hP11 2;have HP11:=z0 hP11;have HF11:=z0 hF11;clear ho hb hg2 hP11 hF11)))
   go_ret
   rw [lineF,hg]
   refine ⟨rfl,⟨_,_,else_end HF9.out HF11.out HP11.out hP0 HC9.out HS11.out (by rw [List.length_set]) hPF (KEEP.out _ _ HG10.out HG11.out)⟩,(HB11.out.setCell hP0 _).setCell hP0 _⟩
 · go_enter Tryz.func69,Tryz.ntmps69
   go_wp2_with (first|(go_at_call 68;go_loud (refine (H68 _).mono ?_;rintro e w8 ⟨rfl,hd⟩;have HF8:=z0 (HFA.out.drawn hd.below);have HB8:=z0 (below_via HBA.out HLE.out hd.below);replace hg0:=(hd.below.cell (World.block_lt_of_cell? w _ hg0)).trans hg0;replace hg1:=(hd.below.cell (World.block_lt_of_cell? w _ hg1)).trans hg1;replace z3:=(hd.below.cell (World.block_lt_of_cell? w _ z3)).trans z3;replace z1:=(hd.below.cell (World.block_lt_of_cell? w _ z1)).trans z1;replace z2:=(hd.below.cell (World.block_lt_of_cell? w _ z2)).trans z2;clear hd)))
   go_quiet (fail)
   obtain ⟨w9,hw9⟩:∃w9,w9=w8.drewN nq:=⟨_,rfl⟩
   rw [←hw9]
   have HF9:Aside0 (FS base F w9 (.slice (some ⟨B,0,none⟩) gs.length cap) (.pointer (some ⟨P,0,none⟩)) gs ((n,br,false)::st)):=⟨by rw [hw9];exact HF8.out.drawn (pw_below_drewN (Below.refl _ _) nq)⟩
   have HB9:Aside0 (Below base w0 w9):=⟨by rw [hw9];exact pw_below_drewN HB8.out nq⟩
   have HSZ9:Aside0 (base≤w9.heap.size):=⟨by have:=HF9.out.hF;have:=blk_lt HF9.out.hc;omega⟩
   clear hw9 HF8 HB8 hg0 hg1 z1 z2 z3 w8
   obtain ⟨oki,c,hcl,hM,hcc,hfr,hoki,hH⟩:=Kd.S_elem HF9.out.hgs ([],0,0,0) n hi1 hi2
   rw [Int.toNat_natCast] at hM hcc hfr
   change kGr.M w9 base oki (grAt gs n) c at hM
   generalize hg:grAt gs n=g0 at *
   obtain ⟨ls,b2,b3,b4⟩:=g0
   obtain ⟨_,_,rfl,⟨vl,rfl,hR⟩,⟨_,_,rfl,rfl,⟨_,_,rfl,rfl,rfl⟩⟩⟩:=hM
   simp only at hR hll
   obtain ⟨Al,cl,rfl⟩:=Kd.R_slice hR
   have hv0:w9.cell? ⟨B,n*4,none⟩=some (.slice Al ls.length cl):=hcc 0 _ rfl
   have HR:=z0 (Kd.R_mono (ok':=fun k=>oki k∨True∧w9.heap.size≤k) hR (fun k hk=> .inl hk))
   have HH:=z0 (Kd.H_widen hH)
   have HOW:Aside0 (∀k,(Value.slice Al ls.length cl).ownBlock=some k→oki k):=⟨hR.1⟩
   have HOK:=z0 hoki
   obtain ⟨P',q1,eP,_,hP1',hP2',hP3'⟩:=HF9.out.hst
   obtain rfl:P=P':=by injection eP with eP;injection eP with eP;injection eP
   simp only at hP2'
   have HP9:=z0 hP2'
   have HC9:=z0 hP3'
   have hFP:¬F=P:=by
    rintro rfl
    have:=HF9.out.hc
    rw [hP2'] at this
    injection this with this
    injection this with _ this
    exact absurd this (by decide)
   have hPF:¬P=F:=fun h=>hFP h.symm
   have KEEP:Aside0 (∀w10 w11:World,World.grownBy w9 w10 (Value.slice Al ls.length cl).ownBlock→World.grownBy w10 w11 (some B)→∀(k:Nat) (c:Array Value) (t:TypeId),w9.heap[k]? =some (Obj.cells c t (0,0))→t≠3→t≠134→w11.heap[k]? =some (Obj.cells c t (0,0))):=⟨fun w10 w11 h1 h2 k c t hc ht1 ht2=>by
    have a1:some k≠(Value.slice Al ls.length cl).ownBlock:=fun e=>by
     obtain ⟨c',h⟩:=Kd.R_typed HR.out k e.symm
     rw [h] at hc;injection hc with hc;injection hc with _ hc;exact ht1 hc.symm
    have a2:some k≠some B:=fun e=>by
     injection e with e;subst e
     obtain ⟨c',h⟩:=Kd.S_typed HF9.out.hgs k rfl
     rw [h] at hc;injection hc with hc;injection hc with _ hc;exact ht2 hc.symm
    have b1:=(h1.block k (blk_lt hc) a1).trans hc
    exact (h2.block k (blk_lt b1) a2).trans b1⟩
   clear hcc hfr hoki hH hR hcl hP2' hP3' eP
   go_wp2_with (first|(at_builtin;go_loud (refine Kd.R_append (Kd.int .i64) (w0:=w0) base rfl (.tmp 60) (.tmp 62) 120 3 (.int .i64 0) 8 rfl Tryz.underlying120 (by kernel_rfl) rfl (by decide) (by omega) (.slice Al ls.length cl) ls at_ [.int .i64 at_] (fun k=>oki k∨True∧w9.heap.size≤k) (fun _=>False) rfl rfl rfl (fun _ hk=>hk.elim) (fun k hk=> .inr ⟨trivial,hk⟩) HR.out HB9.out HSZ9.out (by omega) ?_;intro v1 w10 ho hb hg1 hat;obtain ⟨A1,k1,rfl⟩:=Kd.R_slice ho;rw [List.length_append,List.length_singleton] at ho;have HR1:=z0 ho;have HB10:=z0 hb;have HG10:=z0 hg1;clear ho hb hg1 hat))|(refine gate_ (.store 120 (.tmp 65) (.tmp 63)) rfl ?_;go_loud (refine Kd.H_store kGr (w0:=w0) base rfl rfl 120 (.tmp 65) (.tmp 63) rfl 134 (n:Int) 0 gs (ls++[at_],b2,b3,b4) (.slice A1 (ls.length+1) k1) [.slice A1 (ls.length+1) k1] [.slice Al ls.length cl,.int .i64 b2,.int .i64 b3,.int .i64 b4] (fun _=>True) (fun k=>oki k∨True∧w9.heap.size≤k) (fun k=>oki k∨True∧w9.heap.size≤k) rfl (by rw [Int.toNat_natCast];rfl) rfl rfl (by kernel_rfl) (fun q hq=>by rw [List.mem_singleton.1 hq];rfl) (Kd.H_grown HH.out HG10.out (fun k hk=> .inl (HOW.out k hk))) hi1 hi2 (show 0+1≤4 by omega) ?aM (fun _ h=>h) HB10.out ?_;(case aM=>exact ⟨_,_,rfl,⟨_,rfl,HR1.out⟩,⟨_,_,rfl,rfl,⟨_,_,rfl,rfl,rfl⟩⟩⟩);intro w11 ho hb hg2;have HS11:=z0 ho;have HB11:=z0 hb;have HG11:=z0 hg2;have hF11:=KEEP.out _ _ HG10.out hg2 F _ 131 HF9.out.hc (by decide) (by decide);have hP11:=KEEP.out _ _ HG10.out hg2 P _ 136 HP9.out (by decide) (by decide);have y1:w11.cell? ⟨F,1,none⟩=some (.pointer (some ⟨P,0,none⟩)):=(by have:=cell_of_row _ F 1 _ _ _ hF11;simpa using this);have y2:w11.cell? ⟨P,1,none⟩=some (.int .i64 br):=(by have:=cell_of_row _ P 1 _ _ _ hP11;simpa using this);have y3:w11.cell? ⟨P,2,none⟩=some (.bool false):=(by have:=cell_of_row _ P 2 _ _ _ hP11;simpa using this);have y4:=blk_frozen hP11 1;have y5:=blk_frozen hP11 2;have HP11:=z0 hP11;have HF11:=z0 hF11;clear ho hb hg2 hP11 hF11)))
   go_ret
   rw [lineF,hg]
   refine ⟨rfl,⟨_,_,else_end HF9.out HF11.out HP11.out hP0 HC9.out HS11.out (by rw [List.length_set]) hPF (KEEP.out _ _ HG10.out HG11.out)⟩,(HB11.out.setCell hP0 _).setCell hP0 _⟩
theorem Chain.ptr {w:World}{base:Nat}:∀{st:List Ope} {N:Nat} {p:Value},Chain w base N p st→∃q,p= .pointer q
 |[],_,_,h=>⟨_,h⟩
 |_::_,_,_,⟨_,_,h,_⟩=>⟨_,h⟩
theorem endif_end {base F P n:Nat}{w9 w13:World}{v p q:Value}{gs gs':List Gr}{br:Int}{hs:Bool}{st:List Ope}(HF:FS base F w9 v p gs ((n,br,hs)::st))
 (hF13:w13.heap[F]? =some (.cells #[v,p] 131 (0,0))) (hP:P≤w13.heap.size) (HC:Chain w9 base P q st)
 (HS:Kd.S kGr 134 w13 base (fun _=>True) v gs') (hl:gs'.length=gs.length)
 (keep:∀(k:Nat) (c:Array Value),w9.heap[k]? =some (Obj.cells c 136 (0,0))→w13.heap[k]? =some (Obj.cells c 136 (0,0))):
 FS base F (w13.setCell ⟨F,1,none⟩ q) v q gs' st:=by
 refine ⟨HF.hF,blk_put hF13 1 _ rfl,Kd.S_set HS hF13 (by decide) 1 _,HC.step (by simpa using hP) (fun k h1 h2 h3=> ?_),?_⟩
 · obtain ⟨c,h3⟩:=h3
   have h4:=keep k c h3
   have hkF:k≠F:=by
    rintro rfl
    rw [hF13] at h4
    injection h4 with h4
    injection h4 with _ h4
    exact absurd h4 (by decide)
   exact (Below.heap_setCell _ ⟨F,1,none⟩ _ k hkF).trans (h4.trans h3.symm)
 · intro y hy
   rw [hl]
   exact HF.wf _ (List.mem_cons_of_mem _ hy)
theorem step_endif (kind:ByteArray)(at_:Int)(base F:Nat)(w0 w:World)(v p:Value)(gs:List Gr)(n:Nat)(br:Int)(hs_:Bool)(st:List Ope)(HF:FS base F w v p gs ((n,br,hs_)::st))(HB:Below base w0 w)(hl:gs.length≤1000000)(hll:(grAt gs n).1.length≤1000000)
 (hk:kind.toList=endifL) (hK:KindIs kind false false true):
 Calls Tryz.prog 69 #[.pointer (some ⟨F,0,none⟩),.string kind,.int .i64 at_] w (StepQ base F w0 (some (gs.set n ((grAt gs n).1++[at_],((grAt gs n).1.length:Int)+(if hs_=true then 0 else 1),(grAt gs n).2.2),st))):=by
 have H68:=fun W=>OCond.cond_opens.calls kind _ W (opens_f kind)
 rw [notOpens kind (.inr (.inr hk))] at H68
 have hnl:n<gs.length:=HF.wf _ (List.mem_cons_self)
 obtain ⟨B,cap,rfl,hB0,hB1,hBc⟩:=Kd.S_form HF.hgs (by omega)
 obtain ⟨P,q0,rfl,hP0,hP1,hP2,hP3⟩:=HF.hst
 simp only at hP2
 have hFF:=HF.hc
 obtain ⟨c1,c1',c2,c2',c3,c3'⟩:=hK
 have hFl:=blk_lt hFF
 have hg0:w.cell? ⟨F,0,none⟩=some (.slice (some ⟨B,0,none⟩) gs.length cap):=by have:=cell_of_row w F 0 _ _ _ hFF;simpa using this
 have hg1:w.cell? ⟨F,1,none⟩=some (.pointer (some ⟨P,0,none⟩)):=by have:=cell_of_row w F 1 _ _ _ hFF;simpa using this
 have z1:w.cell? ⟨P,0,none⟩=some (.int .i64 n):=by have:=cell_of_row w P 0 _ _ _ hP2;simpa using this
 have z2:w.cell? ⟨P,1,none⟩=some (.int .i64 br):=by have:=cell_of_row w P 1 _ _ _ hP2;simpa using this
 have z3:w.cell? ⟨P,2,none⟩=some (.bool hs_):=by have:=cell_of_row w P 2 _ _ _ hP2;simpa using this
 have hi1:(0:Int)≤(n:Int):=by omega
 have hi2:(n:Int)<(gs.length:Int):=by omega
 have HLE:Aside0 (base≤w.heap.size):=⟨by have:=HF.hF;omega⟩
 have HBA:=z0 HB
 have HFA:=z0 HF
 clear HB HF hFF hP2 hP3 hk
 cases hs_
 · go_enter Tryz.func69,Tryz.ntmps69
   go_wp2_with (first|(go_at_call 68;go_loud (refine (H68 _).mono ?_;rintro e w8 ⟨rfl,hd⟩;have HF8:=z0 (HFA.out.drawn hd.below);have HB8:=z0 (below_via HBA.out HLE.out hd.below);replace hg0:=(hd.below.cell (World.block_lt_of_cell? w _ hg0)).trans hg0;replace hg1:=(hd.below.cell (World.block_lt_of_cell? w _ hg1)).trans hg1;replace z3:=(hd.below.cell (World.block_lt_of_cell? w _ z3)).trans z3;replace z1:=(hd.below.cell (World.block_lt_of_cell? w _ z1)).trans z1;replace z2:=(hd.below.cell (World.block_lt_of_cell? w _ z2)).trans z2;clear hd)))
   go_quiet (fail)
   obtain ⟨w9,hw9⟩:∃w9,w9=w8.drewN nq:=⟨_,rfl⟩
   rw [←hw9]
   have HF9:Aside0 (FS base F w9 (.slice (some ⟨B,0,none⟩) gs.length cap) (.pointer (some ⟨P,0,none⟩)) gs ((n,br,false)::st)):=⟨by rw [hw9];exact HF8.out.drawn (pw_below_drewN (Below.refl _ _) nq)⟩
   have HB9:Aside0 (Below base w0 w9):=⟨by rw [hw9];exact pw_below_drewN HB8.out nq⟩
   have HSZ9:Aside0 (base≤w9.heap.size):=⟨by have:=HF9.out.hF;have:=blk_lt HF9.out.hc;omega⟩
   clear hw9 HF8 HB8 hg0 hg1 z1 z2 z3 w8
   obtain ⟨oki,c,hcl,hM,hcc,hfr,hoki,hH⟩:=Kd.S_elem HF9.out.hgs ([],0,0,0) n hi1 hi2
   rw [Int.toNat_natCast] at hM hcc hfr
   change kGr.M w9 base oki (grAt gs n) c at hM
   generalize hg:grAt gs n=g0 at *
   obtain ⟨ls,b2,b3,b4⟩:=g0
   obtain ⟨_,_,rfl,⟨vl,rfl,hR⟩,⟨_,_,rfl,rfl,⟨_,_,rfl,rfl,rfl⟩⟩⟩:=hM
   simp only at hR hll
   obtain ⟨Al,cl,rfl⟩:=Kd.R_slice hR
   have hv0:w9.cell? ⟨B,n*4,none⟩=some (.slice Al ls.length cl):=hcc 0 _ rfl
   have HR:=z0 (Kd.R_mono (ok':=fun k=>oki k∨True∧w9.heap.size≤k) hR (fun k hk=> .inl hk))
   have HH:=z0 (Kd.H_widen hH)
   have HOW:Aside0 (∀k,(Value.slice Al ls.length cl).ownBlock=some k→oki k):=⟨hR.1⟩
   have HOK:=z0 hoki
   obtain ⟨P',q1,eP,_,hP1',hP2',hP3'⟩:=HF9.out.hst
   obtain rfl:P=P':=by injection eP with eP;injection eP with eP;injection eP
   simp only at hP2'
   obtain ⟨q2,rfl⟩:=Chain.ptr hP3'
   have HP9:=z0 hP2'
   have HC9:=z0 hP3'
   have hFP:¬F=P:=by
    rintro rfl
    have:=HF9.out.hc
    rw [hP2'] at this
    injection this with this
    injection this with _ this
    exact absurd this (by decide)
   have hPF:¬P=F:=fun h=>hFP h.symm
   have hBt:∃cells,w9.heap[B]? =some (.cells cells 134 (0,0)):=Kd.S_typed HF9.out.hgs B rfl
   have hFB:¬F=B:=by
    rintro rfl
    obtain ⟨c',h'⟩:=hBt
    have:=HF9.out.hc
    rw [h'] at this
    injection this with this
    injection this with _ this
    exact absurd this (by decide)
   have hPB:¬P=B:=by
    rintro rfl
    obtain ⟨c',h'⟩:=hBt
    have:=HP9.out
    rw [h'] at this
    injection this with this
    injection this with _ this
    exact absurd this (by decide)
   have E3:Aside0 (((gs.set (n:Int).toNat (ls++[at_],b2,b3,b4)).set (n:Int).toNat (ls++[at_],(ls.length:Int),b3,b4)).getD (n:Int).toNat ([],0,0,0)=(ls++[at_],(ls.length:Int),b3,b4)):=⟨by simp [hnl]⟩
   have KEEP:Aside0 (∀w10 w11:World,World.grownBy w9 w10 (Value.slice Al ls.length cl).ownBlock→World.grownBy w10 w11 (some B)→∀(k:Nat) (c:Array Value) (t:TypeId),w9.heap[k]? =some (Obj.cells c t (0,0))→t≠3→t≠134→w11.heap[k]? =some (Obj.cells c t (0,0))):=⟨fun w10 w11 h1 h2 k c t hc ht1 ht2=>by
    have a1:some k≠(Value.slice Al ls.length cl).ownBlock:=fun e=>by
     obtain ⟨c',h⟩:=Kd.R_typed HR.out k e.symm
     rw [h] at hc;injection hc with hc;injection hc with _ hc;exact ht1 hc.symm
    have a2:some k≠some B:=fun e=>by
     injection e with e;subst e
     obtain ⟨c',h⟩:=Kd.S_typed HF9.out.hgs k rfl
     rw [h] at hc;injection hc with hc;injection hc with _ hc;exact ht2 hc.symm
    have b1:=(h1.block k (blk_lt hc) a1).trans hc
    exact (h2.block k (blk_lt b1) a2).trans b1⟩
   clear hcc hfr hoki hH hR hcl hP2' hP3' eP
   go_wp2_with (first|(at_builtin;go_loud (refine Kd.R_append (Kd.int .i64) (w0:=w0) base rfl (.tmp 60) (.tmp 62) 120 3 (.int .i64 0) 8 rfl Tryz.underlying120 (by kernel_rfl) rfl (by decide) (by omega) (.slice Al ls.length cl) ls at_ [.int .i64 at_] (fun k=>oki k∨True∧w9.heap.size≤k) (fun _=>False) rfl rfl rfl (fun _ hk=>hk.elim) (fun k hk=> .inr ⟨trivial,hk⟩) HR.out HB9.out HSZ9.out (by omega) ?_;intro v1 w10 ho hb hg1 hat;obtain ⟨A1,k1,rfl⟩:=Kd.R_slice ho;rw [List.length_append,List.length_singleton] at ho;have HR1:=z0 ho;have HB10:=z0 hb;have HG10:=z0 hg1;clear ho hb hg1 hat))|(refine gate_ (.store 3 (.tmp 94) (.tmp 92)) rfl ?_;go_loud (refine Kd.H_store kGr (w0:=w0) base rfl rfl 3 (.tmp 94) (.tmp 92) rfl 134 (n:Int) 1 (gs.set (n:Int).toNat (ls++[at_],b2,b3,b4)) (ls++[at_],(ls.length:Int),b3,b4) (.int .i64 (ls.length:Int)) [.int .i64 (ls.length:Int)] [.slice A2 (ls.length+1) k2,.int .i64 b2,.int .i64 b3,.int .i64 b4] (fun _=>True) oki2 oki2 rfl (by rw [Int.toNat_natCast];rfl) rfl rfl (by kernel_rfl) (fun q hq=>by rw [List.mem_singleton.1 hq];rfl) HH2.out hi1 hi2 (show 1+1≤4 by omega) ?aM (fun _ h=>h) HB11.out ?_;(case aM=>exact ⟨[.slice A2 (ls.length+1) k2],_,rfl,⟨_,rfl,HR2.out⟩,⟨_,_,rfl,rfl,⟨_,_,rfl,rfl,rfl⟩⟩⟩);intro w12 ho hb hg2;have HS12:=z0 ho;have HB12:=z0 hb;have HG12:=z0 hg2;have hF12:=(hg2.block F (blk_lt HF11.out) (fun e=>hFB (by injection e))).trans HF11.out;have hP12:=(hg2.block P (blk_lt HP11.out) (fun e=>hPB (by injection e))).trans HP11.out;have y112:w12.cell? ⟨F,1,none⟩=some (.pointer (some ⟨P,0,none⟩)):=(by have:=cell_of_row _ F 1 _ _ _ hF12;simpa using this);have y212:w12.cell? ⟨P,2,none⟩=some (.bool false):=(by have:=cell_of_row _ P 2 _ _ _ hP12;simpa using this);have y312:w12.cell? ⟨P,3,none⟩=some (.pointer q2):=(by have:=cell_of_row _ P 3 _ _ _ hP12;simpa using this);have y412:=blk_frozen hF12 1;have HF12:=z0 hF12;have HP12:=z0 hP12;obtain ⟨oki3,c3_,hcl3,hM3,hcc3,hfr3,hoki3,hH3⟩:=Kd.S_elem HS12.out ([],0,0,0) n hi1 hi2;rw [E3.out] at hM3;rw [Int.toNat_natCast] at hcc3 hfr3;obtain ⟨_,_,rfl,⟨vl3,rfl,hR3⟩,⟨_,_,rfl,rfl,⟨_,_,rfl,rfl,rfl⟩⟩⟩:=hM3;have x3:w12.cell? ⟨B,n*4+1,none⟩=some (.int .i64 (ls.length:Int)):=hcc3 1 _ rfl;have x4:=hfr3 1;have HH3:=z0 hH3;have HR3:=z0 hR3;have HK3:=z0 hoki3;clear hcl3 hcc3 hfr3 hoki3 hH3 hR3 x0 x1 x2 ho hb hg2 hF12 hP12))|(refine gate_ (.store 3 (.tmp 109) (.tmp 107)) rfl ?_;go_loud (refine Kd.H_store kGr (w0:=w0) base rfl rfl 3 (.tmp 109) (.tmp 107) rfl 134 (n:Int) 1 ((gs.set (n:Int).toNat (ls++[at_],b2,b3,b4)).set (n:Int).toNat (ls++[at_],(ls.length:Int),b3,b4)) (ls++[at_],((ls.length:Int)+1),b3,b4) (.int .i64 ((ls.length:Int)+1)) [.int .i64 ((ls.length:Int)+1)] [vl3,.int .i64 (ls.length:Int),.int .i64 b3,.int .i64 b4] (fun _=>True) oki3 oki3 rfl (by rw [Int.toNat_natCast];rfl) rfl rfl (by kernel_rfl) (fun q hq=>by rw [List.mem_singleton.1 hq];rfl) HH3.out hi1 hi2 (show 1+1≤4 by omega) ?aM (fun _ h=>h) HB12.out ?_;(case aM=>exact ⟨[vl3],_,rfl,⟨_,rfl,HR3.out⟩,⟨_,_,rfl,rfl,⟨_,_,rfl,rfl,rfl⟩⟩⟩);intro w13 ho hb hg2;have HS13:=z0 ho;have HB13:=z0 hb;have HG13:=z0 hg2;have hF13:=(hg2.block F (blk_lt HF12.out) (fun e=>hFB (by injection e))).trans HF12.out;have hP13:=(hg2.block P (blk_lt HP12.out) (fun e=>hPB (by injection e))).trans HP12.out;have y113:w13.cell? ⟨F,1,none⟩=some (.pointer (some ⟨P,0,none⟩)):=(by have:=cell_of_row _ F 1 _ _ _ hF13;simpa using this);have y213:w13.cell? ⟨P,2,none⟩=some (.bool false):=(by have:=cell_of_row _ P 2 _ _ _ hP13;simpa using this);have y313:w13.cell? ⟨P,3,none⟩=some (.pointer q2):=(by have:=cell_of_row _ P 3 _ _ _ hP13;simpa using this);have y413:=blk_frozen hF13 1;have HF13:=z0 hF13;have HP13:=z0 hP13;clear ho hb hg2 hF13 hP13))|(refine gate_ (.store 120 (.tmp 65) (.tmp 63)) rfl ?_;go_loud (refine Kd.H_store kGr (w0:=w0) base rfl rfl 120 (.tmp 65) (.tmp 63) rfl 134 (n:Int) 0 gs (ls++[at_],b2,b3,b4) (.slice A1 (ls.length+1) k1) [.slice A1 (ls.length+1) k1] [.slice Al ls.length cl,.int .i64 b2,.int .i64 b3,.int .i64 b4] (fun _=>True) (fun k=>oki k∨True∧w9.heap.size≤k) (fun k=>oki k∨True∧w9.heap.size≤k) rfl (by rw [Int.toNat_natCast];rfl) rfl rfl (by kernel_rfl) (fun q hq=>by rw [List.mem_singleton.1 hq];rfl) (Kd.H_grown HH.out HG10.out (fun k hk=> .inl (HOW.out k hk))) hi1 hi2 (show 0+1≤4 by omega) ?aM (fun _ h=>h) HB10.out ?_;(case aM=>exact ⟨_,_,rfl,⟨_,rfl,HR1.out⟩,⟨_,_,rfl,rfl,⟨_,_,rfl,rfl,rfl⟩⟩⟩);intro w11 ho hb hg2;have HS11:=z0 ho;have HB11:=z0 hb;have HG11:=z0 hg2;have hF11:=KEEP.out _ _ HG10.out hg2 F _ 131 HF9.out.hc (by decide) (by decide);have hP11:=KEEP.out _ _ HG10.out hg2 P _ 136 HP9.out (by decide) (by decide);have e2:(gs.set (n:Int).toNat (ls++[at_],b2,b3,b4)).getD (n:Int).toNat ([],0,0,0)=(ls++[at_],b2,b3,b4):=(by simp [hnl]);obtain ⟨oki2,c2,hcl2,hM2,hcc2,hfr2,hoki2,hH2⟩:=Kd.S_elem HS11.out ([],0,0,0) n hi1 hi2;rw [e2] at hM2;rw [Int.toNat_natCast] at hcc2 hfr2;obtain ⟨_,_,rfl,⟨vl2,rfl,hR2⟩,⟨_,_,rfl,rfl,⟨_,_,rfl,rfl,rfl⟩⟩⟩:=hM2;obtain ⟨A2,k2,rfl⟩:=Kd.R_slice hR2;simp only at hR2;rw [List.length_append,List.length_singleton] at hR2;have x0:w11.cell? ⟨B,n*4,none⟩=some (.slice A2 (ls.length+1) k2):=(by have:=hcc2 0 _ rfl;rw [List.length_append,List.length_singleton] at this;exact this);have x1:w11.cell? ⟨B,n*4+1,none⟩=some (.int .i64 b2):=hcc2 1 _ rfl;have x2:=hfr2 1;simp only [List.length_append,List.length_singleton] at hH2;have HH2:=z0 (show Kd.H kGr 134 w11 base (fun _=>True) (.slice (some ⟨B,0,none⟩) gs.length cap) (gs.set (n:Int).toNat (ls++[at_],b2,b3,b4)) (n:Int) oki2 [.slice A2 (ls.length+1) k2,.int .i64 b2,.int .i64 b3,.int .i64 b4] from hH2);have HR2:=z0 hR2;have HK2:=z0 hoki2;clear hcl2 hcc2 hfr2 hoki2 hH2 e2 hR2;have y1:w11.cell? ⟨F,1,none⟩=some (.pointer (some ⟨P,0,none⟩)):=(by have:=cell_of_row _ F 1 _ _ _ hF11;simpa using this);have y2:w11.cell? ⟨P,1,none⟩=some (.int .i64 br):=(by have:=cell_of_row _ P 1 _ _ _ hP11;simpa using this);have y3:w11.cell? ⟨P,2,none⟩=some (.bool false):=(by have:=cell_of_row _ P 2 _ _ _ hP11;simpa using this);have y4:=blk_frozen hP11 1;have y5:=blk_frozen hP11 2;have HP11:=z0 hP11;have HF11:=z0 hF11;clear ho hb hg2 hP11 hF11)))
   go_ret
   have hK:∀(k:Nat) (c:Array Value),w9.heap[k]? =some (Obj.cells c 136 (0,0))→w13.heap[k]? =some (Obj.cells c 136 (0,0)):=fun k c h=>by
    have hkB:k≠B:=by
     rintro rfl
     obtain ⟨c',h'⟩:=hBt
     rw [h'] at h
     injection h with h
     injection h with _ h
     exact absurd h (by decide)
    have h11:=KEEP.out _ _ HG10.out HG11.out k c 136 h (by decide) (by decide)
    have h12:=(HG12.out.block k (blk_lt h11) (fun e=>hkB (by injection e))).trans h11
    exact (HG13.out.block k (blk_lt h12) (fun e=>hkB (by injection e))).trans h12
   have hSS:=HS13.out
   rw [Int.toNat_natCast] at hSS
   simp only [List.set_set] at hSS
   exact ⟨rfl,⟨_,_,endif_end (P:=P) (n:=n) HF9.out HF13.out (by have:=blk_lt HP13.out;omega) HC9.out hSS (by rw [List.length_set]) hK⟩,HB13.out.setCell HF9.out.hF _⟩
 · go_enter Tryz.func69,Tryz.ntmps69
   go_wp2_with (first|(go_at_call 68;go_loud (refine (H68 _).mono ?_;rintro e w8 ⟨rfl,hd⟩;have HF8:=z0 (HFA.out.drawn hd.below);have HB8:=z0 (below_via HBA.out HLE.out hd.below);replace hg0:=(hd.below.cell (World.block_lt_of_cell? w _ hg0)).trans hg0;replace hg1:=(hd.below.cell (World.block_lt_of_cell? w _ hg1)).trans hg1;replace z3:=(hd.below.cell (World.block_lt_of_cell? w _ z3)).trans z3;replace z1:=(hd.below.cell (World.block_lt_of_cell? w _ z1)).trans z1;replace z2:=(hd.below.cell (World.block_lt_of_cell? w _ z2)).trans z2;clear hd)))
   go_quiet (fail)
   obtain ⟨w9,hw9⟩:∃w9,w9=w8.drewN nq:=⟨_,rfl⟩
   rw [←hw9]
   have HF9:Aside0 (FS base F w9 (.slice (some ⟨B,0,none⟩) gs.length cap) (.pointer (some ⟨P,0,none⟩)) gs ((n,br,true)::st)):=⟨by rw [hw9];exact HF8.out.drawn (pw_below_drewN (Below.refl _ _) nq)⟩
   have HB9:Aside0 (Below base w0 w9):=⟨by rw [hw9];exact pw_below_drewN HB8.out nq⟩
   have HSZ9:Aside0 (base≤w9.heap.size):=⟨by have:=HF9.out.hF;have:=blk_lt HF9.out.hc;omega⟩
   clear hw9 HF8 HB8 hg0 hg1 z1 z2 z3 w8
   obtain ⟨oki,c,hcl,hM,hcc,hfr,hoki,hH⟩:=Kd.S_elem HF9.out.hgs ([],0,0,0) n hi1 hi2
   rw [Int.toNat_natCast] at hM hcc hfr
   change kGr.M w9 base oki (grAt gs n) c at hM
   generalize hg:grAt gs n=g0 at *
   obtain ⟨ls,b2,b3,b4⟩:=g0
   obtain ⟨_,_,rfl,⟨vl,rfl,hR⟩,⟨_,_,rfl,rfl,⟨_,_,rfl,rfl,rfl⟩⟩⟩:=hM
   simp only at hR hll
   obtain ⟨Al,cl,rfl⟩:=Kd.R_slice hR
   have hv0:w9.cell? ⟨B,n*4,none⟩=some (.slice Al ls.length cl):=hcc 0 _ rfl
   have HR:=z0 (Kd.R_mono (ok':=fun k=>oki k∨True∧w9.heap.size≤k) hR (fun k hk=> .inl hk))
   have HH:=z0 (Kd.H_widen hH)
   have HOW:Aside0 (∀k,(Value.slice Al ls.length cl).ownBlock=some k→oki k):=⟨hR.1⟩
   have HOK:=z0 hoki
   obtain ⟨P',q1,eP,_,hP1',hP2',hP3'⟩:=HF9.out.hst
   obtain rfl:P=P':=by injection eP with eP;injection eP with eP;injection eP
   simp only at hP2'
   obtain ⟨q2,rfl⟩:=Chain.ptr hP3'
   have HP9:=z0 hP2'
   have HC9:=z0 hP3'
   have hFP:¬F=P:=by
    rintro rfl
    have:=HF9.out.hc
    rw [hP2'] at this
    injection this with this
    injection this with _ this
    exact absurd this (by decide)
   have hPF:¬P=F:=fun h=>hFP h.symm
   have hBt:∃cells,w9.heap[B]? =some (.cells cells 134 (0,0)):=Kd.S_typed HF9.out.hgs B rfl
   have hFB:¬F=B:=by
    rintro rfl
    obtain ⟨c',h'⟩:=hBt
    have:=HF9.out.hc
    rw [h'] at this
    injection this with this
    injection this with _ this
    exact absurd this (by decide)
   have hPB:¬P=B:=by
    rintro rfl
    obtain ⟨c',h'⟩:=hBt
    have:=HP9.out
    rw [h'] at this
    injection this with this
    injection this with _ this
    exact absurd this (by decide)
   have E3:Aside0 (((gs.set (n:Int).toNat (ls++[at_],b2,b3,b4)).set (n:Int).toNat (ls++[at_],(ls.length:Int),b3,b4)).getD (n:Int).toNat ([],0,0,0)=(ls++[at_],(ls.length:Int),b3,b4)):=⟨by simp [hnl]⟩
   have KEEP:Aside0 (∀w10 w11:World,World.grownBy w9 w10 (Value.slice Al ls.length cl).ownBlock→World.grownBy w10 w11 (some B)→∀(k:Nat) (c:Array Value) (t:TypeId),w9.heap[k]? =some (Obj.cells c t (0,0))→t≠3→t≠134→w11.heap[k]? =some (Obj.cells c t (0,0))):=⟨fun w10 w11 h1 h2 k c t hc ht1 ht2=>by
    have a1:some k≠(Value.slice Al ls.length cl).ownBlock:=fun e=>by
     obtain ⟨c',h⟩:=Kd.R_typed HR.out k e.symm
     rw [h] at hc;injection hc with hc;injection hc with _ hc;exact ht1 hc.symm
    have a2:some k≠some B:=fun e=>by
     injection e with e;subst e
     obtain ⟨c',h⟩:=Kd.S_typed HF9.out.hgs k rfl
     rw [h] at hc;injection hc with hc;injection hc with _ hc;exact ht2 hc.symm
    have b1:=(h1.block k (blk_lt hc) a1).trans hc
    exact (h2.block k (blk_lt b1) a2).trans b1⟩
   clear hcc hfr hoki hH hR hcl hP2' hP3' eP
   go_wp2_with (first|(at_builtin;go_loud (refine Kd.R_append (Kd.int .i64) (w0:=w0) base rfl (.tmp 60) (.tmp 62) 120 3 (.int .i64 0) 8 rfl Tryz.underlying120 (by kernel_rfl) rfl (by decide) (by omega) (.slice Al ls.length cl) ls at_ [.int .i64 at_] (fun k=>oki k∨True∧w9.heap.size≤k) (fun _=>False) rfl rfl rfl (fun _ hk=>hk.elim) (fun k hk=> .inr ⟨trivial,hk⟩) HR.out HB9.out HSZ9.out (by omega) ?_;intro v1 w10 ho hb hg1 hat;obtain ⟨A1,k1,rfl⟩:=Kd.R_slice ho;rw [List.length_append,List.length_singleton] at ho;have HR1:=z0 ho;have HB10:=z0 hb;have HG10:=z0 hg1;clear ho hb hg1 hat))|(refine gate_ (.store 3 (.tmp 94) (.tmp 92)) rfl ?_;go_loud (refine Kd.H_store kGr (w0:=w0) base rfl rfl 3 (.tmp 94) (.tmp 92) rfl 134 (n:Int) 1 (gs.set (n:Int).toNat (ls++[at_],b2,b3,b4)) (ls++[at_],(ls.length:Int),b3,b4) (.int .i64 (ls.length:Int)) [.int .i64 (ls.length:Int)] [.slice A2 (ls.length+1) k2,.int .i64 b2,.int .i64 b3,.int .i64 b4] (fun _=>True) oki2 oki2 rfl (by rw [Int.toNat_natCast];rfl) rfl rfl (by kernel_rfl) (fun q hq=>by rw [List.mem_singleton.1 hq];rfl) HH2.out hi1 hi2 (show 1+1≤4 by omega) ?aM (fun _ h=>h) HB11.out ?_;(case aM=>exact ⟨[.slice A2 (ls.length+1) k2],_,rfl,⟨_,rfl,HR2.out⟩,⟨_,_,rfl,rfl,⟨_,_,rfl,rfl,rfl⟩⟩⟩);intro w12 ho hb hg2;have HS12:=z0 ho;have HB12:=z0 hb;have HG12:=z0 hg2;have hF12:=(hg2.block F (blk_lt HF11.out) (fun e=>hFB (by injection e))).trans HF11.out;have hP12:=(hg2.block P (blk_lt HP11.out) (fun e=>hPB (by injection e))).trans HP11.out;have y112:w12.cell? ⟨F,1,none⟩=some (.pointer (some ⟨P,0,none⟩)):=(by have:=cell_of_row _ F 1 _ _ _ hF12;simpa using this);have y212:w12.cell? ⟨P,2,none⟩=some (.bool true):=(by have:=cell_of_row _ P 2 _ _ _ hP12;simpa using this);have y312:w12.cell? ⟨P,3,none⟩=some (.pointer q2):=(by have:=cell_of_row _ P 3 _ _ _ hP12;simpa using this);have y412:=blk_frozen hF12 1;have HF12:=z0 hF12;have HP12:=z0 hP12;obtain ⟨oki3,c3_,hcl3,hM3,hcc3,hfr3,hoki3,hH3⟩:=Kd.S_elem HS12.out ([],0,0,0) n hi1 hi2;rw [E3.out] at hM3;rw [Int.toNat_natCast] at hcc3 hfr3;obtain ⟨_,_,rfl,⟨vl3,rfl,hR3⟩,⟨_,_,rfl,rfl,⟨_,_,rfl,rfl,rfl⟩⟩⟩:=hM3;have x3:w12.cell? ⟨B,n*4+1,none⟩=some (.int .i64 (ls.length:Int)):=hcc3 1 _ rfl;have x4:=hfr3 1;have HH3:=z0 hH3;have HR3:=z0 hR3;have HK3:=z0 hoki3;clear hcl3 hcc3 hfr3 hoki3 hH3 hR3 x0 x1 x2 ho hb hg2 hF12 hP12))|(refine gate_ (.store 3 (.tmp 109) (.tmp 107)) rfl ?_;go_loud (refine Kd.H_store kGr (w0:=w0) base rfl rfl 3 (.tmp 109) (.tmp 107) rfl 134 (n:Int) 1 ((gs.set (n:Int).toNat (ls++[at_],b2,b3,b4)).set (n:Int).toNat (ls++[at_],(ls.length:Int),b3,b4)) (ls++[at_],((ls.length:Int)+1),b3,b4) (.int .i64 ((ls.length:Int)+1)) [.int .i64 ((ls.length:Int)+1)] [vl3,.int .i64 (ls.length:Int),.int .i64 b3,.int .i64 b4] (fun _=>True) oki3 oki3 rfl (by rw [Int.toNat_natCast];rfl) rfl rfl (by kernel_rfl) (fun q hq=>by rw [List.mem_singleton.1 hq];rfl) HH3.out hi1 hi2 (show 1+1≤4 by omega) ?aM (fun _ h=>h) HB12.out ?_;(case aM=>exact ⟨[vl3],_,rfl,⟨_,rfl,HR3.out⟩,⟨_,_,rfl,rfl,⟨_,_,rfl,rfl,rfl⟩⟩⟩);intro w13 ho hb hg2;have HS13:=z0 ho;have HB13:=z0 hb;have HG13:=z0 hg2;have hF13:=(hg2.block F (blk_lt HF12.out) (fun e=>hFB (by injection e))).trans HF12.out;have hP13:=(hg2.block P (blk_lt HP12.out) (fun e=>hPB (by injection e))).trans HP12.out;have y113:w13.cell? ⟨F,1,none⟩=some (.pointer (some ⟨P,0,none⟩)):=(by have:=cell_of_row _ F 1 _ _ _ hF13;simpa using this);have y213:w13.cell? ⟨P,2,none⟩=some (.bool true):=(by have:=cell_of_row _ P 2 _ _ _ hP13;simpa using this);have y313:w13.cell? ⟨P,3,none⟩=some (.pointer q2):=(by have:=cell_of_row _ P 3 _ _ _ hP13;simpa using this);have y413:=blk_frozen hF13 1;have HF13:=z0 hF13;have HP13:=z0 hP13;clear ho hb hg2 hF13 hP13))|(refine gate_ (.store 120 (.tmp 65) (.tmp 63)) rfl ?_;go_loud (refine Kd.H_store kGr (w0:=w0) base rfl rfl 120 (.tmp 65) (.tmp 63) rfl 134 (n:Int) 0 gs (ls++[at_],b2,b3,b4) (.slice A1 (ls.length+1) k1) [.slice A1 (ls.length+1) k1] [.slice Al ls.length cl,.int .i64 b2,.int .i64 b3,.int .i64 b4] (fun _=>True) (fun k=>oki k∨True∧w9.heap.size≤k) (fun k=>oki k∨True∧w9.heap.size≤k) rfl (by rw [Int.toNat_natCast];rfl) rfl rfl (by kernel_rfl) (fun q hq=>by rw [List.mem_singleton.1 hq];rfl) (Kd.H_grown HH.out HG10.out (fun k hk=> .inl (HOW.out k hk))) hi1 hi2 (show 0+1≤4 by omega) ?aM (fun _ h=>h) HB10.out ?_;(case aM=>exact ⟨_,_,rfl,⟨_,rfl,HR1.out⟩,⟨_,_,rfl,rfl,⟨_,_,rfl,rfl,rfl⟩⟩⟩);intro w11 ho hb hg2;have HS11:=z0 ho;have HB11:=z0 hb;have HG11:=z0 hg2;have hF11:=KEEP.out _ _ HG10.out hg2 F _ 131 HF9.out.hc (by decide) (by decide);have hP11:=KEEP.out _ _ HG10.out hg2 P _ 136 HP9.out (by decide) (by decide);have e2:(gs.set (n:Int).toNat (ls++[at_],b2,b3,b4)).getD (n:Int).toNat ([],0,0,0)=(ls++[at_],b2,b3,b4):=(by simp [hnl]);obtain ⟨oki2,c2,hcl2,hM2,hcc2,hfr2,hoki2,hH2⟩:=Kd.S_elem HS11.out ([],0,0,0) n hi1 hi2;rw [e2] at hM2;rw [Int.toNat_natCast] at hcc2 hfr2;obtain ⟨_,_,rfl,⟨vl2,rfl,hR2⟩,⟨_,_,rfl,rfl,⟨_,_,rfl,rfl,rfl⟩⟩⟩:=hM2;obtain ⟨A2,k2,rfl⟩:=Kd.R_slice hR2;simp only at hR2;rw [List.length_append,List.length_singleton] at hR2;have x0:w11.cell? ⟨B,n*4,none⟩=some (.slice A2 (ls.length+1) k2):=(by have:=hcc2 0 _ rfl;rw [List.length_append,List.length_singleton] at this;exact this);have x1:w11.cell? ⟨B,n*4+1,none⟩=some (.int .i64 b2):=hcc2 1 _ rfl;have x2:=hfr2 1;simp only [List.length_append,List.length_singleton] at hH2;have HH2:=z0 (show Kd.H kGr 134 w11 base (fun _=>True) (.slice (some ⟨B,0,none⟩) gs.length cap) (gs.set (n:Int).toNat (ls++[at_],b2,b3,b4)) (n:Int) oki2 [.slice A2 (ls.length+1) k2,.int .i64 b2,.int .i64 b3,.int .i64 b4] from hH2);have HR2:=z0 hR2;have HK2:=z0 hoki2;clear hcl2 hcc2 hfr2 hoki2 hH2 e2 hR2;have y1:w11.cell? ⟨F,1,none⟩=some (.pointer (some ⟨P,0,none⟩)):=(by have:=cell_of_row _ F 1 _ _ _ hF11;simpa using this);have y2:w11.cell? ⟨P,1,none⟩=some (.int .i64 br):=(by have:=cell_of_row _ P 1 _ _ _ hP11;simpa using this);have y3:w11.cell? ⟨P,2,none⟩=some (.bool true):=(by have:=cell_of_row _ P 2 _ _ _ hP11;simpa using this);have y4:=blk_frozen hP11 1;have y5:=blk_frozen hP11 2;have HP11:=z0 hP11;have HF11:=z0 hF11;clear ho hb hg2 hP11 hF11)))
   go_ret
   have hK:∀(k:Nat) (c:Array Value),w9.heap[k]? =some (Obj.cells c 136 (0,0))→w12.heap[k]? =some (Obj.cells c 136 (0,0)):=fun k c h=>by
    have hkB:k≠B:=by
     rintro rfl
     obtain ⟨c',h'⟩:=hBt
     rw [h'] at h
     injection h with h
     injection h with _ h
     exact absurd h (by decide)
    have h11:=KEEP.out _ _ HG10.out HG11.out k c 136 h (by decide) (by decide)
    exact (HG12.out.block k (blk_lt h11) (fun e=>hkB (by injection e))).trans h11
   have hSS:=HS12.out
   rw [Int.toNat_natCast] at hSS
   simp only [List.set_set] at hSS
   exact ⟨rfl,⟨_,_,endif_end (P:=P) (n:=n) HF9.out HF12.out (by have:=blk_lt HP12.out;omega) HC9.out hSS (by rw [List.length_set]) hK⟩,HB12.out.setCell HF9.out.hF _⟩
theorem step_any (kind:ByteArray)(at_:Int)(base F:Nat)(w0 w:World)(v p:Value)(gs:List Gr)(st:List Ope)(HF:FS base F w v p gs st)(HB:Below base w0 w)(hl:gs.length≤1000000)(hll:∀g∈gs,g.1.length≤1000000):
 Calls Tryz.prog 69 #[.pointer (some ⟨F,0,none⟩),.string kind,.int .i64 at_] w (StepQ base F w0 (stepF kind at_ gs st)):=by
 by_cases ho:opensB kind=true
 · exact step_easy kind at_ base F w0 w v p gs st HF HB hl (.inl ho)
 · by_cases hk:kind.toList≠elifL∧kind.toList≠elseL∧kind.toList≠endifL
   · exact step_easy kind at_ base F w0 w v p gs st HF HB hl (.inr ⟨by simpa using ho,hk⟩)
   · have hk':kind.toList=elifL∨kind.toList=elseL∨kind.toList=endifL:=by
      by_cases h1:kind.toList=elifL
      · exact .inl h1
      · by_cases h2:kind.toList=elseL
        · exact .inr (.inl h2)
        · by_cases h3:kind.toList=endifL
          · exact .inr (.inr h3)
          · exact absurd ⟨h1,h2,h3⟩ hk
     unfold stepF
     rw [if_neg ho,if_neg hk]
     cases st with
     |nil=>exact step_false kind at_ base F w0 w v p gs [] HF HB hk' (.inl rfl)
     |cons x st'=>
      obtain ⟨n,br,hs⟩:=x
      have hg:(grAt gs n).1.length≤1000000:=by
       have hn:n<gs.length:=HF.wf _ List.mem_cons_self
       have:grAt gs n=gs[n]:=by simp [grAt,hn]
       rw [this]
       exact hll _ (List.getElem_mem hn)
      dsimp only
      by_cases hc:hs=true∧kind.toList≠endifL
      · rw [if_pos hc]
        exact step_false kind at_ base F w0 w v p gs _ HF HB hk' (.inr ⟨_,_,rfl,hc⟩)
      · rw [if_neg hc]
        by_cases he:kind.toList≠endifL
        · rw [if_pos he]
          have h1:kind.toList=elifL∨kind.toList=elseL:=by
           rcases hk' with h|h|h
           · exact .inl h
           · exact .inr h
           · exact absurd h he
          have h2:hs=false:=by cases hs with|false=>rfl|true=>exact absurd ⟨rfl,he⟩ hc
          rcases kindIs kind hk' with h|h|h
          · exact step_else kind at_ base F w0 w v p gs n br hs st' HF HB hl hg _ _ h1 h (.inl ⟨rfl,rfl⟩) h2
          · exact step_else kind at_ base F w0 w v p gs n br hs st' HF HB hl hg _ _ h1 h (.inr ⟨rfl,rfl⟩) h2
          · exact absurd (beq_iff_eq.1 h.c3) he
        · rw [if_neg he]
          have he':kind.toList=endifL:=Classical.not_not.1 he
          rcases kindIs kind hk' with h|h|h
          · exact absurd he' (beq_eq_false_iff_ne.1 h.c3)
          · exact absurd he' (beq_eq_false_iff_ne.1 h.c3)
          · exact step_endif kind at_ base F w0 w v p gs n br hs st' HF HB hl hg he' h
def grpGo:List ByteArray→Nat→List Gr→List Ope→(List Gr × List Ope) ⊕ Nat
 |[],_,gs,st=> .inl (gs,st)
 |k::ks,i,gs,st=>match stepF k i gs st with
  |none=> .inr i
  |some r=>grpGo ks (i+1) r.1 r.2
def opensN:List ByteArray→Nat
 |[]=>0
 |k::ks=>(if opensB k=true then 1 else 0)+opensN ks
theorem opensN_le:∀ks:List ByteArray,opensN ks≤ks.length
 |[]=>Nat.le_refl _
 |k::ks=>by have:=opensN_le ks;unfold opensN;rw [List.length_cons];split<;>omega
theorem opensN_snoc:∀(ks:List ByteArray) (k:ByteArray),opensN (ks++[k])=opensN ks+(if opensB k=true then 1 else 0)
 |[],k=>by simp [opensN]
 |x::ks,k=>by rw [List.cons_append,opensN,opensN,opensN_snoc ks k];omega
def groupsR (ks:List ByteArray):List Gr × Int × Int:=
 if 200<opensN ks then ([],2,0) else
 match grpGo ks 0 [] [] with
 | .inr i=>([],30,i)
 | .inl (gs,[])=>(gs,0,0)
 | .inl (gs,x::_)=>([],30,(grAt gs x.1).1.headD 0)
def KindOf (t:Tk)(r:ByteArray):Prop:=∃k,OCond.cond_Kind.f k t.1 t.2.1 t.2.2.1 t.2.2.2=some r
theorem take_snoc {α:Type}(l:List α)(i:Nat)(r:α)(h:l[i]? =some r):l.take (i+1)=l.take i++[r]:=by
 obtain ⟨hi,he⟩:=List.getElem?_eq_some_iff.1 h
 rw [List.take_succ_eq_append_getElem hi,he]
theorem fill_set {α:Type}(l:List α)(z r:α)(i n:Nat)(hi:i<n)(h:l[i]? =some r):(l.take i++List.replicate (n-i) z).set (i:Int).toNat r=l.take (i+1)++List.replicate (n-(i+1)) z:=by
 obtain ⟨hil,he⟩:=List.getElem?_eq_some_iff.1 h
 have hl:(l.take i).length=i:=by rw [List.length_take];omega
 rw [Int.toNat_natCast,take_snoc l i r h,List.set_append_right _ _ (by omega),hl,Nat.sub_self,show n-i=(n-(i+1))+1 by omega,List.replicate_succ,List.set_cons_zero]
 simp
theorem fill_get {α:Type}(l:List α)(z r:α)(i n:Nat)(h:l[i]? =some r):(l.take (i+1)++List.replicate (n-(i+1)) z).getD (i:Int).toNat z=r:=by
 obtain ⟨hil,he⟩:=List.getElem?_eq_some_iff.1 h
 rw [Int.toNat_natCast,List.getD_eq_getElem?_getD,List.getElem?_append_left (by rw [List.length_take];omega),List.getElem?_take,if_pos (by omega),h]
 rfl
def GInv (i:Nat)(gs:List Gr):Prop:=gs.length≤i∧∀g∈gs,g.1.length≤i∧g.1≠[]
theorem GInv.mono {i j:Nat}{gs:List Gr}(h:GInv i gs)(hij:i≤j):GInv j gs:=⟨by have:=h.1;omega,fun g hg=>⟨by have:=(h.2 g hg).1;omega,(h.2 g hg).2⟩⟩
theorem GInv.grow {i:Nat}{gs:List Gr}{n:Nat}{a:Int}{y:Int × Int × Int}(h:GInv i gs):GInv (i+1) (gs.set n ((grAt gs n).1++[a],y)):=by
 refine ⟨by rw [List.length_set];have:=h.1;omega,fun g hg=> ?_⟩
 rcases List.mem_or_eq_of_mem_set hg with hg|rfl
 · exact (h.mono (Nat.le_succ i)).2 g hg
 · refine ⟨?_,by simp⟩
   rw [List.length_append,List.length_singleton]
   by_cases hn:n<gs.length
   · have e:grAt gs n=gs[n]:=by simp [grAt,hn]
     rw [e]
     have:=(h.2 _ (List.getElem_mem hn)).1
     omega
   · have e:grAt gs n=([],0,0,0):=by simp [grAt,List.getD_eq_getElem?_getD,List.getElem?_eq_none (Nat.le_of_not_lt hn)]
     rw [e];simp
theorem GInv.step {i:Nat}{k:ByteArray}{a:Int}{gs:List Gr}{st:List Ope}{r:List Gr × List Ope}(h:GInv i gs)(hs:stepF k a gs st=some r):GInv (i+1) r.1:=by
 unfold stepF at hs
 split at hs
 · obtain rfl:=Option.some.inj hs
   refine ⟨by show (gs++_).length≤_;rw [List.length_append,List.length_singleton];have:=h.1;omega,fun g hg=> ?_⟩
   rcases List.mem_append.1 hg with hg|hg
   · exact (h.mono (Nat.le_succ i)).2 g hg
   · rw [List.mem_singleton.1 hg];exact ⟨by simp,by simp⟩
 · split at hs
   · obtain rfl:=Option.some.inj hs
     exact h.mono (Nat.le_succ i)
   · split at hs
     · cases hs
     · split at hs
       · cases hs
       · split at hs
         · obtain rfl:=Option.some.inj hs
           exact h.grow
         · obtain rfl:=Option.some.inj hs
           exact h.grow
theorem groups_any (ys:List Tk)(ks:List ByteArray)(w:World)(A:Option Addr)(c:Nat)(hC:Kd.C kTk w A ys.length ys)(hc:ys.length≤c)(hG:Glob2 w)(hl:ys.length≤900000)(hkl:ks.length=ys.length)
 (hK:∀(i:Nat) (t:Tk),ys[i]? =some t→∃r,ks[i]? =some r∧KindOf t r):
 Calls Tryz.prog 41 #[.slice A ys.length c] w fun e w'=>∃v,e= .returned (.tuple #[v,.int .i64 (groupsR ks).2.1,.int .i64 (groupsR ks).2.2])∧Kd.R kGr 134 w' w.heap.size (fun _=>True) v (groupsR ks).1∧Below w.heap.size w w':=by
 have H68:=fun W k=>OCond.cond_opens.calls k _ W (opens_f k)
 have HG:=z0 hG
 have HC:=z0 hC
 have HK:=z0 hK
 have HKL:=z0 hkl
 obtain ⟨n,hn⟩:∃n,n=ys.length:=⟨_,rfl⟩
 rw [←hn] at hc hl ⊢
 have HN:=z0 hn
 clear hG hC hK hkl hn
 go_enter Tryz.func41,Tryz.ntmps41
 go_wp2_with (refine gate_ (.makeSlice 23 (.tmp 13) (.tmp 13)) rfl ?_;go_loud (refine Kd.R_make Kd.string (w0:=w) w.heap.size 9 rfl (N:=14) rfl 23 (.tmp 13) (.tmp 13) rfl (n:Int) rfl rfl Tryz.underlying23 (.string ⟨#[]⟩) 16 (by kernel_rfl) rfl (by decide) (by omega) ⟨#[]⟩ (ok:=fun _=>True) (okp:=fun _=>False) rfl (fun _ h=>h.elim) trivial (by omega) (by simp;omega) (Below.refl _ _) (Nat.le_refl _) ?_;intro v5 w5 ho hb hg5 hat;rw [Int.toNat_natCast] at ho;obtain ⟨b5,hat,_⟩:=hat;obtain ⟨A5,c5,rfl⟩:=Kd.R_slice ho;rw [List.length_replicate] at ho;obtain ⟨g5,rfl⟩:∃g,A5=some ⟨g,0,none⟩:=(by cases A5 with|none=>simp [Value.ownBlock] at hat|some a=>obtain ⟨g,rfl⟩:=Kd.R_head ho;exact ⟨g,rfl⟩);have HR5:=z0 ho;have HB5:=z0 hb;clear ho hb hg5 hat))
 have HG5:Aside0 (Glob2 w5):=⟨HG.out.below HB5.out⟩
 go_loopg [6,17] n (fun kq v6 v17 w'=>∃(i:Nat),v17= .int .i64 i∧v6= .int .i64 (opensN (ks.take i))∧Aside0 (kq+i=n)∧Aside0 (Kd.R Kd.string 9 w' w.heap.size (fun _=>True) (.slice (some ⟨g5,0,none⟩) n c5) (ks.take i++List.replicate (n-i) ⟨#[]⟩))∧Aside0 (Below w.heap.size w w'))
 case atStart=>exact ⟨0,rfl,rfl,⟨rfl⟩,⟨by simpa using HR5.out⟩,HB5⟩
 case round=>
  obtain ⟨i,rfl,rfl,hki,hR,hB⟩:=hrel
  have hki':=hki.out
  cases gk with
  |zero=>
   have hlt:decide ((i:Int)<(n:Int))=false:=decide_eq_false (by omega)
   obtain rfl:i=n:=by omega
   have ht:ks.take i=ks:=List.take_of_length_le (by rw [HKL.out,←HN.out];omega)
   have hRn:=hR.out
   rw [ht,Nat.sub_self,List.replicate_zero,List.append_nil] at hRn
   rw [ht]
   have HR6:=z0 hRn
   clear hR hRn ht
   by_cases hbig:200<opensN ks
   · have hb1:decide ((200:Int)<(opensN ks:Int))=true:=decide_eq_true (by omega)
     go_wp2
     go_ret3
     have hgr:groupsR ks=([],2,0):=by unfold groupsR;rw [if_pos hbig]
     rw [hgr]
     exact ⟨_,rfl,Kd.R_nil _ _ _ _ _,hB.out⟩
   · have hb1:decide ((200:Int)<(opensN ks:Int))=false:=decide_eq_false (by omega)
     have hcell:Aside0 (∀(j:Nat) (r:ByteArray),ks[j]? =some r→wr.cell? ⟨g5,j,none⟩=some (.string r)):=⟨fun j r hj=>by
      obtain ⟨hjl,_⟩:=List.getElem?_eq_some_iff.1 hj
      obtain ⟨c8,_,hM8,hcc8,_⟩:=Kd.R_elem HR6.out ⟨#[]⟩ (j:Int) (by omega) (by rw [HKL.out,←HN.out] at hjl;omega)
      obtain rfl:=hM8
      have:=hcc8 0 _ rfl
      rw [Int.toNat_natCast,List.getD_eq_getElem?_getD,hj] at this
      simpa [Kd.string,Kd.scalar] using this⟩
     have HG6:Aside0 (Glob2 wr):=⟨HG.out.below hB.out⟩
     have HBW:=hB
     have HSZ:Aside0 (w.heap.size≤wr.heap.size):=⟨hB.out.size⟩
     have HBIG:=z0 hbig
     clear hB hbig HR6
     go_wp2
     obtain ⟨F,hF⟩:∃F,F=wr.heap.size:=⟨_,rfl⟩
     obtain ⟨w10,hw10⟩:∃w10,w10=wr.alloc (Obj.cells #[Value.slice none 0 0,Value.pointer none] 131):=⟨_,rfl⟩
     rw [←hw10,←hF]
     have HF0:Aside0 (FS F F w10 (.slice none 0 0) (.pointer none) [] []):=⟨⟨Nat.le_refl _,by rw [hw10,hF];exact blk_new _ _,Kd.S_nil _ _ _ _ _,rfl,fun x hx=>by cases hx⟩⟩
     have HB10:Aside0 (Below F wr w10):=⟨by rw [hw10,hF];exact below_alloc (Below.refl _ _) _⟩
     have HFE:=z0 hF
     clear hw10 hF
     obtain ⟨W6,hW6⟩:∃W6,W6=wr:=⟨_,rfl⟩
     subst hW6
     have HLE:=z0 hl
     go_loopg [41] i (fun kq v41 w'=>∃(j:Nat) (gs:List Gr) (st:List Ope) (v p:Value),v41= .int .i64 j∧Aside0 (kq+j=i)∧Aside0 (grpGo (ks.drop j) j gs st=grpGo ks 0 [] [])∧Aside0 (FS F F w' v p gs st)∧Aside0 (Below F W6 w')∧Aside0 (GInv j gs))
     case atStart=>exact ⟨0,[],[],_,_,rfl,⟨rfl⟩,⟨rfl⟩,HF0,HB10,⟨⟨Nat.le_refl _,fun g hg=>by cases hg⟩⟩⟩
     case round=>
      obtain ⟨j,gs,st,v,p,rfl,hkj,hGo,hFS,hBj,hI⟩:=hrel
      have hkj':=hkj.out
      cases gk with
      |zero=>
       obtain rfl:j=i:=by omega
       have hlt:decide ((j:Int)<(j:Int))=false:=decide_eq_false (by omega)
       have hgo:=hGo.out
       rw [List.drop_eq_nil_of_le (by rw [HKL.out,←HN.out];omega)] at hgo
       cases st with
       |nil=>
        obtain rfl:p= .pointer none:=hFS.out.hst
        have hg0:wr.cell? ⟨F,0,none⟩=some v:=by have:=cell_of_row _ F 0 _ _ _ hFS.out.hc;simpa using this
        have hg1:wr.cell? ⟨F,1,none⟩=some (.pointer none):=by have:=cell_of_row _ F 1 _ _ _ hFS.out.hc;simpa using this
        go_wp2
        go_ret3
        have hgr:groupsR ks=(gs,0,0):=by unfold groupsR;rw [if_neg HBIG.out,←hgo];rfl
        rw [hgr]
        exact ⟨_,rfl,Kd.S_R (Kd.S_lower hFS.out.hgs (by rw [HFE.out];exact HSZ.out)),below_via HBW.out HSZ.out (by have:=hBj.out;rwa [HFE.out] at this)⟩
       |cons x st'=>
        obtain ⟨nn,br,hs_⟩:=x
        have hnl:nn<gs.length:=hFS.out.wf _ List.mem_cons_self
        obtain ⟨B,cap,rfl,hB0,hB1,hBc⟩:=Kd.S_form hFS.out.hgs (by omega)
        obtain ⟨P,q0,rfl,hP0,hP1,hP2,hP3⟩:=hFS.out.hst
        simp only at hP2
        have hg0:wr.cell? ⟨F,0,none⟩=some (.slice (some ⟨B,0,none⟩) gs.length cap):=by have:=cell_of_row _ F 0 _ _ _ hFS.out.hc;simpa using this
        have hg1:wr.cell? ⟨F,1,none⟩=some (.pointer (some ⟨P,0,none⟩)):=by have:=cell_of_row _ F 1 _ _ _ hFS.out.hc;simpa using this
        have z1:wr.cell? ⟨P,0,none⟩=some (.int .i64 nn):=by have:=cell_of_row _ P 0 _ _ _ hP2;simpa using this
        have hi1:(0:Int)≤(nn:Int):=by omega
        have hi2:(nn:Int)<(gs.length:Int):=by omega
        obtain ⟨oki,cc,hcl,hM,hcc,hfr,hoki,hH⟩:=Kd.S_elem hFS.out.hgs ([],0,0,0) nn hi1 hi2
        rw [Int.toNat_natCast] at hM hcc hfr
        change kGr.M wr F oki (grAt gs nn) cc at hM
        have hgm:grAt gs nn∈gs:=by
         have e:grAt gs nn=gs[nn]:=by simp [grAt,hnl]
         rw [e];exact List.getElem_mem hnl
        have hne:=(hI.out.2 _ hgm).2
        have hgr:groupsR ks=([],30,(grAt gs nn).1.headD 0):=by unfold groupsR;rw [if_neg HBIG.out,←hgo];rfl
        generalize hg:grAt gs nn=gg at *
        obtain ⟨ls,b2,b3,b4⟩:=gg
        obtain ⟨_,_,rfl,⟨vl,rfl,hR⟩,⟨_,_,rfl,rfl,⟨_,_,rfl,rfl,rfl⟩⟩⟩:=hM
        simp only at hR hne hgr
        obtain ⟨l0,lt,rfl⟩:∃l0 lt,ls=l0::lt:=by cases ls with|nil=>exact absurd rfl hne|cons a b=>exact ⟨a,b,rfl⟩
        obtain ⟨gl,cl,rfl,_,_,_⟩:=Kd.R_form hR (by simp)
        have hv0:wr.cell? ⟨B,nn*4,none⟩=some (.slice (some ⟨gl,0,none⟩) (lt.length+1) cl):=hcc 0 _ rfl
        obtain ⟨cx,_,hMx,hcx,_⟩:=Kd.R_elem hR 0 0 (by omega) (by simp)
        obtain rfl:=hMx
        have hx0:wr.cell? ⟨gl,0,none⟩=some (.int .i64 l0):=by have:=hcx 0 _ rfl;simpa [Kd.int,Kd.scalar] using this
        have hz:(0:Int)<((lt.length+1:Nat):Int):=by omega
        have hgr':groupsR ks=([],30,l0):=hgr
        have HGR:=z0 hgr'
        clear hgr hgr' hcx hcc hfr hoki hH hR hcl hP2 hP3 hg hgm hne hBc hgo
        go_wp2
        go_quiet (fail)
        go_wp2
        go_ret3
        rw [HGR.out]
        exact ⟨_,rfl,Kd.R_nil _ _ _ _ _,below_via HBW.out HSZ.out (by have:=hBj.out;rw [HFE.out] at this;exact pw_below_drewN this _)⟩
      |succ g2=>
       have hlt:decide ((j:Int)<(i:Int))=true:=decide_eq_true (by omega)
       have hji:j<i:=by omega
       have hjj:(0:Int)≤(j:Int):=by omega
       obtain ⟨r,hr⟩:∃r,ks[j]? =some r:=⟨_,List.getElem?_eq_getElem (by rw [HKL.out,←HN.out];exact hji)⟩
       have hgo:=hGo.out
       have hdr:ks.drop j=r::ks.drop (j+1):=by
        obtain ⟨hl',he'⟩:=List.getElem?_eq_some_iff.1 hr
        rw [List.drop_eq_getElem_cons hl',he']
       rw [hdr,grpGo] at hgo
       have hx0:=(hBj.out.cell (show g5<F by rw [HFE.out];exact World.block_lt_of_cell? W6 _ (hcell.out j r hr))).trans (hcell.out j r hr)
       have HRJ:=z0 hr
       have H69:=step_any r (j:Int) F F W6 wr v p gs st hFS.out hBj.out (by have:=hI.out.1;have:=HLE.out;omega) (fun g hg=>by have:=(hI.out.2 g hg).1;have:=HLE.out;omega)
       clear hr hdr
       cases hsf:stepF r j gs st with
       |none=>
        rw [hsf] at H69 hgo
        have hgr:groupsR ks=([],30,(j:Int)):=by unfold groupsR;rw [if_neg HBIG.out,←hgo]
        have HGR:=z0 hgr
        clear hgr hgo hsf
        go_wp2_with (first|(go_at_call 69;go_loud (refine H69.mono ?_;rintro e w9 ⟨rfl,hb9⟩;have HB9:=z0 hb9;clear hb9)))
        go_ret3
        rw [HGR.out]
        exact ⟨_,rfl,Kd.R_nil _ _ _ _ _,below_via HBW.out HSZ.out (by have:=HB9.out;rwa [HFE.out] at this)⟩
       |some r'=>
        obtain ⟨gs',st'⟩:=r'
        rw [hsf] at H69 hgo
        have HI':=z0 (hI.out.step hsf)
        have HGO:=z0 hgo
        clear hgo hsf
        go_wp2_with (first|(go_at_call 69;go_loud (refine H69.mono ?_;rintro e w9 ⟨rfl,⟨v',p',hf9⟩,hb9⟩;have HB9:=z0 hb9;have HF9:=z0 hf9;clear hb9 hf9)))
        go_roundg g2
        case measure=>omega
        case rel=>exact ⟨j+1,gs',st',v',p',by simp,⟨by omega⟩,HGO,HF9,HB9,HI'⟩
  |succ g1=>
   have hlt:decide ((i:Int)<(n:Int))=true:=decide_eq_true (by omega)
   have hin:i<n:=by omega
   have HIN:=z0 hin
   obtain ⟨x,hx⟩:∃x,ys[i]? =some x:=⟨_,List.getElem?_eq_getElem (by rw [←HN.out];exact hin)⟩
   obtain ⟨r,hr,kf,hkf⟩:=HK.out i x hx
   obtain ⟨ad,hA,hx0,hx1,hx2,hx3⟩:=tk_at HC.out i (by rw [←HN.out];exact hin) x hx
   obtain rfl:=hA
   replace hx0:=(hB.out.cell (World.block_lt_of_cell? w _ hx0)).trans hx0
   replace hx1:=(hB.out.cell (World.block_lt_of_cell? w _ hx1)).trans hx1
   replace hx2:=(hB.out.cell (World.block_lt_of_cell? w _ hx2)).trans hx2
   replace hx3:=(hB.out.cell (World.block_lt_of_cell? w _ hx3)).trans hx3
   clear hx
   obtain ⟨kd,bf,tx,a1⟩:=x
   simp only at hx0 hx1 hx2 hx3 hkf
   have HKF:=z0 hkf
   have HRK:=z0 hr
   clear hkf hr
   have hii:(0:Int)≤(i:Int):=by omega
   obtain ⟨ob,hob⟩:∃ob,ob=opensB r:=⟨_,rfl⟩
   have H68r:=fun W=>H68 W r
   rw [←hob] at H68r
   have HOB:=z0 hob
   clear hob
   have hob1:opensN (ks.take i)≤900000:=by have h1:=opensN_le (ks.take i);have h2:=HIN.out;rw [List.length_take] at h1;omega
   cases ob with
   |false=>
    go_wp2_with (first|(go_at_call 67;go_loud (refine (OCond.cond_Kind.calls kf kd bf tx a1 r _ HKF.out (HG.out.below (below_alloc hB.out _))).mono ?_;rintro e w7 ⟨rfl,hb7⟩;have HR7:=z0 (Kd.R_below (Kd.R_alloc hR.out _) hb7);have HB7:=z0 (below_step (below_alloc hB.out _) hb7);obtain ⟨cc,hcl,hM,hcc,hfr⟩:=Kd.R_elem HR7.out ⟨#[]⟩ (i:Int) hii (by omega);obtain rfl:=hM;have HCC:=z0 hcc;clear hcc hcl hfr hb7))|(refine gate_ (.store 9 (.tmp 26) (.tmp 25)) rfl ?_;go_loud (refine Kd.R_store Kd.string (w0:=w) w.heap.size rfl rfl 9 (.tmp 26) (.tmp 25) rfl 9 (i:Int) 0 _ r (.string r) [.string r] _ (fun _=>True) (fun _=>False) rfl (by simp [Kd.string,Kd.scalar]) rfl rfl (by kernel_rfl) (fun q hq=>by rw [List.mem_singleton.1 hq];rfl) HR7.out hii (by omega) rfl HCC.out (show 0+1≤1 by omega) rfl (fun _ h=>h.elim) HB7.out ?_;intro w8 ho hb hg2;rw [fill_set ks _ r i n HIN.out HRK.out] at ho;have hc8:w8.cell? ⟨g5,i,none⟩=some (.string r):=(by obtain ⟨c8,_,hM8,hcc8,_⟩:=Kd.R_elem ho ⟨#[]⟩ (i:Int) hii (by have:=HIN.out;omega);obtain rfl:=hM8;have:=hcc8 0 _ rfl;rw [fill_get ks _ r i n HRK.out] at this;simpa [Kd.string,Kd.scalar] using this);have HR8:=z0 ho;have HB8:=z0 hb;clear ho hb hg2))|(go_at_call 68;go_loud (refine (H68r _).mono ?_;rintro e w9 ⟨rfl,hd⟩;have HR9:=z0 (Kd.R_below HR8.out hd.below);have HB9:=z0 (below_step HB8.out hd.below);clear hd)))
    go_roundg g1
    case measure=>omega
    case rel=>exact ⟨i+1,by simp,by rw [take_snoc ks i r HRK.out,opensN_snoc,if_neg (by rw [←HOB.out];decide)];simp,⟨by omega⟩,HR9,HB9⟩
   |true=>
    go_wp2_with (first|(go_at_call 67;go_loud (refine (OCond.cond_Kind.calls kf kd bf tx a1 r _ HKF.out (HG.out.below (below_alloc hB.out _))).mono ?_;rintro e w7 ⟨rfl,hb7⟩;have HR7:=z0 (Kd.R_below (Kd.R_alloc hR.out _) hb7);have HB7:=z0 (below_step (below_alloc hB.out _) hb7);obtain ⟨cc,hcl,hM,hcc,hfr⟩:=Kd.R_elem HR7.out ⟨#[]⟩ (i:Int) hii (by omega);obtain rfl:=hM;have HCC:=z0 hcc;clear hcc hcl hfr hb7))|(refine gate_ (.store 9 (.tmp 26) (.tmp 25)) rfl ?_;go_loud (refine Kd.R_store Kd.string (w0:=w) w.heap.size rfl rfl 9 (.tmp 26) (.tmp 25) rfl 9 (i:Int) 0 _ r (.string r) [.string r] _ (fun _=>True) (fun _=>False) rfl (by simp [Kd.string,Kd.scalar]) rfl rfl (by kernel_rfl) (fun q hq=>by rw [List.mem_singleton.1 hq];rfl) HR7.out hii (by omega) rfl HCC.out (show 0+1≤1 by omega) rfl (fun _ h=>h.elim) HB7.out ?_;intro w8 ho hb hg2;rw [fill_set ks _ r i n HIN.out HRK.out] at ho;have hc8:w8.cell? ⟨g5,i,none⟩=some (.string r):=(by obtain ⟨c8,_,hM8,hcc8,_⟩:=Kd.R_elem ho ⟨#[]⟩ (i:Int) hii (by have:=HIN.out;omega);obtain rfl:=hM8;have:=hcc8 0 _ rfl;rw [fill_get ks _ r i n HRK.out] at this;simpa [Kd.string,Kd.scalar] using this);have HR8:=z0 ho;have HB8:=z0 hb;clear ho hb hg2))|(go_at_call 68;go_loud (refine (H68r _).mono ?_;rintro e w9 ⟨rfl,hd⟩;have HR9:=z0 (Kd.R_below HR8.out hd.below);have HB9:=z0 (below_step HB8.out hd.below);clear hd)))
    go_roundg g1
    case measure=>omega
    case rel=>exact ⟨i+1,by simp,by rw [take_snoc ks i r HRK.out,opensN_snoc,if_pos HOB.out.symm];simp,⟨by omega⟩,HR9,HB9⟩
end Go.Proofs.YtolaiebjmhieiaaGreatDoor.OScan
end
section
namespace Go.Proofs.YtolaiebjmhieiaaGreatDoor.OScan
def Two (gs:List Gr)(st:List Ope):Prop:=∀(j:Nat) (g:Gr),gs[j]? =some g→2≤g.1.length∨(1≤g.1.length∧∃x∈st,x.1=j)
theorem Two.line {gs:List Gr}{x x':Ope}{st:List Ope}{a:Int}{y:Int × Int × Int}(h:Two gs (x::st))(hx:x'.1=x.1∨True):∀(j:Nat) (g:Gr),(gs.set x.1 ((grAt gs x.1).1++[a],y))[j]? =some g→2≤g.1.length∨(1≤g.1.length∧∃z∈st,z.1=j):=by
 intro j g hj
 by_cases hjx:x.1=j
 · subst hjx
   rw [List.getElem?_set_self'] at hj
   cases hg:gs[x.1]? with
   |none=>rw [hg] at hj;simp at hj
   |some g0=>
    rw [hg] at hj
    simp at hj
    subst hj
    left
    have e:grAt gs x.1=g0:=by simp [grAt,List.getD_eq_getElem?_getD,hg]
    rw [e]
    have:=h x.1 g0 hg
    simp only [List.length_append,List.length_singleton]
    omega
 · rw [List.getElem?_set_ne hjx] at hj
   rcases h j g hj with h1|⟨h1,z,hz,hzj⟩
   · exact .inl h1
   · rcases List.mem_cons.1 hz with rfl|hz
     · exact absurd hzj hjx
     · exact .inr ⟨h1,z,hz,hzj⟩
theorem Two.step {k:ByteArray}{a:Int}{gs:List Gr}{st:List Ope}{r:List Gr × List Ope}(h:Two gs st)(hs:stepF k a gs st=some r):Two r.1 r.2:=by
 unfold stepF at hs
 split at hs
 · obtain rfl:=Option.some.inj hs
   intro j g hj
   show 2≤g.1.length∨(1≤g.1.length∧∃x∈(gs.length,0,false)::st,x.1=j)
   rcases Nat.lt_or_ge j gs.length with hl|hl
   · have hj':gs[j]? =some g:=by
      have:(gs++_)[j]? =some g:=hj
      rwa [List.getElem?_append_left hl] at this
     rcases h j g hj' with h1|⟨h1,z,hz,hzj⟩
     · exact .inl h1
     · exact .inr ⟨h1,z,List.mem_cons_of_mem _ hz,hzj⟩
   · have hj':(gs++_)[j]? =some g:=hj
     rw [List.getElem?_append_right hl] at hj'
     obtain ⟨h0,he⟩:=List.getElem?_eq_some_iff.1 hj'
     simp at h0
     have hjl:j=gs.length:=by omega
     subst hjl
     simp at he
     subst he
     exact .inr ⟨by simp,_,List.mem_cons_self,rfl⟩
 · split at hs
   · obtain rfl:=Option.some.inj hs
     exact h
   · split at hs
     · cases hs
     · rename_i x st'
       split at hs
       · cases hs
       · split at hs
         · obtain rfl:=Option.some.inj hs
           intro j g hj
           rcases Two.line (x':=x) h (.inr trivial) j g hj with h1|⟨h1,z,hz,hzj⟩
           · exact .inl h1
           · exact .inr ⟨h1,z,List.mem_cons_of_mem _ hz,hzj⟩
         · obtain rfl:=Option.some.inj hs
           exact fun j g hj=>Two.line (x':=x) h (.inr trivial) j g hj
theorem two_go:∀(ks:List ByteArray) (i:Nat) (gs:List Gr) (st:List Ope) (r:List Gr × List Ope),Two gs st→grpGo ks i gs st= .inl r→Two r.1 r.2
 |[],i,gs,st,r,h,hg=>by
  obtain rfl:=Sum.inl.inj hg
  exact h
 |k::ks,i,gs,st,r,h,hg=>by
  rw [grpGo] at hg
  cases hs:stepF k i gs st with
  |none=>rw [hs] at hg;cases hg
  |some r'=>
   rw [hs] at hg
   exact two_go ks (i+1) r'.1 r'.2 r (h.step hs) hg
theorem groups_two (ks:List ByteArray)(he:(groupsR ks).2.1=0):∀g∈(groupsR ks).1,2≤g.1.length:=by
 intro g hg
 unfold groupsR at hg he
 split at hg
 · cases hg
 · rename_i hn
   rw [if_neg hn] at he
   cases hgo:grpGo ks 0 [] [] with
   |inr i=>rw [hgo] at he;simp at he
   |inl r=>
    obtain ⟨gs,st⟩:=r
    rw [hgo] at hg he
    cases st with
    |cons x st=>simp at he
    |nil=>
     simp only at hg
     obtain ⟨j,hj⟩:=List.mem_iff_getElem?.1 hg
     have:=two_go ks 0 [] [] (gs,[]) (fun j g hj=>by simp at hj) hgo j g hj
     rcases this with h1|⟨_,z,hz,_⟩
     · exact h1
     · cases hz
theorem inv_go:∀(ks:List ByteArray) (i:Nat) (gs:List Gr) (st:List Ope) (r:List Gr × List Ope),GInv i gs→grpGo ks i gs st= .inl r→GInv (i+ks.length) r.1
 |[],i,gs,st,r,h,hg=>by
  obtain rfl:=Sum.inl.inj hg
  exact h
 |k::ks,i,gs,st,r,h,hg=>by
  rw [grpGo] at hg
  cases hs:stepF k i gs st with
  |none=>rw [hs] at hg;cases hg
  |some r'=>
   rw [hs] at hg
   have:=inv_go ks (i+1) r'.1 r'.2 r (h.step hs) hg
   rw [List.length_cons,show i+(ks.length+1)=i+1+ks.length by omega]
   exact this
theorem groups_inv (ks:List ByteArray):(groupsR ks).1.length≤ks.length∧∀g∈(groupsR ks).1,g.1.length≤ks.length:=by
 unfold groupsR
 split
 · exact ⟨Nat.zero_le _,fun g hg=>by cases hg⟩
 · cases hgo:grpGo ks 0 [] [] with
   |inr i=>exact ⟨Nat.zero_le _,fun g hg=>by cases hg⟩
   |inl r=>
    obtain ⟨gs,st⟩:=r
    cases st with
    |cons x st=>exact ⟨Nat.zero_le _,fun g hg=>by cases hg⟩
    |nil=>
     have:=inv_go ks 0 [] [] (gs,[]) ⟨Nat.le_refl _,fun g hg=>by cases hg⟩ hgo
     rw [Nat.zero_add] at this
     exact ⟨this.1,fun g hg=>(this.2 g hg).1⟩
end Go.Proofs.YtolaiebjmhieiaaGreatDoor.OScan
end
section
namespace Go.Proofs.YtolaiebjmhieiaaGreatDoor.OScan
open Go.RowKit YtolaiebjmhieiaaGreatDoorW.PrintWords YtolaiebjmhieiaaGreatDoorW.PrintLast YtolaiebjmhieiaaGreatDoorW.PrintMore
theorem r_opens (a:ByteArray):ORef.smockingref03_opens.f a=some (opensB a):=by
 unfold ORef.smockingref03_opens.f opensB
 by_cases h1:a.toList=([105,102]:List UInt8)
 · simp [h1]
 · by_cases h2:a.toList=([105,102,100,101,102]:List UInt8)
   · simp [h2]
   · rw [if_neg h1,if_neg h2,beq_eq_false_iff_ne.2 h1,beq_eq_false_iff_ne.2 h2];rfl
def stO (st:List Ope):List Int:=st.reverse.map fun x=>(x.1:Int)
def stE (st:List Ope):List Bool:=st.reverse.map fun x=>x.2.2
theorem stO_len (st:List Ope):(stO st).length=st.length:=by simp [stO]
theorem stE_len (st:List Ope):(stE st).length=st.length:=by simp [stE]
theorem stO_last {w:World}{base:Nat}{ok:Nat→Prop}{v:Value}{x:Ope}{st:List Ope}(h:Kd.R (Kd.int .i64) 3 w base ok v (stO (x::st))):
 ∃g c,v= .slice (some ⟨g,0,none⟩) (st.length+1) c∧w.cell? ⟨g,st.length,none⟩=some (.int .i64 x.1)∧g<w.heap.size∧base≤g:=by
 have hl:(stO (x::st)).length=st.length+1:=by simp [stO]
 obtain ⟨g,c,rfl,h1,h2,_⟩:=Kd.R_form h (by omega)
 obtain ⟨cx,_,hMx,hcx,_⟩:=Kd.R_elem h 0 (st.length:Int) (by omega) (by omega)
 obtain rfl:=hMx
 refine ⟨g,c,by rw [hl],?_,h2,h1⟩
 have:=hcx 0 _ rfl
 simpa [Kd.int,Kd.scalar,stO] using this
theorem stE_last {w:World}{base:Nat}{ok:Nat→Prop}{v:Value}{x:Ope}{st:List Ope}(h:Kd.R Kd.bool 4 w base ok v (stE (x::st))):
 ∃g c,v= .slice (some ⟨g,0,none⟩) (st.length+1) c∧w.cell? ⟨g,st.length,none⟩=some (.bool x.2.2)∧g<w.heap.size∧base≤g:=by
 have hl:(stE (x::st)).length=st.length+1:=by simp [stE]
 obtain ⟨g,c,rfl,h1,h2,_⟩:=Kd.R_form h (by omega)
 obtain ⟨cx,_,hMx,hcx,_⟩:=Kd.R_elem h false (st.length:Int) (by omega) (by omega)
 obtain rfl:=hMx
 refine ⟨g,c,by rw [hl],?_,h2,h1⟩
 have:=hcx 0 _ rfl
 simpa [Kd.bool,Kd.scalar,stE] using this
theorem grAt_lines {og gs:List Gr}(h:og.map (·.1)=gs.map (·.1)){n:Nat}(hn:n<og.length):(grAt og n).1=(grAt gs n).1:=by
 have hl:og.length=gs.length:=by have:=congrArg List.length h;simpa using this
 have h1:(og.map (·.1))[n]? =(gs.map (·.1))[n]? :=by rw [h]
 rw [List.getElem?_map,List.getElem?_map,List.getElem?_eq_getElem hn,List.getElem?_eq_getElem (hl▸hn)] at h1
 simp only [Option.map_some,Option.some.injEq] at h1
 simp only [grAt,List.getD_eq_getElem?_getD,List.getElem?_eq_getElem hn,List.getElem?_eq_getElem (hl▸hn),Option.getD_some]
 exact h1
structure GQ (base:Nat)(w:World)(v7 v8 v9:Value)(og gs:List Gr)(st:List Ope):Prop where
 lines:og.map (·.1)=gs.map (·.1)
 g:Kd.S kGr 146 w base (fun k=>True∧some k≠v8.ownBlock) v7 og
 o:Kd.R (Kd.int .i64) 3 w base (fun _=>True) v8 (stO st)
 e:Kd.R Kd.bool 4 w base (fun _=>True) v9 (stE st)
 wf:∀x∈st,x.1<gs.length
 cnt:st.length≤gs.length
theorem GQ.len {base:Nat}{w:World}{v7 v8 v9:Value}{og gs:List Gr}{st:List Ope}(h:GQ base w v7 v8 v9 og gs st):og.length=gs.length:=by
 have:=congrArg List.length h.lines;simpa using this
theorem GQ.below {base:Nat}{w w1:World}{v7 v8 v9:Value}{og gs:List Gr}{st:List Ope}(h:GQ base w v7 v8 v9 og gs st)(hb:Below w.heap.size w w1):GQ base w1 v7 v8 v9 og gs st:=
 ⟨h.lines,Kd.S_below h.g hb,Kd.R_below h.o hb,Kd.R_below h.e hb,h.wf,h.cnt⟩
theorem GQ.nil (base:Nat)(w:World):GQ base w (.slice none 0 0) (.slice none 0 0) (.slice none 0 0) [] [] []:=
 ⟨rfl,Kd.S_nil _ _ _ _ _,Kd.R_nil _ _ _ _ _,Kd.R_nil _ _ _ _ _,fun x hx=>(by cases hx),Nat.le_refl _⟩
theorem GQ.lend {base B n cap j:Nat}{w:World}{v8 v9:Value}{og gs:List Gr}{nn:Nat}{br:Int}{hs:Bool}{st':List Ope}(h:GQ base w (.slice (some ⟨B,0,none⟩) n cap) v8 v9 og gs ((nn,br,hs)::st'))(hI:GInv j gs):
 ∃(oki:Nat→Prop) (ls:List Int) (b2 b3 b4:Int) (Al:Option Addr) (cl:Nat),Aside0 (grAt og nn=(ls,b2,b3,b4)∧ls.length≤j)∧w.cell? ⟨B,nn*4,none⟩=some (.slice Al ls.length cl)∧Aside0 (Kd.R (Kd.int .i64) 3 w base oki (.slice Al ls.length cl) ls)∧
  Aside0 (Kd.H kGr 146 w base (fun k=>True∧some k≠v8.ownBlock) (.slice (some ⟨B,0,none⟩) n cap) og nn oki [.slice Al ls.length cl,.int .i64 b2,.int .i64 b3,.int .i64 b4])∧
  Aside0 ((∀k,w.heap.size≤k→oki k)∧∀k,oki k→some k≠v8.ownBlock∧k≠B):=by
 have hn:=(Kd.S_reads' h.g).1
 have hnl:nn<og.length:=by rw [h.len];exact h.wf _ List.mem_cons_self
 obtain ⟨oki,cc,hcl,hM,hcc,hfr,hoki,hH⟩:=Kd.S_elem h.g ([],0,0,0) nn (by omega) (by omega)
 rw [Int.toNat_natCast] at hM hcc hfr
 change kGr.M w base oki (grAt og nn) cc at hM
 have hfst:=grAt_lines h.lines hnl
 have hgm:grAt gs nn∈gs:=by
  have e:grAt gs nn=gs[nn]'(by rw [←h.len];exact hnl):=by simp [grAt,show nn<gs.length by rw [←h.len];exact hnl]
  rw [e];exact List.getElem_mem _
 have hll:=(hI.2 _ hgm).1
 rw [←hfst] at hll
 generalize hg:grAt og nn=gg at *
 obtain ⟨ls,b2,b3,b4⟩:=gg
 obtain ⟨_,_,rfl,⟨vl,rfl,hR⟩,⟨_,_,rfl,rfl,⟨_,_,rfl,rfl,rfl⟩⟩⟩:=hM
 simp only at hR hll
 obtain ⟨Al,cl,rfl⟩:=Kd.R_slice hR
 have h8:∀k,v8.ownBlock=some k→k<w.heap.size:=Kd.R_lt h.o
 have hB:B<w.heap.size:=Kd.S_lt h.g B rfl
 refine ⟨fun k=>oki k∨(True∧some k≠v8.ownBlock)∧w.heap.size≤k,ls,b2,b3,b4,Al,cl,⟨rfl,hll⟩,hcc 0 _ rfl,⟨Kd.R_mono hR (fun k hk=> .inl hk)⟩,⟨Kd.H_widen hH⟩,⟨fun k hk=> .inr ⟨⟨trivial,fun e=>by have:=h8 k e.symm;omega⟩,hk⟩,fun k hk=> ?_⟩⟩
 rcases hk with hk|⟨hk,hk2⟩
 · exact ⟨(hoki k hk).1.2,(hoki k hk).2⟩
 · exact ⟨hk.2,by omega⟩
theorem set_fst {og gs:List Gr}(h:og.map (·.1)=gs.map (·.1))(n:Nat)(a b:Gr)(hab:a.1=b.1):(og.set n a).map (·.1)=(gs.set n b).map (·.1):=by
 rw [List.map_set,List.map_set,h,hab]
theorem GQ.lined {base B n cap:Nat}{w9 w10 w11:World}{v8 v9 u:Value}{og gs:List Gr}{nn:Nat}{br:Int}{hs:Bool}{st':List Ope}{oki:Nat→Prop}{ls:List Int}{b2 b3 b4 a:Int}{y:Int × Int × Int}(h:GQ base w9 (.slice (some ⟨B,0,none⟩) n cap) v8 v9 og gs ((nn,br,hs)::st'))
 (hgg:grAt og nn=(ls,b2,b3,b4)) (HR:Kd.R (Kd.int .i64) 3 w9 base oki u ls) (HOK:∀k,oki k→some k≠v8.ownBlock∧k≠B) (HG10:World.grownBy w9 w10 u.ownBlock) (HG11:World.grownBy w10 w11 (some B))
 (HS:Kd.S kGr 146 w11 base (fun k=>True∧some k≠v8.ownBlock) (.slice (some ⟨B,0,none⟩) n cap) (og.set (nn:Int).toNat (ls++[a],b2,b3,b4))):
 GQ base w11 (.slice (some ⟨B,0,none⟩) n cap) v8 v9 (og.set nn (ls++[a],b2,b3,b4)) (gs.set nn ((grAt gs nn).1++[a],y)) ((nn,br,hs)::st'):=by
 have hnl:nn<og.length:=by rw [h.len];exact h.wf _ List.mem_cons_self
 have hfst:=grAt_lines h.lines hnl
 rw [hgg] at hfst
 have ne_ty:∀{W:World} {k:Nat} {c c':Array Value} {t t':TypeId},W.heap[k]? =some (.cells c t (0,0))→W.heap[k]? =some (.cells c' t' (0,0))→t=t':=fun h1 h2=>by
  rw [h1] at h2;injection h2 with h2;injection h2
 have hBt:∃cells,w9.heap[B]? =some (.cells cells 146 (0,0)):=Kd.S_typed h.g B rfl
 have h8:∀k,u.ownBlock=some k→some k≠v8.ownBlock:=fun k hk=>(HOK k (HR.1 k hk)).1
 have h9:∀k,u.ownBlock=some k→some k≠v9.ownBlock:=fun k hk e=>by
  obtain ⟨c1,e1⟩:=Kd.R_typed HR k hk
  obtain ⟨c2,e2⟩:=Kd.R_typed h.e k e.symm
  exact absurd (ne_ty e1 e2) (by decide)
 have b8:∀k,some B=some k→some k≠v8.ownBlock:=fun k hk e=>by
  injection hk with hk;subst hk
  obtain ⟨c1,e1⟩:=hBt
  obtain ⟨c2,e2⟩:=Kd.R_typed h.o B e.symm
  exact absurd (ne_ty e1 e2) (by decide)
 have b9:∀k,some B=some k→some k≠v9.ownBlock:=fun k hk e=>by
  injection hk with hk;subst hk
  obtain ⟨c1,e1⟩:=hBt
  obtain ⟨c2,e2⟩:=Kd.R_typed h.e B e.symm
  exact absurd (ne_ty e1 e2) (by decide)
 refine ⟨set_fst h.lines nn _ _ (by rw [←hfst]),?_,Kd.R_grown2 (Kd.R_grown2 h.o rfl HG10 h8) rfl HG11 b8,Kd.R_grown2 (Kd.R_grown2 h.e rfl HG10 h9) rfl HG11 b9,fun x hx=>by rw [List.length_set];exact h.wf x hx,by rw [List.length_set];exact h.cnt⟩
 rw [Int.toNat_natCast] at HS
 exact HS
theorem stO_eq (nn:Nat)(br br':Int)(hs hs':Bool)(st':List Ope):stO ((nn,br,hs)::st')=stO ((nn,br',hs')::st'):=by simp [stO]
theorem stE_eq (nn:Nat)(br br':Int)(hs:Bool)(st':List Ope):stE ((nn,br,hs)::st')=stE ((nn,br',hs)::st'):=by simp [stE]
theorem GQ.rebr {base:Nat}{w:World}{v7 v8 v9:Value}{og gs:List Gr}{nn:Nat}{br br':Int}{hs:Bool}{st':List Ope}(h:GQ base w v7 v8 v9 og gs ((nn,br,hs)::st')):GQ base w v7 v8 v9 og gs ((nn,br',hs)::st'):=
 ⟨h.lines,h.g,stO_eq nn br br' hs hs st'▸h.o,stE_eq nn br br' hs st'▸h.e,fun x hx=>by
  rcases List.mem_cons.1 hx with rfl|hx
  · exact h.wf (nn,br,hs) List.mem_cons_self
  · exact h.wf x (List.mem_cons_of_mem _ hx),h.cnt⟩
theorem GQ.elsed {base g9 c9 M:Nat}{w:World}{v7 v8:Value}{og gs:List Gr}{nn:Nat}{br br':Int}{hs:Bool}{st':List Ope}(h:GQ base w v7 v8 (.slice (some ⟨g9,0,none⟩) M c9) og gs ((nn,br,hs)::st')):
 GQ base (w.setCell ⟨g9,st'.length,none⟩ (.bool true)) v7 v8 (.slice (some ⟨g9,0,none⟩) M c9) og gs ((nn,br',true)::st'):=by
 obtain ⟨c9',hc9⟩:=Kd.R_typed h.e g9 rfl
 have he:=(Kd.R_putg h.e (st'.length:Int) true).1
 refine ⟨h.lines,Kd.S_set h.g hc9 (by decide) _ _,stO_eq nn br br' hs true st'▸Kd.R_set h.o hc9 (by decide) _ _,?_,fun x hx=> ?_,h.cnt⟩
 · have e:(stE ((nn,br,hs)::st')).set (st'.length:Int).toNat true=stE ((nn,br',true)::st'):=by
    simp [stE]
   rw [←e];exact he
 · rcases List.mem_cons.1 hx with rfl|hx
   · exact h.wf (nn,br,hs) List.mem_cons_self
   · exact h.wf x (List.mem_cons_of_mem _ hx)
theorem GQ.branches {base B n cap:Nat}{w:World}{v8 v9:Value}{og gs:List Gr}{st:List Ope}(h:GQ base w (.slice (some ⟨B,0,none⟩) n cap) v8 v9 og gs st)(nn:Nat)(hn:nn<og.length)(b:Int):
 GQ base (w.setCell ⟨B,nn*4+1,none⟩ (.int .i64 b)) (.slice (some ⟨B,0,none⟩) n cap) v8 v9 (og.set nn ((grAt og nn).1,b,(grAt og nn).2.2)) gs st:=by
 obtain ⟨cB,hB⟩:=Kd.S_typed h.g B rfl
 refine ⟨?_,?_,Kd.R_set h.o hB (by decide) _ _,Kd.R_set h.e hB (by decide) _ _,h.wf,h.cnt⟩
 · rw [←h.lines,List.map_set]
   apply List.ext_getElem?
   intro j
   rw [List.getElem?_set]
   split
   · rename_i e
     subst e
     simp [grAt,hn]
   · rfl
 · have hn2:=(Kd.S_reads' h.g).1
   obtain ⟨oki,cc,hcl,hM,hcc,hfr,hoki,hH⟩:=Kd.S_elem h.g ([],0,0,0) nn (by omega) (by omega)
   rw [Int.toNat_natCast] at hM
   change kGr.M w base oki (grAt og nn) cc at hM
   generalize hg:grAt og nn=gg at *
   obtain ⟨ls,b2,b3,b4⟩:=gg
   obtain ⟨_,_,rfl,⟨vl,rfl,hR⟩,⟨_,_,rfl,rfl,⟨_,_,rfl,rfl,rfl⟩⟩⟩:=hM
   have:=Kd.S_seg (okg:=fun _=>False) (seg:=[.int .i64 b]) (j:=1) (x':=(ls,b,b3,b4)) (okp:=oki) (Kd.H_mono hH (fun k hk=>⟨hk,fun h=>h⟩)) (by omega) (by omega) (show 1+1≤4 by omega) ⟨[vl],_,rfl,⟨_,rfl,hR⟩,⟨_,_,rfl,rfl,⟨_,_,rfl,rfl,rfl⟩⟩⟩ (fun k hk=> .inl hk) (fun k hk=>hk.elim)
   exact this.1
theorem GQ.popped {base g8 c8 g9 c9 M m:Nat}{w:World}{v7:Value}{og gs:List Gr}{x:Ope}{st':List Ope}(h:GQ base w v7 (.slice (some ⟨g8,0,none⟩) M c8) (.slice (some ⟨g9,0,none⟩) M c9) og gs (x::st'))(hm:m=st'.length):
 GQ base w v7 (.slice (some ⟨g8,0,none⟩) m c8) (.slice (some ⟨g9,0,none⟩) m c9) og gs st':=by
 have h8:=Kd.R_take h.o (m:=m) (by rw [stO_len,List.length_cons];omega)
 have h9:=Kd.R_take h.e (m:=m) (by rw [stE_len,List.length_cons];omega)
 refine ⟨h.lines,h.g,?_,?_,fun y hy=>h.wf y (List.mem_cons_of_mem _ hy),by have:=h.cnt;rw [List.length_cons] at this;omega⟩
 · have e:(stO (x::st')).take m=stO st':=by simp [stO,hm]
   rw [←e];exact h8
 · have e:(stE (x::st')).take m=stE st':=by simp [stE,hm]
   rw [←e];exact h9
theorem GQ.last9 {base g9 c9 M m:Nat}{w:World}{v7 v8:Value}{og gs:List Gr}{x:Ope}{st':List Ope}(h:GQ base w v7 v8 (.slice (some ⟨g9,0,none⟩) M c9) og gs (x::st'))(hm:m=st'.length):
 w.cell? ⟨g9,m,none⟩=some (.bool x.2.2)∧w.frozen? ⟨g9,m,none⟩=false:=by
 subst hm
 obtain ⟨g,c,e,h1,_,_⟩:=stE_last h.e
 simp only [Value.slice.injEq] at e
 obtain ⟨e, -, -⟩:=e
 injection e with e
 injection e with e
 subst e
 obtain ⟨c9',hc9⟩:=Kd.R_typed h.e _ rfl
 exact ⟨h1,blk_frozen hc9 _⟩
theorem GQ.at_ {base B n cap:Nat}{w:World}{v8 v9:Value}{og gs:List Gr}{nn:Nat}{x:Ope}{st':List Ope}{ls:List Int}{b2 b3 b4:Int}(h:GQ base w (.slice (some ⟨B,0,none⟩) n cap) v8 v9 og gs (x::st'))(hn:nn<og.length)(hgg:grAt og nn=(ls,b2,b3,b4)):
 ∃(A:Option Addr) (cl:Nat),w.cell? ⟨B,nn*4,none⟩=some (.slice A ls.length cl)∧w.cell? ⟨B,nn*4+1,none⟩=some (.int .i64 b2)∧w.frozen? ⟨B,nn*4+1,none⟩=false:=by
 have hn2:=(Kd.S_reads' h.g).1
 obtain ⟨oki,cc,hcl,hM,hcc,hfr,hoki,hH⟩:=Kd.S_elem h.g ([],0,0,0) nn (by omega) (by omega)
 rw [Int.toNat_natCast] at hM hcc hfr
 change kGr.M w base oki (grAt og nn) cc at hM
 rw [hgg] at hM
 obtain ⟨_,_,rfl,⟨vl,rfl,hR⟩,⟨_,_,rfl,rfl,⟨_,_,rfl,rfl,rfl⟩⟩⟩:=hM
 obtain ⟨Al,cl,e⟩:=Kd.R_slice hR
 rw [e] at hcc
 exact ⟨Al,cl,hcc 0 _ rfl,hcc 1 _ rfl,hfr 1⟩
theorem GQ.put_cells {base B n cap g9 M c9 m:Nat}{w:World}{v8:Value}{og gs:List Gr}{nn:Nat}{x:Ope}{st':List Ope}{ls:List Int}{b2 b3 b4:Int}(h:GQ base w (.slice (some ⟨B,0,none⟩) n cap) v8 (.slice (some ⟨g9,0,none⟩) M c9) og gs (x::st'))(hm:m=st'.length)(hn:nn<og.length)(hgg:grAt og nn=(ls,b2,b3,b4)):
 (∀u,(w.setCell ⟨B,nn*4+1,none⟩ u).cell? ⟨g9,m,none⟩=some (.bool x.2.2))∧(∀u,(w.setCell ⟨B,nn*4+1,none⟩ u).cell? ⟨B,nn*4+1,none⟩=some u)∧(∀u,(w.setCell ⟨B,nn*4+1,none⟩ u).frozen? ⟨B,nn*4+1,none⟩=false):=by
 obtain ⟨cB,hB⟩:=Kd.S_typed h.g B rfl
 obtain ⟨c9',hc9⟩:=Kd.R_typed h.e g9 rfl
 have hne:g9≠B:=blk_ne hc9 hB (by decide)
 obtain ⟨A,cl,h0,h1,h2⟩:=h.at_ hn hgg
 have h9:=(h.last9 hm).1
 have hsz:nn*4+1<cB.size:=by
  have:=h1
  rw [blk_cell hB] at this
  exact (Array.getElem?_eq_some_iff.1 this).1
 refine ⟨fun u=> ?_,fun u=> ?_,fun u=> ?_⟩
 · rw [blk_cell hc9] at h9
   rw [blk_cell (blk_far hc9 (p:=⟨B,nn*4+1,none⟩) hne u)]
   exact h9
 · rw [blk_cell (blk_set hB _ _)]
   simp [hsz]
 · exact blk_frozen (blk_set hB _ _) _
theorem info3e:∃i,Tryz.prog.info? 3=some i:=Option.isSome_iff_exists.1 (by kernel_rfl)
theorem info4e:∃i,Tryz.prog.info? 4=some i:=Option.isSome_iff_exists.1 (by kernel_rfl)
theorem slice_to_int (A:Option Addr)(n c m:Nat)(hm:m≤n)(hc:n≤c):∀W:World,(Instr.slice 120 (.slice A n c) none (some (.int .i64 (m:Int))) none).run Tryz.prog W= .ok (.slice A m c) W:=by
 obtain ⟨i,hi⟩:=info3e
 exact cut_to 120 3 .i64 Tryz.underlying120 hi A n c (m:Int) (by omega) (by omega) hc
theorem slice_to_bool (A:Option Addr)(n c m:Nat)(hm:m≤n)(hc:n≤c):∀W:World,(Instr.slice 61 (.slice A n c) none (some (.int .i64 (m:Int))) none).run Tryz.prog W= .ok (.slice A m c) W:=by
 obtain ⟨i,hi⟩:=info4e
 exact cut_to 61 4 .i64 Tryz.underlying61 hi A n c (m:Int) (by omega) (by omega) hc
structure GB (base:Nat)(w:World)(v7 v8 v9:Value)(og:List Gr)(O:List Int)(E:List Bool)(L G:Nat)(a p b:Int):Prop where
 g:Kd.S kGr 146 w base (fun k=>(k≠L∧k≠G)∧some k≠v8.ownBlock) v7 og
 o:Kd.R (Kd.int .i64) 3 w base (fun _=>True) v8 O
 e:Kd.R Kd.bool 4 w base (fun _=>True) v9 E
 hL:w.heap[L]? =some (.cells #[.int .i64 a] 3 (0,0))
 hG:w.heap[G]? =some (.cells #[.slice (some ⟨L,0,none⟩) 1 1,.int .i64 2,.int .i64 p,.int .i64 b] 146 (0,0))
 nL:some L≠v8.ownBlock
 nG:some G≠v7.ownBlock
 bL:base≤L
theorem blk_ty {W:World}{k:Nat}{c c':Array Value}{t t':TypeId}(h1:W.heap[k]? =some (.cells c t (0,0)))(h2:W.heap[k]? =some (.cells c' t' (0,0)))(hne:t≠t'):False:=by
 rw [h1] at h2;injection h2 with h2;injection h2 with _ h2;exact hne h2
theorem GB.made {base:Nat}{w9:World}{v7 v8 v9:Value}{og gs:List Gr}{st:List Ope}(h:GQ base w9 v7 v8 v9 og gs st)(a:Int)(hb:base≤w9.heap.size):
 GB base ((w9.alloc (Obj.cells #[Value.int IntKind.i64 a] 3)).alloc (Obj.cells #[Value.slice (some {block:=w9.heap.size,off:=0}) 1 1,Value.int IntKind.i64 2,Value.int IntKind.i64 (-1),Value.int IntKind.i64 0] 146)) v7 v8 v9 og (stO st) (stE st) w9.heap.size (w9.heap.size+1) a (-1) 0:=by
 have hB:Below w9.heap.size w9 ((w9.alloc (Obj.cells #[Value.int IntKind.i64 a] 3)).alloc (Obj.cells #[Value.slice (some {block:=w9.heap.size,off:=0}) 1 1,Value.int IntKind.i64 2,Value.int IntKind.i64 (-1),Value.int IntKind.i64 0] 146)):=below_alloc (below_alloc (Below.refl _ _) _) _
 have h8:=Kd.R_lt h.o
 have h7:=Kd.S_lt h.g
 refine ⟨Kd.S_below (Kd.S_mono (Kd.S_bound h.g) (fun k hk=>⟨by have:=hk.2.2.1;omega,hk.1.2⟩)) hB,Kd.R_below h.o hB,Kd.R_below h.e hB,?_,?_,fun e=>by have:=h8 _ e.symm;omega,fun e=>by have:=h7 _ e.symm;omega,hb⟩
 · exact blk_alloc (blk_new _ _) _
 · have:=blk_new (w9.alloc (Obj.cells #[Value.int IntKind.i64 a] 3)) (Obj.cells #[Value.slice (some {block:=w9.heap.size,off:=0}) 1 1,Value.int IntKind.i64 2,Value.int IntKind.i64 (-1),Value.int IntKind.i64 0] 146)
   rwa [alloc_size] at this
theorem GB.told {base:Nat}{w:World}{v7 v8 v9:Value}{og:List Gr}{O:List Int}{E:List Bool}{L G:Nat}{a p b:Int}(h:GB base w v7 v8 v9 og O E L G a p b)(p' b':Int):
 GB base ((w.setCell ⟨G,2,none⟩ (.int .i64 p')).setCell ⟨G,3,none⟩ (.int .i64 b')) v7 v8 v9 og O E L G a p' b':=by
 have hne:L≠G:=fun e=>by have:=h.hL;rw [e] at this;exact blk_ty this h.hG (by decide)
 have hG2:=blk_put h.hG 2 (.int .i64 p') rfl
 refine ⟨Kd.S_step (Kd.S_step h.g (fun k hk _=>Below.heap_setCell w ⟨G,2,none⟩ _ k hk.1.2)) (fun k hk _=>Below.heap_setCell _ ⟨G,3,none⟩ _ k hk.1.2),Kd.R_set (Kd.R_set h.o h.hG (by decide) 2 _) hG2 (by decide) 3 _,Kd.R_set (Kd.R_set h.e h.hG (by decide) 2 _) hG2 (by decide) 3 _,blk_far (blk_far h.hL hne _) hne _,blk_put hG2 3 _ rfl,h.nL,h.nG,h.bL⟩
theorem GB.opened {base:Nat}{W w1:World}{v7 v8 v9 v1:Value}{og:List Gr}{O:List Int}{E:List Bool}{L G:Nat}{a p b x:Int}(h:GB base W v7 v8 v9 og O E L G a p b)(ho:Kd.R (Kd.int .i64) 3 w1 base (fun _=>True) v1 (O++[x]))
 (hg:W.grownBy w1 v8.ownBlock) (hat:v1.ownBlock=v8.ownBlock∨∃b,v1.ownBlock=some b∧W.heap.size≤b):GB base w1 v7 v1 v9 og (O++[x]) E L G a p b:=by
 refine ⟨Kd.S_after h.g hg hat,ho,Kd.R_grown2 h.e rfl hg (fun k hk e=> ?_),blk_grown h.hL hg h.nL,blk_grown h.hG hg (fun e=> ?_),?_,h.nG,h.bL⟩
 · obtain ⟨c1,e1⟩:=Kd.R_typed h.o k hk
   obtain ⟨c2,e2⟩:=Kd.R_typed h.e k e.symm
   exact blk_ty e1 e2 (by decide)
 · obtain ⟨c1,e1⟩:=Kd.R_typed h.o G e.symm
   exact blk_ty e1 h.hG (by decide)
 · rcases hat with e|⟨b',e,hb'⟩
   · rw [e];exact h.nL
   · rw [e]
     intro e'
     injection e' with e'
     have:=blk_lt h.hL
     omega
theorem GB.elsed {base:Nat}{W w1:World}{v7 v8 v9 v1:Value}{og:List Gr}{O:List Int}{E:List Bool}{L G:Nat}{a p b:Int}{x:Bool}(h:GB base W v7 v8 v9 og O E L G a p b)(he:Kd.R Kd.bool 4 w1 base (fun _=>True) v1 (E++[x]))
 (hg:W.grownBy w1 v9.ownBlock):GB base w1 v7 v8 v1 og O (E++[x]) L G a p b:=by
 refine ⟨Kd.S_over' h.g (fun k hk=>Kd.R_typed h.e k hk) (by decide) hg,Kd.R_grown2 h.o rfl hg (fun k hk e=> ?_),he,blk_grown h.hL hg (fun e=> ?_),blk_grown h.hG hg (fun e=> ?_),h.nL,h.nG,h.bL⟩
 · obtain ⟨c1,e1⟩:=Kd.R_typed h.e k hk
   obtain ⟨c2,e2⟩:=Kd.R_typed h.o k e.symm
   exact blk_ty e1 e2 (by decide)
 · obtain ⟨c1,e1⟩:=Kd.R_typed h.e L e.symm
   exact blk_ty e1 h.hL (by decide)
 · obtain ⟨c1,e1⟩:=Kd.R_typed h.e G e.symm
   exact blk_ty e1 h.hG (by decide)
theorem GB.M {base:Nat}{W:World}{v7 v8 v9:Value}{og:List Gr}{O:List Int}{E:List Bool}{L G:Nat}{a p b:Int}(h:GB base W v7 v8 v9 og O E L G a p b):
 kGr.M W base (fun k=>k=L) ([a],2,p,b) [.slice (some ⟨L,0,none⟩) 1 1,.int .i64 2,.int .i64 p,.int .i64 b]:=
 ⟨[.slice (some ⟨L,0,none⟩) 1 1],_,rfl,⟨_,rfl,line_own h.hL h.bL⟩,⟨[.int .i64 2],_,rfl,rfl,⟨[.int .i64 p],_,rfl,rfl,rfl⟩⟩⟩
theorem GB.okp {base:Nat}{W:World}{v7 v8 v9:Value}{og:List Gr}{O:List Int}{E:List Bool}{L G:Nat}{a p b:Int}(h:GB base W v7 v8 v9 og O E L G a p b):∀k,k=L→(True∧some k≠v8.ownBlock)∧some k≠v7.ownBlock:=by
 rintro k rfl
 refine ⟨⟨trivial,h.nL⟩,fun e=> ?_⟩
 obtain ⟨c1,e1⟩:=Kd.S_typed h.g k e.symm
 exact blk_ty e1 h.hL (by decide)
theorem GB.fresh {base:Nat}{W:World}{v7 v8 v9:Value}{og:List Gr}{O:List Int}{E:List Bool}{L G:Nat}{a p b:Int}(h:GB base W v7 v8 v9 og O E L G a p b):∀k,W.heap.size≤k→True∧some k≠v8.ownBlock:=
 fun k hk=>⟨trivial,fun e=>by have:=Kd.R_lt h.o k e.symm;omega⟩
theorem GB.lent {base:Nat}{W:World}{v7 v8 v9:Value}{og:List Gr}{O:List Int}{E:List Bool}{L G:Nat}{a p b:Int}(h:GB base W v7 v8 v9 og O E L G a p b):Kd.S kGr 146 W base (fun k=>(True∧some k≠v8.ownBlock)∧¬k=L) v7 og:=
 Kd.S_mono h.g (fun k hk=>⟨⟨trivial,hk.2⟩,hk.1.1⟩)
theorem GB.done {base:Nat}{W w1:World}{v7 v8 v9 v1:Value}{og gs:List Gr}{st:List Ope}{L G:Nat}{a p b:Int}{y:Int × Int × Int}{br:Int}(h:GB base W v7 v8 v9 og (stO st++[(gs.length:Int)]) (stE st++[false]) L G a p b)
 (hl:og.map (·.1)=gs.map (·.1)) (hwf:∀x∈st,x.1<gs.length) (hc:st.length≤gs.length) (hs:Kd.S kGr 146 w1 base (fun k=>True∧some k≠v8.ownBlock) v1 (og++[([a],2,p,b)])) (hg:W.grownBy w1 v7.ownBlock):
 GQ base w1 v1 v8 v9 (og++[([a],2,p,b)]) (gs++[([a],y)]) ((gs.length,br,false)::st):=by
 refine ⟨by rw [List.map_append,List.map_append,hl];rfl,hs,?_,?_,fun x hx=> ?_,by rw [List.length_append,List.length_cons,List.length_singleton];omega⟩
 · have e:stO ((gs.length,br,false)::st)=stO st++[(gs.length:Int)]:=by simp [stO]
   rw [e]
   refine Kd.R_grown2 h.o rfl hg (fun k hk e=> ?_)
   obtain ⟨c1,e1⟩:=Kd.S_typed h.g k hk
   obtain ⟨c2,e2⟩:=Kd.R_typed h.o k e.symm
   exact blk_ty e1 e2 (by decide)
 · have e:stE ((gs.length,br,false)::st)=stE st++[false]:=by simp [stE]
   rw [e]
   refine Kd.R_grown2 h.e rfl hg (fun k hk e=> ?_)
   obtain ⟨c1,e1⟩:=Kd.S_typed h.g k hk
   obtain ⟨c2,e2⟩:=Kd.R_typed h.e k e.symm
   exact blk_ty e1 e2 (by decide)
 · rw [List.length_append,List.length_singleton]
   rcases List.mem_cons.1 hx with rfl|hx
   · show gs.length<_;omega
   · have:=hwf x hx;omega
theorem GB.reads {base B n cap g8 M c8 m:Nat}{w:World}{v9:Value}{og:List Gr}{nn:Nat}{br:Int}{hs:Bool}{st':List Ope}{E:List Bool}{L G:Nat}{a p b:Int}(h:GB base w (.slice (some ⟨B,0,none⟩) n cap) (.slice (some ⟨g8,0,none⟩) M c8) v9 og (stO ((nn,br,hs)::st')) E L G a p b)(hm:m=st'.length)(hn:nn<og.length):
 ∃(Al:Option Addr) (cl:Nat),w.cell? ⟨g8,m,none⟩=some (.int .i64 nn)∧w.cell? ⟨G,2,none⟩=some (.int .i64 p)∧w.frozen? ⟨G,2,none⟩=false∧
  (∀u,(w.setCell ⟨G,2,none⟩ u).cell? ⟨g8,m,none⟩=some (.int .i64 nn))∧(∀u,(w.setCell ⟨G,2,none⟩ u).cell? ⟨B,nn*4,none⟩=some (.slice Al (grAt og nn).1.length cl))∧
  (∀u,(w.setCell ⟨G,2,none⟩ u).cell? ⟨G,3,none⟩=some (.int .i64 b))∧(∀u,(w.setCell ⟨G,2,none⟩ u).frozen? ⟨G,3,none⟩=false):=by
 subst hm
 obtain ⟨g,c,e,h1,_,_⟩:=stO_last h.o
 simp only [Value.slice.injEq] at e
 obtain ⟨e, -, -⟩:=e
 injection e with e
 injection e with e
 subst e
 obtain ⟨c8',hc8⟩:=Kd.R_typed h.o _ rfl
 obtain ⟨cB,hB⟩:=Kd.S_typed h.g B rfl
 have n8:g8≠G:=blk_ne hc8 h.hG (by decide)
 have nB:B≠G:=fun e=>h.nG (by rw [←e];rfl)
 have hn2:=(Kd.S_reads' h.g).1
 obtain ⟨oki,cc,hcl,hM,hcc,hfr,hoki,hH⟩:=Kd.S_elem h.g ([],0,0,0) nn (by omega) (by omega)
 rw [Int.toNat_natCast] at hM hcc hfr
 change kGr.M w base oki (grAt og nn) cc at hM
 generalize hg:grAt og nn=gg at *
 obtain ⟨ls,b2,b3,b4⟩:=gg
 obtain ⟨_,_,rfl,⟨vl,rfl,hR⟩,⟨_,_,rfl,rfl,⟨_,_,rfl,rfl,rfl⟩⟩⟩:=hM
 simp only at hR
 obtain ⟨Al,cl,rfl⟩:=Kd.R_slice hR
 have hv0:w.cell? ⟨B,nn*4,none⟩=some (.slice Al ls.length cl):=hcc 0 _ rfl
 refine ⟨Al,cl,h1,blk_cell h.hG 2,blk_frozen h.hG 2,fun u=> ?_,fun u=> ?_,fun u=> ?_,fun u=>blk_frozen (blk_set h.hG _ _) _⟩
 · rw [blk_cell hc8] at h1
   rw [blk_cell (blk_far hc8 (p:=⟨G,2,none⟩) n8 u)]
   exact h1
 · rw [blk_cell hB] at hv0
   rw [blk_cell (blk_far hB (p:=⟨G,2,none⟩) nB u)]
   exact hv0
 · rw [blk_cell (blk_set h.hG _ _)]
   rfl
theorem setsz2 (w:World)(a b:Addr)(u v:Value):((w.setCell a u).setCell b v).heap.size=w.heap.size:=by simp
theorem r_kind (r:ByteArray)(hk:r.toList=elifL∨r.toList=elseL∨r.toList=endifL):∃bi bs be:Bool,KindIs r bi bs be∧(bi||bs||be)=true∧((bi=true∧bs=false∧be=false)∨(bi=false∧bs=true∧be=false)∨(bi=false∧bs=false∧be=true)):=by
 rcases kindIs r hk with h|h|h
 · exact ⟨_,_,_,h,rfl,.inl ⟨rfl,rfl,rfl⟩⟩
 · exact ⟨_,_,_,h,rfl,.inr (.inl ⟨rfl,rfl,rfl⟩)⟩
 · exact ⟨_,_,_,h,rfl,.inr (.inr ⟨rfl,rfl,rfl⟩)⟩
theorem rg_len {a j i:Nat}(h:a≤j)(h1:j<i)(h2:i≤900000):(a+1)*8≤140737488355328:=by omega
theorem rGroups_any (ys:List Tk)(ks:List ByteArray)(w:World)(A:Option Addr)(c:Nat)(hC:Kd.C kTk w A ys.length ys)(hc:ys.length≤c)(hl:ys.length≤900000)(hkl:ks.length=ys.length)
 (hK:∀(i:Nat) (t:Tk),ys[i]? =some t→∃r k,ks[i]? =some r∧OKin.smockingref03_Kind.f k t.1 t.2.1 t.2.2.1 t.2.2.2=some r):
 Calls Tryz.prog 47 #[.slice A ys.length c] w fun e w'=>∃(v:Value) (x:Int) (og:List Gr),e= .returned (.tuple #[v,.int .i64 (groupsR ks).2.1,.int .i64 x])∧og.map (·.1)=(groupsR ks).1.map (·.1)∧Kd.R kGr 146 w' w.heap.size (fun _=>True) v og∧Below w.heap.size w w':=by
 have H82:=fun W k=>ORef.smockingref03_opens.calls k _ W (r_opens k)
 have HC:=z0 hC
 have HK:=z0 hK
 have HKL:=z0 hkl
 obtain ⟨n,hn⟩:∃n,n=ys.length:=⟨_,rfl⟩
 rw [←hn] at hc hl ⊢
 have HN:=z0 hn
 clear hC hK hkl hn
 go_enter Tryz.func47,Tryz.ntmps47
 go_wp2_with (fail)
 go_loopg [5,6] n (fun kq v5 v6 w'=>∃(i:Nat),v6= .int .i64 i∧v5= .int .i64 (opensN (ks.take i))∧Aside0 (kq+i=n)∧Aside0 (Below w.heap.size w w'))
 case atStart=>exact ⟨0,rfl,rfl,⟨rfl⟩,⟨Below.refl _ _⟩⟩
 case round=>
  obtain ⟨i,rfl,rfl,hki,hB⟩:=hrel
  have hki':=hki.out
  cases gk with
  |zero=>
   have hlt:decide ((i:Int)<(n:Int))=false:=decide_eq_false (by omega)
   obtain rfl:i=n:=by omega
   have ht:ks.take i=ks:=List.take_of_length_le (by rw [HKL.out,←HN.out];omega)
   rw [ht]
   clear ht
   by_cases hbig:200<opensN ks
   · have hb1:decide ((200:Int)<(opensN ks:Int))=true:=decide_eq_true (by omega)
     go_wp2
     go_ret3
     have hgr:groupsR ks=([],2,0):=by unfold groupsR;rw [if_pos hbig]
     rw [hgr]
     exact ⟨_,_,[],rfl,rfl,Kd.R_nil _ _ _ _ _,hB.out⟩
   · have hb1:decide ((200:Int)<(opensN ks:Int))=false:=decide_eq_false (by omega)
     have HBIG:=z0 hbig
     clear hbig
     have HLE:=z0 hl
     go_wp2_with (fail)
     go_loopg [7,8,9,10] i (fun kq v7 v8 v9 v10 w'=>∃(j:Nat) (og gs:List Gr) (st:List Ope),v10= .int .i64 j∧Aside0 (kq+j=i)∧Aside0 (grpGo (ks.drop j) j gs st=grpGo ks 0 [] [])∧Aside0 (GQ w.heap.size w' v7 v8 v9 og gs st)∧Aside0 (Below w.heap.size w w')∧Aside0 (GInv j gs))
     case atStart=>exact ⟨0,[],[],[],rfl,⟨rfl⟩,⟨rfl⟩,⟨GQ.nil _ _⟩,hB,⟨⟨Nat.le_refl _,fun g hg=>by cases hg⟩⟩⟩
     case round=>
      obtain ⟨j,og,gs,st,rfl,hkj,hGo,hGQ,hBj,hI⟩:=hrel
      have hkj':=hkj.out
      cases gk with
      |zero=>
       obtain rfl:j=i:=by omega
       have hlt:decide ((j:Int)<(j:Int))=false:=decide_eq_false (by omega)
       have hgo:=hGo.out
       rw [List.drop_eq_nil_of_le (by rw [HKL.out,←HN.out];omega)] at hgo
       cases st with
       |nil=>
        obtain ⟨A8,c8,e8⟩:=Kd.R_slice hGQ.out.o
        subst e8
        go_wp2_with (fail)
        go_ret3
        have hgr:groupsR ks=(gs,0,0):=by unfold groupsR;rw [if_neg HBIG.out,←hgo];rfl
        rw [hgr]
        exact ⟨_,_,og,rfl,hGQ.out.lines,Kd.S_R (Kd.S_mono hGQ.out.g (fun _ _=>trivial)),hBj.out⟩
       |cons x st'=>
        obtain ⟨nn,br,hs_⟩:=x
        have hQ:=hGQ.out
        have hnl:nn<og.length:=by rw [hQ.len];exact hQ.wf _ List.mem_cons_self
        obtain ⟨B,cap,rfl,hB0,hB1,hBc⟩:=Kd.S_form hQ.g (by omega)
        obtain ⟨g8,c8,rfl,hv8,hm8,hm8'⟩:=stO_last hQ.o
        obtain ⟨oki,cc,hcl,hM,hcc,hfr,hoki,hH⟩:=Kd.S_elem hQ.g ([],0,0,0) nn (by omega) (by omega)
        rw [Int.toNat_natCast] at hM hcc hfr
        change kGr.M wr w.heap.size oki (grAt og nn) cc at hM
        have hfst:=grAt_lines hQ.lines hnl
        have hgm:grAt gs nn∈gs:=by
         have e:grAt gs nn=gs[nn]'(by rw [←hQ.len];exact hnl):=by simp [grAt,show nn<gs.length by rw [←hQ.len];exact hnl]
         rw [e];exact List.getElem_mem _
        have hne:=(hI.out.2 _ hgm).2
        have hgr:groupsR ks=([],30,(grAt gs nn).1.headD 0):=by unfold groupsR;rw [if_neg HBIG.out,←hgo];rfl
        rw [←hfst] at hne
        generalize hg:grAt og nn=gg at *
        obtain ⟨ls,b2,b3,b4⟩:=gg
        obtain ⟨_,_,rfl,⟨vl,rfl,hR⟩,⟨_,_,rfl,rfl,⟨_,_,rfl,rfl,rfl⟩⟩⟩:=hM
        simp only at hR hne
        obtain ⟨l0,lt,rfl⟩:∃l0 lt,ls=l0::lt:=by cases ls with|nil=>exact absurd rfl hne|cons a b=>exact ⟨a,b,rfl⟩
        obtain ⟨gl,cl,rfl,_,_,_⟩:=Kd.R_form hR (by simp)
        have hv0:wr.cell? ⟨B,nn*4,none⟩=some (.slice (some ⟨gl,0,none⟩) (lt.length+1) cl):=hcc 0 _ rfl
        obtain ⟨cx,_,hMx,hcx,_⟩:=Kd.R_elem hR 0 0 (by omega) (by simp)
        obtain rfl:=hMx
        have hx0:wr.cell? ⟨gl,0,none⟩=some (.int .i64 l0):=by have:=hcx 0 _ rfl;simpa [Kd.int,Kd.scalar] using this
        have hz:(0:Int)<((lt.length+1:Nat):Int):=by omega
        have hi1:(0:Int)≤(nn:Int):=by omega
        have hi2:(nn:Int)<(og.length:Int):=by omega
        obtain ⟨m,hm⟩:∃m,m=st'.length:=⟨_,rfl⟩
        rw [←hm] at hv8 ⊢
        have hmb:m≤900000:=by rw [hm];have h1:=hQ.cnt;simp only [List.length_cons] at h1;have:=HLE.out;have:=hI.out.1;omega
        obtain ⟨M,hM⟩:∃M,M=m+1:=⟨_,rfl⟩
        rw [←hM]
        have x1:IntKind.i64.wrap ((M:Int)-1)=(m:Int):=by rw [i64_w,OScan.wr (by omega) (by omega)];omega
        have x2:(m:Int)<(M:Int):=by omega
        have x3:(0:Int)≤(m:Int):=by omega
        have x4:(0:Int)<(M:Int):=by omega
        have HGR:=z0 hgr
        clear hgr hcx hcc hfr hoki hH hR hcl hg hgm hne hBc hgo hfst hQ hnl hm hM hmb
        go_wp2_with (fail)
        go_quiet (fail)
        go_wp2
        go_ret3
        rw [HGR.out]
        exact ⟨_,_,[],rfl,rfl,Kd.R_nil _ _ _ _ _,pw_below_drewN hBj.out _⟩
      |succ g2=>
       have hlt:decide ((j:Int)<(i:Int))=true:=decide_eq_true (by omega)
       have hji:j<i:=by omega
       have hjj:(0:Int)≤(j:Int):=by omega
       obtain ⟨x,hx⟩:∃x,ys[j]? =some x:=⟨_,List.getElem?_eq_getElem (by rw [←HN.out];exact hji)⟩
       obtain ⟨r,kf,hr,hkf⟩:=HK.out j x hx
       obtain ⟨ad,hA,hx0,hx1,hx2,hx3⟩:=tk_at HC.out j (by rw [←HN.out];exact hji) x hx
       obtain rfl:=hA
       replace hx0:=(hBj.out.cell (World.block_lt_of_cell? w _ hx0)).trans hx0
       replace hx1:=(hBj.out.cell (World.block_lt_of_cell? w _ hx1)).trans hx1
       replace hx2:=(hBj.out.cell (World.block_lt_of_cell? w _ hx2)).trans hx2
       replace hx3:=(hBj.out.cell (World.block_lt_of_cell? w _ hx3)).trans hx3
       clear hx
       obtain ⟨kd,bf,tx,a1⟩:=x
       simp only at hx0 hx1 hx2 hx3 hkf
       have HKF:=z0 hkf
       have hgo:=hGo.out
       have hdr:ks.drop j=r::ks.drop (j+1):=by
        obtain ⟨hl',he'⟩:=List.getElem?_eq_some_iff.1 hr
        rw [List.drop_eq_getElem_cons hl',he']
       rw [hdr,grpGo] at hgo
       clear hr hdr hkf
       obtain ⟨A7,c7,e7⟩:=Kd.S_slice hGQ.out.g
       obtain ⟨A8,c8,e8⟩:=Kd.R_slice hGQ.out.o
       obtain ⟨A9,c9,e9⟩:=Kd.R_slice hGQ.out.e
       obtain ⟨G7,hG7⟩:∃G7,G7=og.length:=⟨_,rfl⟩
       rw [←hG7] at e7
       rw [stO_len] at e8
       rw [stE_len] at e9
       subst e7 e8 e9
       have HG7:=z0 hG7
       clear hG7
       have hnlen:i≤900000:=HLE.out
       by_cases hop:opensB r=true
       · have H82r:=fun W=>H82 W r
         rw [hop] at H82r
         have hsf:stepF r j gs st=some (beginF j gs st):=by unfold stepF;rw [if_pos hop]
         rw [hsf] at hgo
         have HGO:=z0 hgo
         have HI':=z0 (hI.out.step hsf)
         clear hgo hsf hop
         cases st with
         |nil=>
          have HLN:Aside0 ((stO []++[(G7:Int)]).length=0+1∧(stE []++[false]).length=0+1∧((stO []).length+1)*8≤140737488355328∧((stE []).length+1)*1≤140737488355328∧(og.length+1)*48≤140737488355328):=⟨by
           have h1:=hGQ.out.cnt
           have h2:=hI.out.1
           have h3:=hGQ.out.len
           rw [List.length_append,List.length_append,stO_len,stE_len,List.length_singleton,List.length_singleton]
           refine ⟨rfl,rfl,?_,?_,?_⟩<;>omega⟩
          go_wp2_with (first|(go_at_call 83;go_loud (refine (OKin.smockingref03_Kind.calls kf kd bf tx a1 r _ HKF.out).mono ?_;rintro e w7 ⟨rfl,hb7⟩;have HB7:=z0 (below_step hBj.out hb7);have HQ7:=z0 (hGQ.out.below hb7);clear hb7))|(go_at_call 82;go_loud (refine (H82r _).mono ?_;rintro e w9 ⟨rfl,hd⟩;have HB9:=z0 (below_step HB7.out hd.below);have HQ9:=z0 (HQ7.out.below hd.below);clear hd))|(refine gate_ (.binOp .geq 3 (.tmp 51) (.const (.int .i64 0)) 3) rfl ?_;go_loud (obtain ⟨w10,hw10⟩:∃w10,w10=((w9.alloc (Obj.cells #[Value.int IntKind.i64 (j:Int)] 3)).alloc (Obj.cells #[Value.slice (some {block:=w9.heap.size,off:=0}) 1 1,Value.int IntKind.i64 2,Value.int IntKind.i64 (-1),Value.int IntKind.i64 0] 146)):=⟨_,rfl⟩;rw [←hw10];obtain ⟨L,hL⟩:∃L,L=w9.heap.size:=⟨_,rfl⟩;obtain ⟨G,hG⟩:∃G,G=w9.heap.size+1:=⟨_,rfl⟩;rw [←hG];have HGB:=GB.made HQ9.out (j:Int) (below_size HB9.out);rw [←hw10,←hG,←hL] at HGB;have HB10:Aside0 (Below w.heap.size w w10):=⟨by rw [hw10];exact below_alloc (below_alloc HB9.out _) _⟩;replace HGB:=z0 HGB;clear hw10 hL hG))|(at_builtin;go_loud (refine Kd.R_append (Kd.int .i64) (w0:=w) w.heap.size rfl (.tmp 69) (.tmp 72) 120 3 (.int .i64 0) 8 rfl Tryz.underlying120 (by kernel_rfl) rfl (by decide) (by omega) (.slice A8 0 c8) (stO []) (G7:Int) [.int .i64 (G7:Int)] (fun _=>True) (fun _=>False) rfl rfl rfl (fun _ hk=>hk.elim) (fun _ _=>trivial) HGB.out.o HB10.out (below_size HB10.out) (HLN.out.2.2.1) ?_;intro v1 w11 ho hb hg1 hat;obtain ⟨A81,c81,e81⟩:=Kd.R_slice ho;rw [HLN.out.1] at e81;subst e81;have HGB2:=z0 (HGB.out.opened ho hg1 hat);have HB11:=z0 hb;clear ho hb hg1 hat))|(at_builtin;go_loud (refine Kd.R_append Kd.bool (w0:=w) w.heap.size rfl (.tmp 74) (.tmp 75) 61 4 (.bool false) 1 rfl Tryz.underlying61 (by kernel_rfl) rfl (by decide) (by omega) (.slice A9 0 c9) (stE []) false [.bool false] (fun _=>True) (fun _=>False) rfl rfl rfl (fun _ hk=>hk.elim) (fun _ _=>trivial) HGB2.out.e HB11.out (below_size HB11.out) (HLN.out.2.2.2.1) ?_;intro v1 w12 ho hb hg1 hat;obtain ⟨A91,c91,e91⟩:=Kd.R_slice ho;rw [HLN.out.2.1] at e91;subst e91;have HGB3:=z0 (HGB2.out.elsed ho hg1);have HB12:=z0 hb;have f0:=blk_cell HGB3.out.hG 0;have f1:=blk_cell HGB3.out.hG 1;have f2:=blk_cell HGB3.out.hG 2;have f3:=blk_cell HGB3.out.hG 3;simp only [List.getElem?_toArray,List.getElem?_cons_zero,List.getElem?_cons_succ] at f0 f1 f2 f3;clear ho hb hg1 hat))|(at_builtin;go_loud (refine Kd.S_append kGr (w0:=w) w.heap.size rfl (.tmp 77) (.tmp 79) 101 146 (.agg #[(.slice none 0 0),(.int .i64 0),(.int .i64 0),(.int .i64 0)]) 48 rfl Tryz.underlying101 (by kernel_rfl) rfl (by decide) (by omega) (.slice A7 G7 c7) og ([(j:Int)],2,(-1),0) [.slice (some ⟨L,0,none⟩) 1 1,.int .i64 2,.int .i64 (-1),.int .i64 0] _ (fun k=>k=L) rfl rfl HGB3.out.M HGB3.out.okp HGB3.out.fresh HGB3.out.lent HB12.out (below_size HB12.out) (HLN.out.2.2.2.2) ?_;intro v1 w13 ho hb hg1 hat;have HG13:=z0 hg1;have HS13:=z0 ho;have HB13:=z0 hb;clear ho hb hg1 hat)))
          go_roundg g2
          case measure=>omega
          case rel=>
           refine ⟨j+1,og++[([(j:Int)],2, -1,0)],_,_,(by first|rfl|simp),⟨by omega⟩,HGO,⟨?_⟩,HB13,HI'⟩
           have h:=HGB3.out
           rw [show (G7:Int)=(gs.length:Int) from by rw [HG7.out,hGQ.out.len]] at h
           exact GB.done h hGQ.out.lines hGQ.out.wf hGQ.out.cnt HS13.out HG13.out
         |cons x st'=>
          obtain ⟨nn,br,hs_⟩:=x
          obtain ⟨B,cap,e7,hB0,hB1,hBc⟩:=Kd.S_form hGQ.out.g (by rw [hGQ.out.len];have:=hGQ.out.wf _ List.mem_cons_self;omega)
          rw [←HG7.out] at e7
          simp only [Value.slice.injEq] at e7
          obtain ⟨rfl, -,rfl⟩:=e7
          have hi1:(0:Int)≤(nn:Int):=by omega
          have hi2:(nn:Int)<(G7:Int):=by rw [HG7.out,hGQ.out.len];have:=hGQ.out.wf _ List.mem_cons_self;simp only at this;omega
          have HNO:Aside0 (nn<og.length):=⟨by rw [hGQ.out.len];have:=hGQ.out.wf _ List.mem_cons_self;simpa using this⟩
          have hll:(grAt og nn).1.length≤900000:=by
           obtain ⟨oki,ls,b2,b3,b4,Al,cl,h1,_⟩:=hGQ.out.lend hI.out
           rw [h1.out.1];show ls.length≤900000;have:=h1.out.2;have:=HLE.out;omega
          have hl1:1≤(grAt og nn).1.length:=by
           rw [grAt_lines hGQ.out.lines HNO.out]
           have hnl2:nn<gs.length:=by rw [←hGQ.out.len];exact HNO.out
           have hgm:grAt gs nn∈gs:=by
            have e:grAt gs nn=gs[nn]:=by simp [grAt,hnl2]
            rw [e];exact List.getElem_mem _
           have:=(hI.out.2 _ hgm).2
           exact List.length_pos_iff.2 this
          clear hB0 hB1 hBc
          obtain ⟨m,hm⟩:∃m,m=st'.length:=⟨_,rfl⟩
          obtain ⟨M,hM⟩:∃M,M=m+1:=⟨_,rfl⟩
          have hmb:m≤900000:=by rw [hm];have h1:=hGQ.out.cnt;simp only [List.length_cons] at h1;have:=HLE.out;have:=hI.out.1;omega
          have hML:((nn,br,hs_)::st').length=M:=by rw [List.length_cons,hM,hm]
          rw [hML] at hGQ ⊢
          have x1:IntKind.i64.wrap ((M:Int)-1)=(m:Int):=by rw [i64_w,OScan.wr (by omega) (by omega)];omega
          have x2:(m:Int)<(M:Int):=by omega
          have x3:(0:Int)≤(m:Int):=by omega
          have x4:(0:Int)<(M:Int):=by omega
          obtain ⟨g8,c8',e8,hv8,hm8,hm8'⟩:=stO_last hGQ.out.o
          simp only [Value.slice.injEq] at e8
          obtain ⟨rfl, -,rfl⟩:=e8
          have HM:=z0 (And.intro hm hM)
          have HLN:Aside0 ((stO ((nn,br,hs_)::st')++[(G7:Int)]).length=M+1∧(stE ((nn,br,hs_)::st')++[false]).length=M+1∧((stO ((nn,br,hs_)::st')).length+1)*8≤140737488355328∧((stE ((nn,br,hs_)::st')).length+1)*1≤140737488355328∧(og.length+1)*48≤140737488355328):=⟨by
           have h1:=hGQ.out.cnt
           have h2:=hI.out.1
           have h3:=hGQ.out.len
           rw [List.length_append,List.length_append,stO_len,stE_len,List.length_singleton,List.length_singleton,hML]
           rw [hML] at h1
           refine ⟨rfl,rfl,?_,?_,?_⟩<;>omega⟩
          clear hm hM hmb hML hv8 hm8 hm8'
          go_wp2_with (first|(go_at_call 83;go_loud (refine (OKin.smockingref03_Kind.calls kf kd bf tx a1 r _ HKF.out).mono ?_;rintro e w7 ⟨rfl,hb7⟩;have HB7:=z0 (below_step hBj.out hb7);have HQ7:=z0 (hGQ.out.below hb7);clear hb7))|(go_at_call 82;go_loud (refine (H82r _).mono ?_;rintro e w9 ⟨rfl,hd⟩;have HB9:=z0 (below_step HB7.out hd.below);have HQ9:=z0 (HQ7.out.below hd.below);clear hd))|(refine gate_ (.binOp .geq 3 (.tmp 51) (.const (.int .i64 0)) 3) rfl ?_;go_loud (obtain ⟨w10,hw10⟩:∃w10,w10=((w9.alloc (Obj.cells #[Value.int IntKind.i64 (j:Int)] 3)).alloc (Obj.cells #[Value.slice (some {block:=w9.heap.size,off:=0}) 1 1,Value.int IntKind.i64 2,Value.int IntKind.i64 (-1),Value.int IntKind.i64 0] 146)):=⟨_,rfl⟩;rw [←hw10];obtain ⟨L,hL⟩:∃L,L=w9.heap.size:=⟨_,rfl⟩;obtain ⟨G,hG⟩:∃G,G=w9.heap.size+1:=⟨_,rfl⟩;rw [←hG];have HGB:=GB.made HQ9.out (j:Int) (below_size HB9.out);rw [←hw10,←hG,←hL] at HGB;have HB10:Aside0 (Below w.heap.size w w10):=⟨by rw [hw10];exact below_alloc (below_alloc HB9.out _) _⟩;obtain ⟨Al,cl,r1,r2,r3,r4,r5,r6,r7⟩:=GB.reads HGB HM.out.1 HNO.out;have HGT:Aside0 (∀p' b':Int,_):=z0 (fun p' b'=>HGB.told p' b');have HBT:Aside0 (∀p' b':Int,Below w.heap.size w ((w10.setCell ⟨G,2,none⟩ (.int .i64 p')).setCell ⟨G,3,none⟩ (.int .i64 b'))):=⟨fun p' b'=>(HB10.out.setCell (by rw [hG];exact Nat.le_succ_of_le (below_size HB9.out)) _).setCell (by rw [hG];exact Nat.le_succ_of_le (below_size HB9.out)) _⟩;clear HGB hw10 hL hG))|(at_builtin;go_loud (refine Kd.R_append (Kd.int .i64) (w0:=w) w.heap.size rfl (.tmp 69) (.tmp 72) 120 3 (.int .i64 0) 8 rfl Tryz.underlying120 (by kernel_rfl) rfl (by decide) (by omega) (.slice (some ⟨g8,0,none⟩) M c8) (stO ((nn,br,hs_)::st')) (G7:Int) [.int .i64 (G7:Int)] (fun _=>True) (fun _=>False) rfl (by rw [setsz2];rfl) rfl (fun _ hk=>hk.elim) (fun _ _=>trivial) (HGT.out _ _).o (HBT.out _ _) (below_size (HBT.out _ _)) (HLN.out.2.2.1) ?_;intro v1 w11 ho hb hg1 hat;obtain ⟨A81,c81,e81⟩:=Kd.R_slice ho;rw [HLN.out.1] at e81;subst e81;have HGB2:=z0 ((HGT.out (nn:Int) ((grAt og nn).1.length-1)).opened ho hg1 hat);have HB11:=z0 hb;clear ho hb hg1 hat))|(at_builtin;go_loud (refine Kd.R_append Kd.bool (w0:=w) w.heap.size rfl (.tmp 74) (.tmp 75) 61 4 (.bool false) 1 rfl Tryz.underlying61 (by kernel_rfl) rfl (by decide) (by omega) (.slice A9 M c9) (stE ((nn,br,hs_)::st')) false [.bool false] (fun _=>True) (fun _=>False) rfl rfl rfl (fun _ hk=>hk.elim) (fun _ _=>trivial) HGB2.out.e HB11.out (below_size HB11.out) (HLN.out.2.2.2.1) ?_;intro v1 w12 ho hb hg1 hat;obtain ⟨A91,c91,e91⟩:=Kd.R_slice ho;rw [HLN.out.2.1] at e91;subst e91;have HGB3:=z0 (HGB2.out.elsed ho hg1);have HB12:=z0 hb;have f0:=blk_cell HGB3.out.hG 0;have f1:=blk_cell HGB3.out.hG 1;have f2:=blk_cell HGB3.out.hG 2;have f3:=blk_cell HGB3.out.hG 3;simp only [List.getElem?_toArray,List.getElem?_cons_zero,List.getElem?_cons_succ] at f0 f1 f2 f3;clear ho hb hg1 hat))|(at_builtin;go_loud (refine Kd.S_append kGr (w0:=w) w.heap.size rfl (.tmp 77) (.tmp 79) 101 146 (.agg #[(.slice none 0 0),(.int .i64 0),(.int .i64 0),(.int .i64 0)]) 48 rfl Tryz.underlying101 (by kernel_rfl) rfl (by decide) (by omega) (.slice (some ⟨B,0,none⟩) G7 c7) og ([(j:Int)],2,(nn:Int),((grAt og nn).1.length:Int)-1) [.slice (some ⟨L,0,none⟩) 1 1,.int .i64 2,.int .i64 (nn:Int),.int .i64 (((grAt og nn).1.length:Int)-1)] _ (fun k=>k=L) rfl rfl HGB3.out.M HGB3.out.okp HGB3.out.fresh HGB3.out.lent HB12.out (below_size HB12.out) (HLN.out.2.2.2.2) ?_;intro v1 w13 ho hb hg1 hat;have HG13:=z0 hg1;have HS13:=z0 ho;have HB13:=z0 hb;clear ho hb hg1 hat)))
          go_roundg g2
          case measure=>omega
          case rel=>
           refine ⟨j+1,og++[([(j:Int)],2,(nn:Int),((grAt og nn).1.length:Int)-1)],_,_,(by first|rfl|simp),⟨by omega⟩,HGO,⟨?_⟩,HB13,HI'⟩
           have h:=HGB3.out
           rw [show (G7:Int)=(gs.length:Int) from by rw [HG7.out,hGQ.out.len]] at h
           exact GB.done h hGQ.out.lines hGQ.out.wf hGQ.out.cnt HS13.out HG13.out
       · have H82r:=fun W=>H82 W r
         rw [show opensB r=false from by simpa using hop] at H82r
         by_cases hid:r.toList≠elifL∧r.toList≠elseL∧r.toList≠endifL
         · have q1:(r.toList==elifL)=false:=beq_eq_false_iff_ne.2 hid.1
           have q2:(r.toList==elseL)=false:=beq_eq_false_iff_ne.2 hid.2.1
           have q3:(r.toList==endifL)=false:=beq_eq_false_iff_ne.2 hid.2.2
           have hsf:stepF r j gs st=some (gs,st):=by unfold stepF;rw [if_neg hop,if_pos hid]
           rw [hsf] at hgo
           have HGO:=z0 hgo
           have HI':=z0 (hI.out.mono (Nat.le_succ j))
           clear hgo hsf hid hop
           go_wp2_with (first|(go_at_call 83;go_loud (refine (OKin.smockingref03_Kind.calls kf kd bf tx a1 r _ HKF.out).mono ?_;rintro e w7 ⟨rfl,hb7⟩;have HB7:=z0 (below_step hBj.out hb7);have HQ7:=z0 (hGQ.out.below hb7);clear hb7))|(go_at_call 82;go_loud (refine (H82r _).mono ?_;rintro e w9 ⟨rfl,hd⟩;have HB9:=z0 (below_step HB7.out hd.below);have HQ9:=z0 (HQ7.out.below hd.below);clear hd)))
           go_roundg g2
           case measure=>omega
           case rel=>exact ⟨j+1,og,gs,st,(by first|rfl|simp),⟨by omega⟩,HGO,HQ9,HB9,HI'⟩
         · have hk:r.toList=elifL∨r.toList=elseL∨r.toList=endifL:=by
            by_cases h1:r.toList=elifL
            · exact .inl h1
            · by_cases h2:r.toList=elseL
              · exact .inr (.inl h2)
              · by_cases h3:r.toList=endifL
                · exact .inr (.inr h3)
                · exact absurd ⟨h1,h2,h3⟩ hid
           obtain ⟨bi,bs,be,hKI,hbe⟩:=r_kind r hk
           obtain ⟨p1,p1',p2,p2',p3,p3'⟩:=hKI
           have hbb:(bi||bs||be)=true:=hbe.1
           cases st with
           |nil=>
            have hsf:stepF r j gs []=none:=by unfold stepF;rw [if_neg hop,if_neg hid]
            rw [hsf] at hgo
            have hgr:groupsR ks=([],30,(j:Int)):=by unfold groupsR;rw [if_neg HBIG.out,←hgo]
            have HGR:=z0 hgr
            clear hgr hgo hsf hid hop hk
            rcases hbe.2 with ⟨rfl,rfl,rfl⟩|⟨rfl,rfl,rfl⟩|⟨rfl,rfl,rfl⟩
            all_goals
             clear hbb hbe
             go_wp2_with (first|(go_at_call 83;go_loud (refine (OKin.smockingref03_Kind.calls kf kd bf tx a1 r _ HKF.out).mono ?_;rintro e w7 ⟨rfl,hb7⟩;have HB7:=z0 (below_step hBj.out hb7);have HQ7:=z0 (hGQ.out.below hb7);clear hb7))|(go_at_call 82;go_loud (refine (H82r _).mono ?_;rintro e w9 ⟨rfl,hd⟩;have HB9:=z0 (below_step HB7.out hd.below);have HQ9:=z0 (HQ7.out.below hd.below);clear hd)))
             go_ret3
             rw [HGR.out]
             exact ⟨_,_,[],rfl,rfl,Kd.R_nil _ _ _ _ _,HB9.out⟩
           |cons x st'=>
            obtain ⟨nn,br,hs_⟩:=x
            obtain ⟨m,hm⟩:∃m,m=st'.length:=⟨_,rfl⟩
            obtain ⟨M,hM⟩:∃M,M=m+1:=⟨_,rfl⟩
            have hmb:m≤900000:=by rw [hm];have h1:=hGQ.out.cnt;simp only [List.length_cons] at h1;have:=HLE.out;have:=hI.out.1;omega
            have hML:((nn,br,hs_)::st').length=M:=by rw [List.length_cons,hM,hm]
            rw [hML] at hGQ ⊢
            have x1:IntKind.i64.wrap ((M:Int)-1)=(m:Int):=by rw [i64_w,OScan.wr (by omega) (by omega)];omega
            have x1':wrap64 ((M:Int)-1)=(m:Int):=by rw [OScan.wr (by omega) (by omega)];omega
            have x2:(m:Int)<(M:Int):=by omega
            have x3:(0:Int)≤(m:Int):=by omega
            have x4:(0:Int)<(M:Int):=by omega
            obtain ⟨g8,c8',e8,hv8,hm8,hm8'⟩:=stO_last hGQ.out.o
            obtain ⟨g9,c9',e9,hv9,hm9,hm9'⟩:=stE_last hGQ.out.e
            simp only [Value.slice.injEq] at e8 e9
            obtain ⟨rfl, -,rfl⟩:=e8
            obtain ⟨rfl, -,rfl⟩:=e9
            rw [←hm] at hv8 hv9
            simp only at hv8 hv9
            have HM:=z0 (And.intro hm hM)
            clear hm hM hmb hML
            by_cases her:hs_=true∧r.toList≠endifL
            · obtain ⟨rfl,hnk⟩:=her
              have hsf:stepF r j gs ((nn,br,true)::st')=none:=by unfold stepF;rw [if_neg hop,if_neg hid];simp only;rw [if_pos ⟨trivial,hnk⟩]
              rw [hsf] at hgo
              have hgr:groupsR ks=([],30,(j:Int)):=by unfold groupsR;rw [if_neg HBIG.out,←hgo]
              have HGR:=z0 hgr
              clear hgr hgo hsf hid hop hk
              obtain rfl:be=false:=by
               cases be with
               |false=>rfl
               |true=>exact absurd (by simpa using p3) hnk
              clear hnk
              rcases hbe.2 with ⟨rfl,rfl,_⟩|⟨rfl,rfl,_⟩|⟨_,_,hh⟩
              · clear hbb hbe
                go_wp2_with (first|(go_at_call 83;go_loud (refine (OKin.smockingref03_Kind.calls kf kd bf tx a1 r _ HKF.out).mono ?_;rintro e w7 ⟨rfl,hb7⟩;have HB7:=z0 (below_step hBj.out hb7);have HQ7:=z0 (hGQ.out.below hb7);replace hv8:=(hb7.cell hm8).trans hv8;replace hv9:=(hb7.cell hm9).trans hv9;have hm8a:=Nat.lt_of_lt_of_le hm8 hb7.size;have hm9a:=Nat.lt_of_lt_of_le hm9 hb7.size;clear hb7))|(go_at_call 82;go_loud (refine (H82r _).mono ?_;rintro e w9 ⟨rfl,hd⟩;have HB9:=z0 (below_step HB7.out hd.below);have HQ9:=z0 (HQ7.out.below hd.below);replace hv8:=(hd.below.cell hm8a).trans hv8;replace hv9:=(hd.below.cell hm9a).trans hv9;clear hd)))
                go_ret3
                rw [HGR.out]
                exact ⟨_,_,[],rfl,rfl,Kd.R_nil _ _ _ _ _,HB9.out⟩
              · clear hbb hbe
                go_wp2_with (first|(go_at_call 83;go_loud (refine (OKin.smockingref03_Kind.calls kf kd bf tx a1 r _ HKF.out).mono ?_;rintro e w7 ⟨rfl,hb7⟩;have HB7:=z0 (below_step hBj.out hb7);have HQ7:=z0 (hGQ.out.below hb7);replace hv8:=(hb7.cell hm8).trans hv8;replace hv9:=(hb7.cell hm9).trans hv9;have hm8a:=Nat.lt_of_lt_of_le hm8 hb7.size;have hm9a:=Nat.lt_of_lt_of_le hm9 hb7.size;clear hb7))|(go_at_call 82;go_loud (refine (H82r _).mono ?_;rintro e w9 ⟨rfl,hd⟩;have HB9:=z0 (below_step HB7.out hd.below);have HQ9:=z0 (HQ7.out.below hd.below);replace hv8:=(hd.below.cell hm8a).trans hv8;replace hv9:=(hd.below.cell hm9a).trans hv9;clear hd)))
                go_ret3
                rw [HGR.out]
                exact ⟨_,_,[],rfl,rfl,Kd.R_nil _ _ _ _ _,HB9.out⟩
              · cases hh
            · obtain ⟨B,cap,e7,hB0,hB1,hBc⟩:=Kd.S_form hGQ.out.g (by rw [hGQ.out.len];have:=hGQ.out.wf _ List.mem_cons_self;omega)
              rw [←HG7.out] at e7
              simp only [Value.slice.injEq] at e7
              obtain ⟨rfl, -,rfl⟩:=e7
              have hi1:(0:Int)≤(nn:Int):=by omega
              have hi2:(nn:Int)<(G7:Int):=by rw [HG7.out,hGQ.out.len];have:=hGQ.out.wf _ List.mem_cons_self;simp only at this;omega
              have HG9:Aside0 (w.heap.size≤g9):=⟨hm9'⟩
              have HGB:Aside0 (w.heap.size≤B):=⟨hB0⟩
              clear hB0 hB1 hBc
              by_cases hen:r.toList=endifL
              · obtain rfl:be=true:=by
                 cases be with
                 |true=>rfl
                 |false=>exact absurd (show (r.toList==endifL)=true by rw [hen];exact beq_self_eq_true _) (by rw [p3];decide)
                have HNL:Aside0 ((∀g:Gr,nn<(og.set nn g).length)∧∀g:Gr,grAt (og.set nn g) nn=g):=⟨by
                 have h1:nn<og.length:=by rw [hGQ.out.len];have:=hGQ.out.wf _ List.mem_cons_self;simpa using this
                 exact ⟨fun g=>by rw [List.length_set];exact h1,fun g=>by simp [grAt,h1]⟩⟩
                have z8:=slice_to_int (some ⟨g8,0,none⟩) M c8 m (by omega) (Kd.R_reads' hGQ.out.o).2.1
                have z9:=slice_to_bool (some ⟨g9,0,none⟩) M c9 m (by omega) (Kd.R_reads' hGQ.out.e).2.1
                have hsf:stepF r j gs ((nn,br,hs_)::st')=some (gs.set nn ((grAt gs nn).1++[(j:Int)],((grAt gs nn).1.length:Int)+(if hs_=true then 0 else 1),(grAt gs nn).2.2),st'):=by
                 unfold stepF;rw [if_neg hop,if_neg hid];simp only;rw [if_neg (by rintro ⟨_,h⟩;exact h hen),if_neg (by rw [hen];exact fun h=>h rfl)]
                rw [hsf] at hgo
                have HGO:=z0 hgo
                have HI':=z0 (hI.out.step hsf)
                clear hgo hsf hid hop hk her hen
                rcases hbe.2 with ⟨_,_,hh⟩|⟨_,_,hh⟩|⟨rfl,rfl,_⟩
                · cases hh
                · cases hh
                · clear hbb hbe
                  cases hs_ with
                  |false=>
                   go_wp2_with (first|(go_at_call 83;go_loud (refine (OKin.smockingref03_Kind.calls kf kd bf tx a1 r _ HKF.out).mono ?_;rintro e w7 ⟨rfl,hb7⟩;have HB7:=z0 (below_step hBj.out hb7);have HQ7:=z0 (hGQ.out.below hb7);replace hv8:=(hb7.cell hm8).trans hv8;replace hv9:=(hb7.cell hm9).trans hv9;have hm8a:=Nat.lt_of_lt_of_le hm8 hb7.size;have hm9a:=Nat.lt_of_lt_of_le hm9 hb7.size;clear hb7))|(go_at_call 82;go_loud (refine (H82r _).mono ?_;rintro e w9 ⟨rfl,hd⟩;have HB9:=z0 (below_step HB7.out hd.below);have HQ9:=z0 (HQ7.out.below hd.below);replace hv8:=(hd.below.cell hm8a).trans hv8;replace hv9:=(hd.below.cell hm9a).trans hv9;obtain ⟨oki,ls,b2,b3,b4,Al,cl,HGG,hv0,HR,HH,HOK⟩:=HQ9.out.lend hI.out;clear hd))|(at_builtin;go_loud (refine Kd.R_append (Kd.int .i64) (w0:=w) w.heap.size rfl (.tmp 115) (.tmp 117) 120 3 (.int .i64 0) 8 rfl Tryz.underlying120 (by kernel_rfl) rfl (by decide) (by omega) (.slice Al ls.length cl) ls (j:Int) [.int .i64 (j:Int)] oki (fun _=>False) rfl rfl rfl (fun _ hk=>hk.elim) HOK.out.1 HR.out HB9.out (below_size HB9.out) ?aL ?_;(case aL=>exact rg_len HGG.out.2 hji hnlen);intro v1 w10 ho hb hg1 hat;obtain ⟨A1,k1,rfl⟩:=Kd.R_slice ho;rw [List.length_append,List.length_singleton] at ho;have HR1:=z0 ho;have HB10:=z0 hb;have HG10:=z0 hg1;clear ho hb hg1 hat))|(refine gate_ (.store 120 (.tmp 120) (.tmp 118)) rfl ?_;go_loud (refine Kd.H_store kGr (w0:=w) w.heap.size rfl rfl 120 (.tmp 120) (.tmp 118) rfl 146 (nn:Int) 0 og (ls++[(j:Int)],b2,b3,b4) (.slice A1 (ls.length+1) k1) [.slice A1 (ls.length+1) k1] [.slice Al ls.length cl,.int .i64 b2,.int .i64 b3,.int .i64 b4] (fun k=>True∧some k≠(Value.slice (some ⟨g8,0,none⟩) M c8).ownBlock) oki oki rfl (by rw [Int.toNat_natCast];rfl) rfl rfl (by kernel_rfl) (fun q hq=>by rw [List.mem_singleton.1 hq];rfl) (Kd.H_grown HH.out HG10.out HR.out.1) hi1 hi2 (show 0+1≤4 by omega) ?aM (fun _ h=>h) HB10.out ?_;(case aM=>exact ⟨_,_,rfl,⟨_,rfl,HR1.out⟩,⟨_,_,rfl,rfl,⟨_,_,rfl,rfl,rfl⟩⟩⟩);intro w11 ho hb hg2;have HB11:=z0 hb;have HQ11:=z0 (fun y=>GQ.lined (y:=y) HQ9.out HGG.out.1 HR.out HOK.out.2 HG10.out hg2 ho);obtain ⟨A2,k2,y1,y2,y3⟩:=GQ.at_ (HQ11.out (0,0,0)) (HNL.out.1 _) (HNL.out.2 _);obtain ⟨y4,y5,y6⟩:=GQ.put_cells (HQ11.out (0,0,0)) HM.out.1 (HNL.out.1 _) (HNL.out.2 _);have hll:=HGG.out.2;rw [List.length_append,List.length_singleton] at y1;simp only at y4;clear ho hb hg2 hv9 hv0)))
                   go_roundg g2
                   case measure=>omega
                   case rel=>
                    exact ⟨j+1,_,_,st',(by first|rfl|simp),⟨by omega⟩,HGO,⟨(((HQ11.out _).branches nn (HNL.out.1 _) _).branches nn (by rw [List.length_set];exact HNL.out.1 _) _).popped HM.out.1⟩,⟨(HB11.out.setCell HGB.out _).setCell HGB.out _⟩,HI'⟩
                  |true=>
                   go_wp2_with (first|(go_at_call 83;go_loud (refine (OKin.smockingref03_Kind.calls kf kd bf tx a1 r _ HKF.out).mono ?_;rintro e w7 ⟨rfl,hb7⟩;have HB7:=z0 (below_step hBj.out hb7);have HQ7:=z0 (hGQ.out.below hb7);replace hv8:=(hb7.cell hm8).trans hv8;replace hv9:=(hb7.cell hm9).trans hv9;have hm8a:=Nat.lt_of_lt_of_le hm8 hb7.size;have hm9a:=Nat.lt_of_lt_of_le hm9 hb7.size;clear hb7))|(go_at_call 82;go_loud (refine (H82r _).mono ?_;rintro e w9 ⟨rfl,hd⟩;have HB9:=z0 (below_step HB7.out hd.below);have HQ9:=z0 (HQ7.out.below hd.below);replace hv8:=(hd.below.cell hm8a).trans hv8;replace hv9:=(hd.below.cell hm9a).trans hv9;obtain ⟨oki,ls,b2,b3,b4,Al,cl,HGG,hv0,HR,HH,HOK⟩:=HQ9.out.lend hI.out;clear hd))|(at_builtin;go_loud (refine Kd.R_append (Kd.int .i64) (w0:=w) w.heap.size rfl (.tmp 115) (.tmp 117) 120 3 (.int .i64 0) 8 rfl Tryz.underlying120 (by kernel_rfl) rfl (by decide) (by omega) (.slice Al ls.length cl) ls (j:Int) [.int .i64 (j:Int)] oki (fun _=>False) rfl rfl rfl (fun _ hk=>hk.elim) HOK.out.1 HR.out HB9.out (below_size HB9.out) ?aL ?_;(case aL=>exact rg_len HGG.out.2 hji hnlen);intro v1 w10 ho hb hg1 hat;obtain ⟨A1,k1,rfl⟩:=Kd.R_slice ho;rw [List.length_append,List.length_singleton] at ho;have HR1:=z0 ho;have HB10:=z0 hb;have HG10:=z0 hg1;clear ho hb hg1 hat))|(refine gate_ (.store 120 (.tmp 120) (.tmp 118)) rfl ?_;go_loud (refine Kd.H_store kGr (w0:=w) w.heap.size rfl rfl 120 (.tmp 120) (.tmp 118) rfl 146 (nn:Int) 0 og (ls++[(j:Int)],b2,b3,b4) (.slice A1 (ls.length+1) k1) [.slice A1 (ls.length+1) k1] [.slice Al ls.length cl,.int .i64 b2,.int .i64 b3,.int .i64 b4] (fun k=>True∧some k≠(Value.slice (some ⟨g8,0,none⟩) M c8).ownBlock) oki oki rfl (by rw [Int.toNat_natCast];rfl) rfl rfl (by kernel_rfl) (fun q hq=>by rw [List.mem_singleton.1 hq];rfl) (Kd.H_grown HH.out HG10.out HR.out.1) hi1 hi2 (show 0+1≤4 by omega) ?aM (fun _ h=>h) HB10.out ?_;(case aM=>exact ⟨_,_,rfl,⟨_,rfl,HR1.out⟩,⟨_,_,rfl,rfl,⟨_,_,rfl,rfl,rfl⟩⟩⟩);intro w11 ho hb hg2;have HB11:=z0 hb;have HQ11:=z0 (fun y=>GQ.lined (y:=y) HQ9.out HGG.out.1 HR.out HOK.out.2 HG10.out hg2 ho);obtain ⟨A2,k2,y1,y2,y3⟩:=GQ.at_ (HQ11.out (0,0,0)) (HNL.out.1 _) (HNL.out.2 _);obtain ⟨y4,y5,y6⟩:=GQ.put_cells (HQ11.out (0,0,0)) HM.out.1 (HNL.out.1 _) (HNL.out.2 _);have hll:=HGG.out.2;rw [List.length_append,List.length_singleton] at y1;simp only at y4;clear ho hb hg2 hv9 hv0)))
                   go_roundg g2
                   case measure=>omega
                   case rel=>
                    exact ⟨j+1,_,_,st',(by first|rfl|simp),⟨by omega⟩,HGO,⟨((HQ11.out _).branches nn (HNL.out.1 _) _).popped HM.out.1⟩,⟨HB11.out.setCell HGB.out _⟩,HI'⟩
              · obtain rfl:be=false:=by
                 cases be with
                 |false=>rfl
                 |true=>exact absurd (by simpa using p3) hen
                obtain rfl:hs_=false:=by
                 cases hs_ with
                 |false=>rfl
                 |true=>exact absurd ⟨rfl,hen⟩ her
                have hsf:stepF r j gs ((nn,br,false)::st')=some (lineF j gs nn,(nn,wrap64 (br+1),r.toList==elseL)::st'):=by
                 unfold stepF;rw [if_neg hop,if_neg hid];simp only;rw [if_neg (by intro h;cases h.1),if_pos hen]
                rw [hsf] at hgo
                have HGO:=z0 hgo
                have HI':=z0 (hI.out.step hsf)
                clear hgo hsf hid hop hk her hen
                rcases hbe.2 with ⟨rfl,rfl,_⟩|⟨rfl,rfl,_⟩|⟨_,_,hh⟩
                · clear hbb hbe
                  go_wp2_with (first|(go_at_call 83;go_loud (refine (OKin.smockingref03_Kind.calls kf kd bf tx a1 r _ HKF.out).mono ?_;rintro e w7 ⟨rfl,hb7⟩;have HB7:=z0 (below_step hBj.out hb7);have HQ7:=z0 (hGQ.out.below hb7);replace hv8:=(hb7.cell hm8).trans hv8;replace hv9:=(hb7.cell hm9).trans hv9;have hm8a:=Nat.lt_of_lt_of_le hm8 hb7.size;have hm9a:=Nat.lt_of_lt_of_le hm9 hb7.size;clear hb7))|(go_at_call 82;go_loud (refine (H82r _).mono ?_;rintro e w9 ⟨rfl,hd⟩;have HB9:=z0 (below_step HB7.out hd.below);have HQ9:=z0 (HQ7.out.below hd.below);replace hv8:=(hd.below.cell hm8a).trans hv8;replace hv9:=(hd.below.cell hm9a).trans hv9;obtain ⟨oki,ls,b2,b3,b4,Al,cl,HGG,hv0,HR,HH,HOK⟩:=HQ9.out.lend hI.out;clear hd))|(at_builtin;go_loud (refine Kd.R_append (Kd.int .i64) (w0:=w) w.heap.size rfl (.tmp 115) (.tmp 117) 120 3 (.int .i64 0) 8 rfl Tryz.underlying120 (by kernel_rfl) rfl (by decide) (by omega) (.slice Al ls.length cl) ls (j:Int) [.int .i64 (j:Int)] oki (fun _=>False) rfl rfl rfl (fun _ hk=>hk.elim) HOK.out.1 HR.out HB9.out (below_size HB9.out) ?aL ?_;(case aL=>exact rg_len HGG.out.2 hji hnlen);intro v1 w10 ho hb hg1 hat;obtain ⟨A1,k1,rfl⟩:=Kd.R_slice ho;rw [List.length_append,List.length_singleton] at ho;have HR1:=z0 ho;have HB10:=z0 hb;have HG10:=z0 hg1;clear ho hb hg1 hat))|(refine gate_ (.store 120 (.tmp 120) (.tmp 118)) rfl ?_;go_loud (refine Kd.H_store kGr (w0:=w) w.heap.size rfl rfl 120 (.tmp 120) (.tmp 118) rfl 146 (nn:Int) 0 og (ls++[(j:Int)],b2,b3,b4) (.slice A1 (ls.length+1) k1) [.slice A1 (ls.length+1) k1] [.slice Al ls.length cl,.int .i64 b2,.int .i64 b3,.int .i64 b4] (fun k=>True∧some k≠(Value.slice (some ⟨g8,0,none⟩) M c8).ownBlock) oki oki rfl (by rw [Int.toNat_natCast];rfl) rfl rfl (by kernel_rfl) (fun q hq=>by rw [List.mem_singleton.1 hq];rfl) (Kd.H_grown HH.out HG10.out HR.out.1) hi1 hi2 (show 0+1≤4 by omega) ?aM (fun _ h=>h) HB10.out ?_;(case aM=>exact ⟨_,_,rfl,⟨_,rfl,HR1.out⟩,⟨_,_,rfl,rfl,⟨_,_,rfl,rfl,rfl⟩⟩⟩);intro w11 ho hb hg2;have HB11:=z0 hb;have HQ11:=z0 (fun y=>GQ.lined (y:=y) HQ9.out HGG.out.1 HR.out HOK.out.2 HG10.out hg2 ho);clear ho hb hg2)))
                  go_roundg g2
                  case measure=>omega
                  case rel=>exact ⟨j+1,_,_,_,(by first|rfl|simp),⟨by omega⟩,HGO,⟨by rw [p2];exact (HQ11.out _).rebr⟩,HB11,HI'⟩
                · clear hbb hbe
                  go_wp2_with (first|(go_at_call 83;go_loud (refine (OKin.smockingref03_Kind.calls kf kd bf tx a1 r _ HKF.out).mono ?_;rintro e w7 ⟨rfl,hb7⟩;have HB7:=z0 (below_step hBj.out hb7);have HQ7:=z0 (hGQ.out.below hb7);replace hv8:=(hb7.cell hm8).trans hv8;replace hv9:=(hb7.cell hm9).trans hv9;have hm8a:=Nat.lt_of_lt_of_le hm8 hb7.size;have hm9a:=Nat.lt_of_lt_of_le hm9 hb7.size;clear hb7))|(go_at_call 82;go_loud (refine (H82r _).mono ?_;rintro e w9 ⟨rfl,hd⟩;have HB9:=z0 (below_step HB7.out hd.below);have HQ9:=z0 (HQ7.out.below hd.below);replace hv8:=(hd.below.cell hm8a).trans hv8;replace hv9:=(hd.below.cell hm9a).trans hv9;obtain ⟨oki,ls,b2,b3,b4,Al,cl,HGG,hv0,HR,HH,HOK⟩:=HQ9.out.lend hI.out;clear hd))|(at_builtin;go_loud (refine Kd.R_append (Kd.int .i64) (w0:=w) w.heap.size rfl (.tmp 115) (.tmp 117) 120 3 (.int .i64 0) 8 rfl Tryz.underlying120 (by kernel_rfl) rfl (by decide) (by omega) (.slice Al ls.length cl) ls (j:Int) [.int .i64 (j:Int)] oki (fun _=>False) rfl rfl rfl (fun _ hk=>hk.elim) HOK.out.1 HR.out HB9.out (below_size HB9.out) ?aL ?_;(case aL=>exact rg_len HGG.out.2 hji hnlen);intro v1 w10 ho hb hg1 hat;obtain ⟨A1,k1,rfl⟩:=Kd.R_slice ho;rw [List.length_append,List.length_singleton] at ho;have HR1:=z0 ho;have HB10:=z0 hb;have HG10:=z0 hg1;clear ho hb hg1 hat))|(refine gate_ (.store 120 (.tmp 120) (.tmp 118)) rfl ?_;go_loud (refine Kd.H_store kGr (w0:=w) w.heap.size rfl rfl 120 (.tmp 120) (.tmp 118) rfl 146 (nn:Int) 0 og (ls++[(j:Int)],b2,b3,b4) (.slice A1 (ls.length+1) k1) [.slice A1 (ls.length+1) k1] [.slice Al ls.length cl,.int .i64 b2,.int .i64 b3,.int .i64 b4] (fun k=>True∧some k≠(Value.slice (some ⟨g8,0,none⟩) M c8).ownBlock) oki oki rfl (by rw [Int.toNat_natCast];rfl) rfl rfl (by kernel_rfl) (fun q hq=>by rw [List.mem_singleton.1 hq];rfl) (Kd.H_grown HH.out HG10.out HR.out.1) hi1 hi2 (show 0+1≤4 by omega) ?aM (fun _ h=>h) HB10.out ?_;(case aM=>exact ⟨_,_,rfl,⟨_,rfl,HR1.out⟩,⟨_,_,rfl,rfl,⟨_,_,rfl,rfl,rfl⟩⟩⟩);intro w11 ho hb hg2;have HB11:=z0 hb;have HQ11:=z0 (fun y=>GQ.lined (y:=y) HQ9.out HGG.out.1 HR.out HOK.out.2 HG10.out hg2 ho);have hc9:=(GQ.last9 (HQ11.out (0,0,0)) HM.out.1).1;have hf9:=(GQ.last9 (HQ11.out (0,0,0)) HM.out.1).2;clear ho hb hg2 hv9 hv0)))
                  go_roundg g2
                  case measure=>omega
                  case rel=>exact ⟨j+1,_,_,_,(by first|rfl|simp),⟨by omega⟩,HGO,⟨by rw [p2,HM.out.1];exact (HQ11.out _).elsed⟩,⟨HB11.out.setCell HG9.out _⟩,HI'⟩
                · cases hh
  |succ g1=>
   have hlt:decide ((i:Int)<(n:Int))=true:=decide_eq_true (by omega)
   have hin:i<n:=by omega
   have HIN:=z0 hin
   obtain ⟨x,hx⟩:∃x,ys[i]? =some x:=⟨_,List.getElem?_eq_getElem (by rw [←HN.out];exact hin)⟩
   obtain ⟨r,kf,hr,hkf⟩:=HK.out i x hx
   obtain ⟨ad,hA,hx0,hx1,hx2,hx3⟩:=tk_at HC.out i (by rw [←HN.out];exact hin) x hx
   obtain rfl:=hA
   replace hx0:=(hB.out.cell (World.block_lt_of_cell? w _ hx0)).trans hx0
   replace hx1:=(hB.out.cell (World.block_lt_of_cell? w _ hx1)).trans hx1
   replace hx2:=(hB.out.cell (World.block_lt_of_cell? w _ hx2)).trans hx2
   replace hx3:=(hB.out.cell (World.block_lt_of_cell? w _ hx3)).trans hx3
   clear hx
   obtain ⟨kd,bf,tx,a1⟩:=x
   simp only at hx0 hx1 hx2 hx3 hkf
   have HKF:=z0 hkf
   have HRK:=z0 hr
   clear hkf hr
   have hii:(0:Int)≤(i:Int):=by omega
   obtain ⟨ob,hob⟩:∃ob,ob=opensB r:=⟨_,rfl⟩
   have H82r:=fun W=>H82 W r
   rw [←hob] at H82r
   have HOB:=z0 hob
   clear hob
   have hob1:opensN (ks.take i)≤900000:=by have h1:=opensN_le (ks.take i);have h2:=HIN.out;rw [List.length_take] at h1;omega
   cases ob with
   |false=>
    go_wp2_with (first|(go_at_call 83;go_loud (refine (OKin.smockingref03_Kind.calls kf kd bf tx a1 r _ HKF.out).mono ?_;rintro e w7 ⟨rfl,hb7⟩;have HB7:=z0 (below_step hB.out hb7);clear hb7))|(go_at_call 82;go_loud (refine (H82r _).mono ?_;rintro e w9 ⟨rfl,hd⟩;have HB9:=z0 (below_step HB7.out hd.below);clear hd)))
    go_roundg g1
    case measure=>omega
    case rel=>exact ⟨i+1,by simp,by rw [take_snoc ks i r HRK.out,opensN_snoc,if_neg (by rw [←HOB.out];decide)];simp,⟨by omega⟩,HB9⟩
   |true=>
    go_wp2_with (first|(go_at_call 83;go_loud (refine (OKin.smockingref03_Kind.calls kf kd bf tx a1 r _ HKF.out).mono ?_;rintro e w7 ⟨rfl,hb7⟩;have HB7:=z0 (below_step hB.out hb7);clear hb7))|(go_at_call 82;go_loud (refine (H82r _).mono ?_;rintro e w9 ⟨rfl,hd⟩;have HB9:=z0 (below_step HB7.out hd.below);clear hd)))
    go_roundg g1
    case measure=>omega
    case rel=>exact ⟨i+1,by simp,by rw [take_snoc ks i r HRK.out,opensN_snoc,if_pos HOB.out.symm];simp,⟨by omega⟩,HB9⟩
end Go.Proofs.YtolaiebjmhieiaaGreatDoor.OScan
end
