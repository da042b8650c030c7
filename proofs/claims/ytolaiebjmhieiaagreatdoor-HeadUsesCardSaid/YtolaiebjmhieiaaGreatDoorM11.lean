/- Parts of the proof of HeadUses; no condition. -/
import Derived.Test.YtolaiebjmhieiaaGreatDoorM10
import Derived.Test.YtolaiebjmhieiaaGreatDoorM08
import Derived.Test.YtolaiebjmhieiaaGreatDoorM01
import Derived.Test.YtolaiebjmhieiaaGreatDoorM04
import Derived.Lib.LazyBuf
import Derived.Test.YtolaiebjmhieiaaGreatDoorProg
import Derived.Below
import Derived.Deep.Draws
import Derived.Deep.AppendLies
import Derived.Maps.AppendAt
import Derived.OwnWalk
import Derived.Laws.BytesArg
import Derived.Laws.MakeOwn
import Derived.Laws.OwnMore
import Derived.Deep.OwnRows
import Derived.Tactics
import Derived.Lib.ConvBytes
import Derived.Laws.Slices
import Derived.WalkKit
import Derived.KernelRfl
import Derived.RowKit3
import Derived.Deep.LoopGhost
import Derived.Deep.QuietTactic
import Derived.BigQuiet
import Derived.WideLaws
import Derived.Deep.DeepCutAuto
import Derived.Deep.CutBlock
import Derived.Deep.RegionHeld3
import Derived.Laws.Rows
import Derived.Lib.AppendStr
import Derived.ArgAppend
import Derived.Laws.IdiomCopy
import Derived.OrdersHeld
import Derived.Laws.BitsLemmas
import Derived.RowKit
import Derived.Laws.StructEq
set_option maxHeartbeats 8000000
set_option maxRecDepth 100000
set_option linter.unusedVariables false
set_option linter.unusedSimpArgs false
section
namespace Go.Proofs.YtolaiebjmhieiaaGreatDoor.OScan
open Go.RowKit YtolaiebjmhieiaaGreatDoorW.PrintWords YtolaiebjmhieiaaGreatDoorW.PrintLast YtolaiebjmhieiaaGreatDoorW.PrintMore
def AllW (files:List Fl)(ps:List ByteArray)(name:ByteArray)(er:Int)(l:List ByteArray):Prop:=
 (er≠0∧withF files name=(er,none)∧l=[])∨∃m met out,withF files name=(0,some m)∧Graph.Walk (erN m) (gR m ps) name [] [] er met out∧l=if er=0 then out else []
theorem AllW.det {files:List Fl}{ps:List ByteArray}{name:ByteArray}{er er':Int}{l l':List ByteArray}(h:AllW files ps name er l)(h':AllW files ps name er' l'):er=er'∧l=l':=by
 rcases h with ⟨h1,h2,h3⟩|⟨m,met,out,h1,h2,h3⟩<;>rcases h' with ⟨k1,k2,k3⟩|⟨m',met',out',k1,k2,k3⟩
 · rw [h2] at k2
   obtain rfl:=(Prod.ext_iff.1 k2).1
   exact ⟨rfl,h3.trans k3.symm⟩
 · rw [h2] at k1;cases (Prod.ext_iff.1 k1).2
 · rw [h1] at k2;cases (Prod.ext_iff.1 k2).2
 · rw [h1] at k1
   obtain rfl:=Option.some.inj (Prod.ext_iff.1 k1).2
   obtain ⟨rfl,rfl,rfl⟩:=Graph.walk_det h2 _ _ _ k2
   exact ⟨rfl,h3.trans k3.symm⟩
theorem rAll_any {files:List Fl}{ps:List ByteArray}{A Ap:Option Addr}{c cp:Nat}{w:World}(H:ArgsOK w files ps A Ap c cp)(hcp:ps.length≤cp)(name:ByteArray):
 Calls Tryz.prog 10 #[.slice A files.length c,.string name,.slice Ap ps.length cp] w fun e w'=>∃v er l,e= .returned (.tuple #[v,.int .i64 er])∧AllW files ps name er l∧Kd.R Kd.string 9 w' w.heap.size (fun _=>True) v l∧Below w.heap.size w w':=by
 have H23:=rListed_any H
 have H24:Aside0 (∀W:World,Below w.heap.size w W→Calls Tryz.prog 24 #[.slice A files.length c,.string name] W fun e w'=>e= .returned (.int .i64 (findN files name))∧Below W.heap.size W w'):=⟨fun W hb=>rFind_any files name W A c (Kd.C_below H.fc hb) H.fl (by have:=H.nfl;omega)⟩
 rcases r_cases files name with ⟨h0,hw⟩|⟨h0,hf,hw⟩|⟨m,k,f,hm,hk,hf,rfl,hw⟩
 · obtain ⟨er,her⟩:∃er,er=(openF files).1:=⟨_,rfl⟩
   rw [←her] at H23 h0 hw
   have HA:Aside0 (AllW files ps name er []):=⟨.inl ⟨h0,hw,rfl⟩⟩
   have hb':(er !=0)=true:=bne_iff_ne.mpr h0
   obtain ⟨n,hn⟩:∃n,n=files.length:=⟨_,rfl⟩
   rw [←hn] at H23 ⊢
   obtain ⟨np,hnp⟩:∃np,np=ps.length:=⟨_,rfl⟩
   rw [←hnp]
   clear H hcp H24 hw her h0 hn hnp
   go_enter Tryz.func10,Tryz.ntmps10
   go_wp2_with (go_at_call 23;go_loud (refine H23.mono ?_;rintro e w5 ⟨rfl,hb5⟩;have HB5:=z0 hb5;clear hb5))
   go_ret2
   exact ⟨_,_,_,rfl,HA.out,Kd.R_nil _ _ _ _ _,HB5.out⟩
 · have HA:Aside0 (AllW files ps name 4 []):=⟨.inl ⟨by decide,hw,rfl⟩⟩
   rw [h0] at H23
   obtain ⟨x,hx⟩:∃x,x=findN files name:=⟨_,rfl⟩
   rw [←hx] at H24 hf
   have hlt:decide (x<0)=true:=decide_eq_true hf
   obtain ⟨n,hn⟩:∃n,n=files.length:=⟨_,rfl⟩
   rw [←hn] at H23 H24 ⊢
   obtain ⟨np,hnp⟩:∃np,np=ps.length:=⟨_,rfl⟩
   rw [←hnp]
   clear H hcp hw hx hf h0 hn hnp
   go_enter Tryz.func10,Tryz.ntmps10
   go_wp2_with (first|(go_at_call 23;go_loud (refine H23.mono ?_;rintro e w5 ⟨rfl,hb5⟩;have HB5:=z0 hb5;clear hb5))|(go_at_call 24;go_loud (refine (H24.out _ HB5.out).mono ?_;rintro e w6 ⟨rfl,hb6⟩;have HB6:=z0 (below_step HB5.out hb6);clear hb6)))
   go_ret2
   exact ⟨_,_,_,rfl,HA.out,Kd.R_nil _ _ _ _ _,HB6.out⟩
 · rw [hm] at H23
   rw [hk] at H24
   have H27:Aside0 (∀(W:World) (SB cS:Nat),Below w.heap.size w W→Kd.R Kd.bool 4 W w.heap.size (fun _=>True) (.slice (some ⟨SB,0,none⟩) files.length cS) (List.replicate files.length false)→Calls Tryz.prog 27 #[.slice A files.length c,.int .i64 (k:Int),.slice Ap ps.length cp,.slice (some ⟨SB,0,none⟩) files.length cS,.slice none 0 0] W fun e w'=>∃v er l,e= .returned (.tuple #[v,.int .i64 er])∧AllW files ps f.1 er l∧Kd.R Kd.string 9 w' w.heap.size (fun _=>True) v l∧Below w.heap.size w w'):=⟨fun W SB cS hb hS=>by
    have hle:=left_le (files.map (·.1)) ([]:List ByteArray)
    rw [List.length_map] at hle
    have hnf:=H.nfl
    refine (rGone_any H hcp hm _ k f W SB cS _ (.slice none 0 0) [] [] hf (by simp) (Nat.le_refl _) (by simp only [List.length_nil];omega) ⟨hb,hS,fun i g hg=>⟨false,?_,by simp⟩,Kd.R_nil _ _ _ _ _⟩).mono ?_
    · rw [List.getElem?_replicate,if_pos (List.getElem?_eq_some_iff.1 hg).1]
    · rintro e w' ⟨v',er',met',out',bl',rfl,h1,h2,h3,h4,_⟩
      refine ⟨v',er',if er'=0 then out' else [],rfl,.inr ⟨m,met',out',hw,h1,rfl⟩,?_,h4⟩
      by_cases e0:er'=0
      · rw [if_pos e0];exact (h2 e0).out
      · rw [if_neg e0,h3 e0];exact Kd.R_nil _ _ _ _ _⟩
   have hlt:decide ((k:Int)<0)=false:=decide_eq_false (by omega)
   have hnl:=H.nfl
   obtain ⟨n,hn⟩:∃n,n=files.length:=⟨_,rfl⟩
   rw [←hn] at H23 H24 H27 hnl ⊢
   obtain ⟨np,hnp⟩:∃np,np=ps.length:=⟨_,rfl⟩
   rw [←hnp] at H27 ⊢
   obtain ⟨P,hP⟩:∃P:Int→List ByteArray→Prop,P=AllW files ps f.1:=⟨_,rfl⟩
   rw [←hP] at H27 ⊢
   obtain ⟨name,hname⟩:∃name,name=f.1:=⟨_,rfl⟩
   rw [←hname] at H24 ⊢
   clear H hcp hw hm hk hf hn hnp hP hname
   go_enter Tryz.func10,Tryz.ntmps10
   go_wp2_with (first|(go_at_call 23;go_loud (refine H23.mono ?_;rintro e w5 ⟨rfl,hb5⟩;have HB5:=z0 hb5;clear hb5))|(go_at_call 24;go_loud (refine (H24.out _ HB5.out).mono ?_;rintro e w6 ⟨rfl,hb6⟩;have HB6:=z0 (below_step HB5.out hb6);clear hb6))|(refine gate_ (.makeSlice 61 (.tmp 24) (.tmp 24)) rfl ?_;go_loud (refine Kd.R_make Kd.bool (w0:=w) w.heap.size 4 rfl (N:=25) rfl 61 (.tmp 24) (.tmp 24) rfl (n:Int) rfl rfl Tryz.underlying61 (.bool false) 1 (by kernel_rfl) rfl (by decide) (by omega) false (ok:=fun _=>True) (okp:=fun _=>False) rfl (fun _ h=>h.elim) trivial (by omega) (by simp;omega) HB6.out (below_size HB6.out) ?_;intro v7 w7 ho hb hg7 hat;rw [Int.toNat_natCast] at ho;obtain ⟨b7,hat,_⟩:=hat;obtain ⟨A7,c7,rfl⟩:=Kd.R_slice ho;rw [List.length_replicate] at ho;obtain ⟨g7,rfl⟩:∃g,A7=some ⟨g,0,none⟩:=(by cases A7 with|none=>simp [Value.ownBlock] at hat|some a=>obtain ⟨g,rfl⟩:=Kd.R_head ho;exact ⟨g,rfl⟩);have HR7:=z0 ho;have HB7:=z0 hb;clear ho hb hg7 hat))|(go_at_call 27;go_loud (refine (H27.out _ _ _ HB7.out HR7.out).mono ?_;rintro e w8 ⟨v8,e8,l8,rfl,h1,h2,h3⟩;obtain ⟨A8,c8,rfl⟩:=Kd.R_slice h2;have HX:=z0 (And.intro h1 (And.intro h2 h3));clear h1 h2 h3)))
   go_ret2
   exact ⟨_,_,_,rfl,HX.out.1,HX.out.2.1,HX.out.2.2⟩
theorem All_ex {files:List Fl}{ps:List ByteArray}{A Ap:Option Addr}{c cp:Nat}{W:World}(H:ArgsOK W files ps A Ap c cp)(name:ByteArray):
 Calls Tryz.prog 9 #[.slice A files.length c,.string name,.slice Ap ps.length cp] W fun e w'=>∃v er l,e= .returned (.tuple #[v,.int .i64 er])∧AllW files ps name er l∧Kd.R Kd.string 9 w' W.heap.size (fun _=>True) v l∧Below W.heap.size W w':=by
 have H20:=with_any files name A c Ap ps.length cp W H.glob H.fc H.fl (by have:=H.nfl;omega) (fun f hf=>by have:=(H.fsz f hf).1;omega)
 have HH:=z0 H
 obtain ⟨P,hP⟩:∃P:Int→List ByteArray→Prop,P=AllW files ps name:=⟨_,rfl⟩
 obtain ⟨n,hn⟩:∃n,n=files.length:=⟨_,rfl⟩
 obtain ⟨np,hnp⟩:∃np,np=ps.length:=⟨_,rfl⟩
 rcases withF_cases files name with ⟨er,he,hw⟩|⟨m,hm,hsome,hw⟩
 · have HA:Aside0 (P er []):=⟨by rw [hP];exact .inl ⟨he,hw,rfl⟩⟩
   rw [hw,←hn,←hnp] at H20
   rw [←hn,←hnp,←hP]
   have er0:(er !=0)=true:=by simpa using he
   clear H hw hn hnp he hP
   go_enter Tryz.func9,Tryz.ntmps9
   go_wp2_with (go_at_call 20;go_loud (refine H20.mono ?_;rintro e w5 ⟨rfl,hb5⟩;have HB5:=z0 hb5;clear hb5))
   go_ret2
   exact ⟨_,er,[],rfl,HA.out,Kd.R_nil _ _ _ _ _,HB5.out⟩
 · have H26:Aside0 (∀(w5:World) (PB fm cm:Nat),PrjIs W.heap.size w5 PB fm cm (.slice Ap np cp) m []→Below W.heap.size W w5→Calls Tryz.prog 26 #[.pointer (some ⟨PB,0,none⟩),.string name] w5 fun e w'=>∃v er l,e= .returned (.tuple #[v,.int .i64 er])∧P er l∧Kd.R Kd.string 9 w' W.heap.size (fun _=>True) v l∧Below W.heap.size W w'):=⟨fun w5 PB fm cm hP5 hb=>by
    rw [hnp] at hP5
    refine (all_any (HH.out.env hm PB fm cm) name w5 hsome (ps_of_new hP5 hb)).mono ?_
    rintro e w' ⟨er',met',out',v',rfl,hw2,hr,hps,hsz,hk⟩
    exact ⟨v',er',_,rfl,by rw [hP];exact .inr ⟨m,met',out',hw,hw2,rfl⟩,Kd.R_lower hr hb.size,hps.below⟩⟩
   rw [hw,←hn,←hnp] at H20
   rw [←hn,←hnp,←hP]
   clear H hw hn hnp hm hsome HH hP
   go_enter Tryz.func9,Tryz.ntmps9
   go_wp2_with (first|(go_at_call 20;go_loud (refine H20.mono ?_;rintro e w5 ⟨⟨PB,fm,cm,rfl,hP⟩,hb5⟩;have H26':=H26.out w5 PB fm cm hP hb5;clear hP hb5))|(go_at_call 26;go_loud (refine H26'.mono ?_;rintro e w6 ⟨v6,er6,out6,rfl,h1,h2,h3⟩;obtain ⟨A6,c6,rfl⟩:=Kd.R_slice h2;have HX:=z0 (And.intro h1 (And.intro h2 h3));clear h1 h2 h3)))
   go_ret2
   exact ⟨_,er6,out6,rfl,HX.out.1,HX.out.2.1,HX.out.2.2⟩
theorem info34:(Tryz.prog.info? 34).map (fun i=>(i.zero,i.size,i.bytes))=some (some (.agg #[(.string ⟨#[]⟩),(.bool false),(.string ⟨#[]⟩)]),3,40):=by kernel_rfl
theorem cloneU_any (xs:List Us)(A:Option Addr)(c:Nat)(w:World)(HC:Kd.C kUs w A xs.length xs)(hl:xs.length≤1000000):
 Calls Tryz.prog 22 #[.slice A xs.length c] w fun e w'=>∃v',e= .returned v'∧Kd.R kUs 34 w' w.heap.size (fun _=>True) v' xs∧Below w.heap.size w w':=by
 cases A with
 |none=>
  have h0:xs=[]:=by
   cases xs with
   |nil=>rfl
   |cons x xs=>
    obtain ⟨ad,e,_⟩:=us_at HC 0 (by simp) x rfl
    cases e
  subst h0
  have hnil:=Go.Lib.run_eql_slice_nil (P:=Tryz.prog) w 25 34 none 0 c 0 0 Tryz.underlying25
  simp only [Option.isNone_none] at hnil
  go_enter Tryz.func22,Tryz.ntmps22
  go_wp2_with (fail)
  go_ret
  exact ⟨_,rfl,Kd.R_nil _ _ _ _ _,Below.refl _ _⟩
 |some ad=>
  have hB:=below_alloc (Below.refl w.heap.size w) (Obj.cells #[] 34)
  have hnew:(w.alloc (Obj.cells #[] 34)).heap[w.heap.size]? =some (.cells #[] 34 (0,0)):=blk_new _ _
  have hR0:Kd.R kUs 34 (w.alloc (Obj.cells #[] 34)) w.heap.size (fun _=>True) (.slice (some ⟨w.heap.size,0,none⟩) 0 0) []:=⟨fun _ _=>trivial,[],⟨rfl,.inr ⟨w.heap.size,0,#[],rfl,Nat.le_refl _,hnew,Nat.le_refl _,by decide,rfl,rfl⟩⟩,⟨rfl,fun j p hp=>by simp at hp⟩⟩
  have HR0:=z0 hR0
  have HCC:=z0 (Kd.C_below HC hB)
  have HB:=z0 hB
  have HL:=z0 hl
  clear HC hB hnew hR0 hl
  obtain ⟨n,hn⟩:∃n,n=xs.length:=⟨_,rfl⟩
  rw [←hn] at HCC HL ⊢
  have HN:=z0 hn
  clear hn
  have hnil:=Go.Lib.run_eql_slice_nil (P:=Tryz.prog) w 25 34 (some ad) n c 0 0 Tryz.underlying25
  simp only [Option.isNone_some] at hnil
  go_enter Tryz.func22,Tryz.ntmps22
  go_wp2_with (at_builtin;go_loud (refine Kd.R_append_rows kUs (w0:=w) (W:=w.alloc (Obj.cells #[] 34)) w.heap.size rfl (.tmp 5) (.tmp 6) 25 34 (.agg #[(.string ⟨#[]⟩),(.bool false),(.string ⟨#[]⟩)]) 40 rfl Tryz.underlying25 info34 rfl (by decide) (by omega) (.slice (some ⟨w.heap.size,0,none⟩) 0 0) [] xs (some ad) n c (fun _=>True) (fun _=>False) rfl rfl HR0.out HCC.out (fun _ _ h=>h) (fun _ h=>h.elim) (fun _ _=>trivial) HB.out HB.out.size ?aL ?_;(case aL=>have:=HL.out;simp only [List.length_nil];omega);intro v1 w6 ho hb6 hg6 hat6;obtain ⟨A1,c1,rfl⟩:=Kd.R_slice ho;rw [List.nil_append] at ho;have HO6:=z0 ho;have HB6:=z0 hb6;clear ho hb6 hg6 hat6))
  go_ret
  exact ⟨_,rfl,HO6.out,HB6.out⟩
section
variable {W:World}{files:List Fl}{ps:List ByteArray}{A Ap:Option Addr}{c cp:Nat}{m:AL}
theorem Uses_ok (H:ArgsOK W files ps A Ap c cp)(hm:openF files=(0,some m))(name:ByteArray)(hsome:(alGet m name).isSome=true)(he:erN m name=0):
 Calls Tryz.prog 7 #[.slice A files.length c,.string name,.slice Ap ps.length cp] W fun e w'=>∃(v:Value),e= .returned (.tuple #[v,.int .i64 0])∧Below W.heap.size W w'∧Kd.R kUs 34 w' W.heap.size (fun _=>True) v (usR m ps name):=by
 have H20:=with_any files name A c Ap ps.length cp W H.glob H.fc H.fl (by have:=H.nfl;omega) (fun f hf=>by have:=(H.fsz f hf).1;omega)
 have hw:withF files name=(0,some m):=by unfold withF;rw [hm];simp only;rw [if_pos hsome]
 have hlen:(usR m ps name).length≤1000000:=(H.env hm 0 0 0).len name
 rw [hw] at H20
 obtain ⟨l,hl⟩:∃l,l=usR m ps name:=⟨_,rfl⟩
 obtain ⟨np,hnp⟩:∃np,np=ps.length:=⟨_,rfl⟩
 have H21:Aside0 (∀(w5:World) (PB fm cm:Nat),PrjIs W.heap.size w5 PB fm cm (.slice Ap np cp) m []→Below W.heap.size W w5→Calls Tryz.prog 21 #[.pointer (some ⟨PB,0,none⟩),.string name] w5 fun e w'=>∃rb,e= .returned (.pointer (some ⟨rb,0,none⟩))∧RdIs W.heap.size w' rb l 0∧Below W.heap.size W w'):=⟨fun w5 PB fm cm hP hb=>by
  rw [hnp] at hP
  refine (read_any m ps Ap cp PB fm cm W w5 name (H.envOK hm) hsome (ps_of_new hP hb)).mono ?_
  rintro e w' ⟨rb,rfl,hr,hps,_⟩
  rw [he,←hl] at hr
  exact ⟨rb,rfl,hr,hps.below⟩⟩
 obtain ⟨n,hn⟩:∃n,n=files.length:=⟨_,rfl⟩
 rw [←hn,←hnp] at H20
 rw [←hl] at hlen
 rw [←hn,←hnp,←hl]
 have HLEN:=z0 hlen
 clear H hw hn hnp hm hsome he hl hlen
 obtain ⟨L,hL⟩:∃L,L=l.length:=⟨_,rfl⟩
 have HLE:=z0 hL
 clear hL
 go_enter Tryz.func7,Tryz.ntmps7
 go_wp2_with (first|(go_at_call 20;go_loud (refine H20.mono ?_;rintro e w5 ⟨⟨PB,fm,cm,rfl,hP⟩,hb5⟩;have H21':=H21.out w5 PB fm cm hP hb5;clear hP hb5))|(go_at_call 21;go_loud (refine H21'.mono ?_;rintro e w6 ⟨rb,rfl,hrd,h1⟩;obtain ⟨vl,vu,hrb,hus⟩:=hrd.2;obtain ⟨Au,cu,rfl⟩:=Kd.R_slice hus;have r2:w6.cell? ⟨rb,2,none⟩=some (.int .i64 0):=(by have:=cell_of_row _ rb 2 _ _ _ hrb;simpa using this);rw [←HLE.out] at hrb hus;have r1:w6.cell? ⟨rb,1,none⟩=some (.slice Au L cu):=(by have:=cell_of_row _ rb 1 _ _ _ hrb;simpa using this);have H22:=(by have h9:=cloneU_any l Au cu w6 (Kd.R_reads' hus).2.2 HLEN.out;rw [←HLE.out] at h9;exact h9);have HX:=z0 h1;clear h1 hrd hrb hus))|(go_at_call 22;go_loud (refine H22.mono ?_;rintro e w7 ⟨v7,rfl,hr7,hb7⟩;obtain ⟨A7,c7,rfl⟩:=Kd.R_slice hr7;have HY:=z0 (And.intro hr7 hb7);clear hr7 hb7)))
 go_ret2
 exact ⟨_,rfl,below_step HX.out HY.out.2,Kd.R_lower HY.out.1 HX.out.size⟩
end
theorem usR_bad {m:AL}{ps:List ByteArray}{name:ByteArray}(h:erN m name≠0):usR m ps name=[]:=by
 unfold usR usT
 exact if_pos h
theorem Uses_ex {files:List Fl}{ps:List ByteArray}{A Ap:Option Addr}{c cp:Nat}{W:World}(H:ArgsOK W files ps A Ap c cp)(name:ByteArray):
 Calls Tryz.prog 7 #[.slice A files.length c,.string name,.slice Ap ps.length cp] W fun e w'=>∃v,e= .returned (.tuple #[v,.int .i64 (uE files name)])∧Kd.R kUs 34 w' W.heap.size (fun _=>True) v (uL files ps name)∧Below W.heap.size W w':=by
 have H20:=with_any files name A c Ap ps.length cp W H.glob H.fc H.fl (by have:=H.nfl;omega) (fun f hf=>by have:=(H.fsz f hf).1;omega)
 rcases withF_cases files name with ⟨er,he,hw⟩|⟨m,hm,hsome,hw⟩
 · unfold uE uL
   rw [hw] at H20 ⊢
   simp only
   obtain ⟨n,hn⟩:∃n,n=files.length:=⟨_,rfl⟩
   obtain ⟨np,hnp⟩:∃np,np=ps.length:=⟨_,rfl⟩
   rw [←hn,←hnp] at H20
   rw [←hn,←hnp]
   have er0:(er !=0)=true:=by simpa using he
   clear H hw hn hnp he
   go_enter Tryz.func7,Tryz.ntmps7
   go_wp2_with (go_at_call 20;go_loud (refine H20.mono ?_;rintro e w5 ⟨rfl,hb5⟩;have HB5:=z0 hb5;clear hb5))
   go_ret2
   exact ⟨_,rfl,Kd.R_nil _ _ _ _ _,HB5.out⟩
 · by_cases he:erN m name=0
   · refine (Uses_ok H hm name hsome he).mono ?_
     rintro e w' ⟨v,rfl,h1,h2⟩
     unfold uE uL
     rw [hw]
     simp only
     rw [he]
     exact ⟨v,rfl,h2,h1⟩
   · have hu0:=usR_bad (ps:=ps) he
     unfold uE uL
     rw [hw] at H20 ⊢
     simp only
     rw [hu0]
     obtain ⟨er,her⟩:∃er,er=erN m name:=⟨_,rfl⟩
     rw [←her] at he ⊢
     obtain ⟨np,hnp⟩:∃np,np=ps.length:=⟨_,rfl⟩
     have H21:Aside0 (∀(w5:World) (PB fm cm:Nat),PrjIs W.heap.size w5 PB fm cm (.slice Ap np cp) m []→Below W.heap.size W w5→Calls Tryz.prog 21 #[.pointer (some ⟨PB,0,none⟩),.string name] w5 fun e w'=>∃rb,e= .returned (.pointer (some ⟨rb,0,none⟩))∧RdIs W.heap.size w' rb [] er∧Below W.heap.size W w'):=⟨fun w5 PB fm cm hP hb=>by
      rw [hnp] at hP
      refine (read_any m ps Ap cp PB fm cm W w5 name (H.envOK hm) hsome (ps_of_new hP hb)).mono ?_
      rintro e w' ⟨rb,rfl,hr,hps,_⟩
      rw [hu0,←her] at hr
      exact ⟨rb,rfl,hr,hps.below⟩⟩
     obtain ⟨n,hn⟩:∃n,n=files.length:=⟨_,rfl⟩
     rw [←hn,←hnp] at H20
     rw [←hn,←hnp]
     have er0:(er !=0)=true:=bne_iff_ne.mpr he
     clear H hw hn hnp hm hsome he hu0 her
     go_enter Tryz.func7,Tryz.ntmps7
     go_wp2_with (first|(go_at_call 20;go_loud (refine H20.mono ?_;rintro e w5 ⟨⟨PB,fm,cm,rfl,hP⟩,hb5⟩;have H21':=H21.out w5 PB fm cm hP hb5;clear hP hb5))|(go_at_call 21;go_loud (refine H21'.mono ?_;rintro e w6 ⟨rb,rfl,hrd,h1⟩;obtain ⟨vl,vu,hrb,hus⟩:=hrd.2;have r2:w6.cell? ⟨rb,2,none⟩=some (.int .i64 er):=(by have:=cell_of_row _ rb 2 _ _ _ hrb;simpa using this);have HX:=z0 h1;clear h1 hrd hrb hus)))
     go_quiet (fail)
     go_wp2
     go_ret2
     exact ⟨_,rfl,Kd.R_nil _ _ _ _ _,pw_below_drewN HX.out _⟩
end Go.Proofs.YtolaiebjmhieiaaGreatDoor.OScan
end
section
namespace Go.Proofs.YtolaiebjmhieiaaGreatDoor.OScan
open Go.RowKit YtolaiebjmhieiaaGreatDoorW.PrintWords YtolaiebjmhieiaaGreatDoorW.PrintLast YtolaiebjmhieiaaGreatDoorW.PrintMore
open Classical in noncomputable def mAdd (o:List ByteArray) (u:Us):List ByteArray:=if u.2.2.toList=[]∧u.1∉o then o++[u.1] else o
noncomputable def mUs (o:List ByteArray)(us:List Us):List ByteArray:=us.foldl mAdd o
noncomputable def mF (us:ByteArray→List Us)(l:List ByteArray):List ByteArray:=l.foldl (fun o n=>mUs o (us n)) []
theorem mAdd_len (o:List ByteArray)(u:Us):(mAdd o u).length≤o.length+1:=by
 unfold mAdd
 split
 · rw [List.length_append];exact Nat.le_refl _
 · omega
theorem mUs_len:∀(us:List Us) (o:List ByteArray),(mUs o us).length≤o.length+us.length
 |[],o=>Nat.le_refl _
 |u::us,o=>by
  have h:=mUs_len us (mAdd o u)
  have h2:=mAdd_len o u
  rw [List.length_cons]
  show (mUs (mAdd o u) us).length≤_
  omega
theorem mUs_snoc (us:List Us)(o:List ByteArray)(i:Nat)(u:Us)(h:us[i]? =some u):mUs o (us.take (i+1))=mAdd (mUs o (us.take i)) u:=by
 rw [take_snoc us i u h]
 unfold mUs
 rw [List.foldl_append];rfl
theorem mF_snoc (us:ByteArray→List Us)(l:List ByteArray)(i:Nat)(n:ByteArray)(h:l[i]? =some n):mF us (l.take (i+1))=mUs (mF us (l.take i)) (us n):=by
 obtain ⟨hi,e⟩:=List.getElem?_eq_some_iff.1 h
 unfold mF
 rw [List.take_add_one,h,List.foldl_append];rfl
theorem mF_len (us:ByteArray→List Us)(B:Nat)(hB:∀n,(us n).length≤B):∀(l:List ByteArray) (i:Nat),i≤l.length→(mF us (l.take i)).length≤i*B
 |l,0,_=>by simp [mF]
 |l,i+1,h=>by
  have h1:=mF_len us B hB l i (by omega)
  have h2:=mF_snoc us l i l[i] (List.getElem?_eq_getElem (by omega))
  have h3:=mUs_len (us l[i]) (mF us (l.take i))
  have h4:=hB l[i]
  rw [h2,Nat.add_mul,Nat.one_mul]
  omega
def MissW (files:List Fl)(ps:List ByteArray)(name:ByteArray)(er:Int)(l:List ByteArray):Prop:=
 (er≠0∧(∃al,AllW files ps name er al)∧l=[])∨(er=0∧∃m al,openF files=(0,some m)∧AllW files ps name 0 al∧l=mF (usR m ps) al)
theorem MissW.det {files:List Fl}{ps:List ByteArray}{name:ByteArray}{er er':Int}{l l':List ByteArray}(h:MissW files ps name er l)(h':MissW files ps name er' l'):er=er'∧l=l':=by
 rcases h with ⟨h1,⟨_,h2⟩,h3⟩|⟨rfl,m,al,h1,h2,h3⟩<;>rcases h' with ⟨k1,⟨_,k2⟩,k3⟩|⟨rfl,m',al',k1,k2,k3⟩
 · exact ⟨(h2.det k2).1,h3.trans k3.symm⟩
 · exact absurd (h2.det k2).1 h1
 · exact absurd (h2.det k2).1.symm k1
 · obtain rfl:=(h2.det k2).2
   rw [h1] at k1
   obtain rfl:=Option.some.inj (Prod.ext_iff.1 k1).2
   exact ⟨rfl,h3.trans k3.symm⟩
theorem reach_in {us:ByteArray→List ByteArray}{names:List ByteArray}(hus:∀x,∀y∈us x,y∈names){a b:ByteArray}(h:Graph.Reach us a b):a∈names→b∈names:=by
 induction h with
 |refl _=>exact id
 |step h1 _ ih=>exact fun _=>ih (hus _ _ h1)
theorem usR_len4 {W:World}{files:List Fl}{ps:List ByteArray}{A Ap:Option Addr}{c cp:Nat}{m:AL}(H:ArgsOK W files ps A Ap c cp)(hm:openF files=(0,some m))(n:ByteArray)(hn:(txtOf m n).size≤4000):(usR m ps n).length≤40000:=by
 unfold usR usT
 split
 · simp
 · have h1:=usF_len (incsR (txtOf m n)) (filesR m ps n (txtOf m n)) (grR (txtOf m n)) (scanR (txtOf m n)).1.length
   have h2:=(scan_toks (txtOf m n) hn).1
   omega
theorem all_in {W:World}{files:List Fl}{ps:List ByteArray}{A Ap:Option Addr}{c cp:Nat}(H:ArgsOK W files ps A Ap c cp){name:ByteArray}{al:List ByteArray}(h:AllW files ps name 0 al):
 ∃m,openF files=(0,some m)∧al.length≤60∧∀n∈al,∃(k:Nat) (f:Fl),files[k]? =some f∧f.1=n∧findN files n=k:=by
 rcases h with ⟨h0,_⟩|⟨m,met,out,hw,hwk,rfl⟩
 · exact absurd rfl h0
 · rcases r_cases files name with ⟨k0,k1⟩|⟨k0,_,k1⟩|⟨m',k,f,hm,hk,hf,rfl,k1⟩
   · rw [k1] at hw;cases (Prod.ext_iff.1 hw).2
   · rw [k1] at hw;cases (Prod.ext_iff.1 hw).2
   · rw [k1] at hw
     obtain rfl:=Option.some.inj (Prod.ext_iff.1 hw).2
     have hin:=(H.env hm 0 0 0).in_
     have hF:=Graph.found_of_walk (erN m') (gR m' ps) hwk
     have hnm:f.1∈files.map (·.1):=List.mem_map.2 ⟨f,List.mem_of_getElem? hf,rfl⟩
     refine ⟨m',hm,?_,fun n hn=> ?_⟩
     · have h1:=(Graph.walk_len (erN m') (gR m' ps) hin _ _ _ _ _ _ hwk hnm).2
       have h2:=left_le (files.map (·.1)) ([]:List ByteArray)
       rw [List.length_map] at h2
       have h3:=(openF_files hm).2
       simp only [List.length_nil] at h1
       omega
     · have h1:=reach_in hin ((hF.mem n).1 hn) hnm
       obtain ⟨g,hg,rfl⟩:=List.mem_map.1 h1
       obtain ⟨j,hj⟩:=List.getElem?_of_mem hg
       exact ⟨j,g,hj,rfl,find_at hm hj⟩
end Go.Proofs.YtolaiebjmhieiaaGreatDoor.OScan
end
section
namespace Go.Proofs.YtolaiebjmhieiaaGreatDoor.OScan
open Go.RowKit YtolaiebjmhieiaaGreatDoorW.PrintWords YtolaiebjmhieiaaGreatDoorW.PrintLast YtolaiebjmhieiaaGreatDoorW.PrintMore
theorem bytesB_of {x y:ByteArray}(h:x.toList=y.toList):x=y:=by
 rw [ByteArray.toList_eq,ByteArray.toList_eq] at h
 exact Go.WideShapes.bytes_inj h
theorem hasB_l0 (xs:List ByteArray)(a:ByteArray)(hl:xs.length≤100000000):∀(d k i:Nat),i≤xs.length→xs.length-i≤d→d<k→a∉xs.take i→
 ∃r,OKin.smockingref00_Has.l0 k xs a (i:Int)=some r∧((r= -1∧a∉xs)∨∃j:Nat,r=j∧xs[j]? =some a∧a∉xs.take j)
 |d,0,i,_,_,hk,_=>by omega
 |d,k+1,i,h1,hd,hk,hn=>by
  rw [OKin.smockingref00_Has.l0]
  by_cases h:i<xs.length
  · rw [if_pos (by omega),if_pos (by omega)]
    have hrd:rdOf ByteArray.empty xs (i:Int)=xs[i]:=by
     show xs.getD (i:Int).toNat ByteArray.empty=_
     rw [List.getD_eq_getElem?_getD,show (i:Int).toNat=i from rfl,List.getElem?_eq_getElem h];rfl
    rw [hrd]
    by_cases he:xs[i].toList=a.toList
    · rw [if_pos he]
      exact ⟨i,rfl,.inr ⟨i,rfl,by rw [List.getElem?_eq_getElem h,bytesB_of he],hn⟩⟩
    · rw [if_neg he,wr (by omega) (by omega)]
      cases d with
      |zero=>omega
      |succ d=>
       have hn':a∉xs.take (i+1):=fun hm=>by
        rw [List.take_add_one,List.getElem?_eq_getElem h] at hm
        rcases List.mem_append.1 hm with hm|hm
        · exact hn hm
        · have hm':a=xs[i]:=by simpa using hm
          exact he (by rw [hm'])
       exact hasB_l0 xs a hl d k (i+1) (by omega) (by omega) (by omega) hn'
  · rw [if_neg (by omega)]
    have:xs.take i=xs:=List.take_of_length_le (by omega)
    rw [this] at hn
    exact ⟨-1,rfl,.inl ⟨rfl,hn⟩⟩
theorem hasB_any (xs:List ByteArray)(a:ByteArray)(hl:xs.length≤100000000)(w:World)(A:Option Addr)(n c:Nat)(hn:n=xs.length)(hC:Kd.C Kd.string w A n xs)(hc:n≤c):
 ∃r:Int,((r= -1∧a∉xs)∨(decide (r<0)=false∧a∈xs))∧Calls Tryz.prog 19 #[.slice A n c,.string a] w fun e w'=>e= .returned (.int .i64 r)∧Below w.heap.size w w':=by
 obtain ⟨r,hr,hrr⟩:=hasB_l0 xs a hl xs.length (xs.length+1) 0 (by omega) (by omega) (by omega) (by simp)
 subst hn
 refine ⟨r,?_,(OKin.smockingref00_Has.calls (xs.length+1) A c xs a r w hC hc hr).mono fun e w' h=>⟨h.1,h.2.below⟩⟩
 rcases hrr with h|⟨j,h1,h2,_⟩
 · exact .inl h
 · exact .inr ⟨decide_eq_false (by omega),List.mem_of_getElem? h2⟩
theorem KeepT.grown {w w1:World}{b:Nat}{ok:Nat→Prop}{v:Value}{xs:List ByteArray}(h:Kd.R Kd.string 9 w b ok v xs)(hg:w.grownBy w1 v.ownBlock):KeepT w w1:=by
 refine ⟨hg.size,fun k c t hc h1 h2=> ?_⟩
 refine (hg.block k (blk_lt hc) (fun e=> ?_)).trans hc
 obtain ⟨c1,e1⟩:=Kd.R_typed h k e.symm
 exact blk_ty hc e1 h2
theorem mAdd_yes {o:List ByteArray}{u:Us}(h:u.2.2.toList=[])(k:u.1∉o):mAdd o u=o++[u.1]:=by unfold mAdd;exact if_pos ⟨h,k⟩
theorem mAdd_no {o:List ByteArray}{u:Us}(h:¬(u.2.2.toList=[]∧u.1∉o)):mAdd o u=o:=by unfold mAdd;exact if_neg h
theorem rMissing_any {files:List Fl}{ps:List ByteArray}{A Ap:Option Addr}{c cp:Nat}{w:World}(H:ArgsOK w files ps A Ap c cp)(hcp:ps.length≤cp)(name:ByteArray):
 Calls Tryz.prog 12 #[.slice A files.length c,.string name,.slice Ap ps.length cp] w fun e w'=>∃v er l,e= .returned (.tuple #[v,.int .i64 er])∧MissW files ps name er l∧Kd.R Kd.string 9 w' w.heap.size (fun _=>True) v l∧Below w.heap.size w w':=by
 have H10:=rAll_any H hcp name
 have HH:=z0 (And.intro H hcp)
 obtain ⟨n,hn⟩:∃n,n=files.length:=⟨_,rfl⟩
 obtain ⟨np,hnp⟩:∃np,np=ps.length:=⟨_,rfl⟩
 rw [←hn,←hnp] at H10
 rw [←hn,←hnp]
 have HN:=z0 hn
 have HNP:=z0 hnp
 clear H hcp hn hnp
 go_enter Tryz.func12,Tryz.ntmps12
 go_wp2_with (go_at_call 10;go_loud (refine H10.mono ?_;rintro e w5 ⟨v5,e5,l5,rfl,hA,hR,hb5⟩;obtain ⟨A5,c5,e55⟩:=Kd.R_slice hR;obtain ⟨NA,hNA⟩:∃NA,NA=l5.length:=⟨_,rfl⟩;rw [←hNA] at e55;subst e55;have HNA:=z0 hNA;have HA:=z0 hA;have HR5:=z0 hR;have HB5:=z0 hb5;clear hA hR hb5 hNA))
 · rename_i h5
   have h5':e5≠0:=by simpa using h5
   go_ret2
   exact ⟨_,e5,[],rfl,.inl ⟨h5',⟨_,HA.out⟩,rfl⟩,Kd.R_nil _ _ _ _ _,HB5.out⟩
 · rename_i h5 _ _
   have h5':e5=0:=by simpa using h5
   subst h5'
   clear h5
   obtain ⟨m,hm,hl60,hin⟩:=all_in HH.out.1 HA.out
   have hB40:∀x,(usR m ps x).length≤40000:=fun x=>usR_len4 HH.out.1 hm x (HH.out.1.text hm x)
   have HM:=z0 hm
   have HL60:=z0 hl60
   have HIN:=z0 hin
   have HB40:=z0 hB40
   clear hm hl60 hin hB40
   have hna:NA≤60:=by rw [HNA.out];exact HL60.out
   go_loopg [10,11,12,13,14] NA (fun kq v10 v11 v12 v13 v14 w'=>∃(i:Nat),v11= .int .i64 i∧Aside0 (kq+i=NA)∧Aside0 (Kd.R Kd.string 9 w' w5.heap.size (fun _=>True) v10 (mF (usR m ps) (l5.take i)))∧Aside0 (Below w5.heap.size w5 w'))
   case atStart=>exact ⟨0,rfl,⟨rfl⟩,⟨Kd.R_nil _ _ _ _ _⟩,⟨Below.refl _ _⟩⟩
   case round=>
    obtain ⟨i,rfl,hki,hR,hB⟩:=hrel
    have hki':=hki.out
    obtain ⟨A8,c8,e8⟩:=Kd.R_slice hR.out
    obtain ⟨O,hO⟩:∃O,O=mF (usR m ps) (l5.take i):=⟨_,rfl⟩
    have HOL:Aside0 (O.length≤i*40000):=⟨by rw [hO];exact mF_len _ 40000 HB40.out l5 i (by rw [←HNA.out];omega)⟩
    rw [←hO] at hR e8
    obtain ⟨o8,ho8⟩:∃o8,o8=O.length:=⟨_,rfl⟩
    rw [←ho8] at e8
    subst e8
    have HO:=z0 hO
    have HO8:=z0 ho8
    clear hO ho8
    cases gk with
    |zero=>
     obtain rfl:i=NA:=by omega
     have hlt:decide ((i:Int)<(i:Int))=false:=decide_eq_false (by omega)
     go_wp2
     go_ret2
     refine ⟨_,0,_,rfl,.inr ⟨rfl,m,l5,HM.out,HA.out,rfl⟩,?_,below_step HB5.out hB.out⟩
     have h:=hR.out
     rw [HO.out,List.take_of_length_le (by rw [HNA.out];exact Nat.le_refl _)] at h
     exact Kd.R_lower h HB5.out.size
    |succ g1=>
     have hlt:decide ((i:Int)<(NA:Int))=true:=decide_eq_true (by omega)
     have hin:i<NA:=by omega
     have hii:(0:Int)≤(i:Int):=by omega
     obtain ⟨x,hx⟩:∃x,l5[i]? =some x:=⟨_,List.getElem?_eq_getElem (by rw [←HNA.out];exact hin)⟩
     obtain ⟨k,f,hf,hfx,hk⟩:=HIN.out x (List.mem_of_getElem? hx)
     have hCa:Kd.C Kd.string wr A5 NA l5:=by have h:=(Kd.R_reads' (Kd.R_below HR5.out hB.out)).2.2;rwa [←HNA.out] at h
     obtain ⟨ad5,hA5,hc5⟩:=str_at hCa i hin x hx
     obtain rfl:=hA5
     rw [Nat.mul_one] at hc5
     have HBW:Aside0 (Below w.heap.size w wr):=⟨below_step HB5.out hB.out⟩
     have H24:Calls Tryz.prog 24 #[.slice A n c,.string x] wr fun e w'=>e= .returned (.int .i64 (k:Int))∧Below wr.heap.size wr w':=by
      have h:=rFind_any files x wr A c (Kd.C_below HH.out.1.fc HBW.out) HH.out.1.fl (by have:=HH.out.1.nfl;omega)
      rwa [hk,←HN.out] at h
     obtain ⟨U,hU⟩:∃U,U=usR m ps x:=⟨_,rfl⟩
     obtain ⟨NU,hNU⟩:∃NU,NU=U.length:=⟨_,rfl⟩
     have hnu:NU≤40000:=by rw [hNU,hU];exact HB40.out x
     have H25:Aside0 (∀W:World,Below w.heap.size w W→Calls Tryz.prog 25 #[.slice A n c,.int .i64 (k:Int),.slice Ap np cp] W fun e w'=>∃v er,e= .returned (.tuple #[v,.int .i64 er])∧Kd.R kUs 33 w' W.heap.size (fun _=>True) v U∧Below W.heap.size W w'):=⟨fun W hb=>by
      have h:=rUses_any (HH.out.1.below hb) HH.out.2 k f hf
      rw [us_eq HM.out ps hf,hfx,←hU,←HN.out,←HNP.out] at h
      exact h.mono fun e w' ⟨v,h1,h2,h3⟩=>⟨v,_,h1,h2,h3⟩⟩
     have HX:=z0 hx
     have HU:=z0 hU
     have HNU:=z0 hNU
     clear hx hf hfx hk hCa hU hNU
     go_wp2_with (first|(go_at_call 24;go_loud (refine H24.mono ?_;rintro e w6 ⟨rfl,hb6⟩;have HB6:=z0 hb6;have HBW6:=z0 (below_step HBW.out hb6);clear hb6))|(go_at_call 25;go_loud (refine (H25.out _ HBW6.out).mono ?_;rintro e w7 ⟨v7,e7,rfl,hR7,hb7⟩;obtain ⟨A7,c7,e77⟩:=Kd.R_slice hR7;rw [←HNU.out] at e77;subst e77;have HR7:=z0 hR7;have HB7:=z0 (below_step (below_step hB.out HB6.out) hb7);have HS7:=z0 (Kd.R_below (Kd.R_below hR.out HB6.out) hb7);clear hR7 hb7)))
     go_loopg [10,14] NU (fun kq v10 v14 w'=>∃(j:Nat),v14= .int .i64 j∧Aside0 (kq+j=NU)∧Aside0 (Kd.R Kd.string 9 w' w5.heap.size (fun _=>True) v10 (mUs O (U.take j)))∧Aside0 (Below w5.heap.size w5 w')∧Aside0 (KeepT w7 w'))
     case atStart=>exact ⟨0,rfl,⟨rfl⟩,HS7,HB7,⟨KeepT.refl _⟩⟩
     case round=>
      obtain ⟨j,rfl,hkj,hRj,hBj,hKj⟩:=hrel
      have hkj':=hkj.out
      obtain ⟨A9,c9,e9⟩:=Kd.R_slice hRj.out
      obtain ⟨X,hX⟩:∃X,X=mUs O (U.take j):=⟨_,rfl⟩
      have HXL:Aside0 (X.length≤100000000-2):=⟨by
       have h1:=mUs_len (U.take j) O
       rw [←hX,List.length_take] at h1
       have h2:=HOL.out
       have h3:=HL60.out
       have h4:=HNA.out
       have h5:=HNU.out
       have h6:i*40000≤60*40000:=Nat.mul_le_mul_right _ (by omega)
       omega⟩
      rw [←hX] at hRj e9
      obtain ⟨o9,ho9⟩:∃o9,o9=X.length:=⟨_,rfl⟩
      rw [←ho9] at e9
      subst e9
      have HX9:=z0 hX
      have HO9:=z0 ho9
      clear hX ho9
      cases gk with
      |zero=>
       obtain rfl:j=NU:=by omega
       have hltj:decide ((j:Int)<(j:Int))=false:=decide_eq_false (by omega)
       go_wp2
       go_roundg g1
       case measure=>omega
       case rel=>
        refine ⟨i+1,(by first|rfl|simp),⟨by omega⟩,⟨?_⟩,hBj⟩
        have h:=hRj.out
        rw [HX9.out,List.take_of_length_le (by rw [HNU.out];exact Nat.le_refl _),HO.out,HU.out,←mF_snoc _ _ _ _ HX.out] at h
        exact h
      |succ g2=>
       have hltj:decide ((j:Int)<(NU:Int))=true:=decide_eq_true (by omega)
       have hjn:j<NU:=by omega
       have hjj:(0:Int)≤(j:Int):=by omega
       obtain ⟨u,hu⟩:∃u,U[j]? =some u:=⟨_,List.getElem?_eq_getElem (by rw [←HNU.out];exact hjn)⟩
       have hCu:Kd.C kUs wr A7 NU U:=by have h:=(Kd.R_reads' (R_keepT HR7.out hKj.out)).2.2;rwa [←HNU.out] at h
       obtain ⟨ad7,hA7,hu0,_,hu2⟩:=us_at hCu j hjn u hu
       obtain rfl:=hA7
       have hms:=mUs_snoc U O j u hu
       rw [←HX9.out] at hms
       obtain ⟨rr,hrr,H19⟩:=hasB_any X u.1 (by have:=HXL.out;omega) wr A9 o9 c9 HO9.out (by have h:=(Kd.R_reads' hRj.out).2.2;rwa [←HO9.out] at h) (by have h:=(Kd.R_reads' hRj.out).2.1;exact h)
       obtain ⟨u1,u2,u3⟩:=u
       simp only at hu0 hu2 H19 hrr hms
       have HU2:=z0 hu
       clear hu hCu
       by_cases hz:u3.toList=([]:List UInt8)
       · have hz':(u3.toList==([]:List UInt8))=true:=beq_iff_eq.mpr hz
         rcases hrr with ⟨rfl,hno⟩|⟨hrd,hyes⟩
         · have hms2:=hms.trans (mAdd_yes (u:=(u1,u2,u3)) hz hno)
           have HMS:=z0 hms2
           clear hz hms hno hms2
           go_wp2_with (first|(go_at_call 19;go_loud (refine H19.mono ?_;rintro e w9 ⟨rfl,hb9⟩;have HB9:=z0 (below_step hBj.out hb9);have HS9:=z0 (Kd.R_below hRj.out hb9);have HK9:=z0 (hKj.out.trans (KeepT.of_below hb9));have hu0':=(hb9.cell (World.block_lt_of_cell? _ _ hu0)).trans hu0;have hu2':=(hb9.cell (World.block_lt_of_cell? _ _ hu2)).trans hu2;clear hb9))|(at_builtin;go_loud (refine Kd.R_append Kd.string (w0:=w5) w5.heap.size rfl (.tmp 65) (.tmp 71) 23 9 (.string ⟨#[]⟩) 16 rfl under23 (by kernel_rfl) rfl (by decide) (by omega) (.slice A9 o9 c9) X u1 [.string u1] (fun _=>True) (fun _=>False) rfl (by rw [HO9.out];rfl) rfl (fun _ hk=>hk.elim) (fun _ _=>trivial) HS9.out HB9.out (below_size HB9.out) ?aL ?_;(case aL=>have:=HXL.out;omega);intro v1 w10 ho hb10 hg10 _;have HR10:=z0 ho;have HB10:=z0 hb10;have HK10:=z0 (HK9.out.trans (KeepT.grown HS9.out hg10));clear ho hb10 hg10)))
           go_roundg g2
           case measure=>omega
           case rel=>exact ⟨j+1,(by first|rfl|simp),⟨by omega⟩,⟨by rw [HMS.out];exact HR10.out⟩,HB10,HK10⟩
         · have hms2:=hms.trans (mAdd_no (u:=(u1,u2,u3)) (fun h=>h.2 hyes))
           have HMS:=z0 hms2
           clear hz hms hyes hms2
           go_wp2_with (go_at_call 19;go_loud (refine H19.mono ?_;rintro e w9 ⟨rfl,hb9⟩;have HB9:=z0 (below_step hBj.out hb9);have HS9:=z0 (Kd.R_below hRj.out hb9);have HK9:=z0 (hKj.out.trans (KeepT.of_below hb9));have hu0':=(hb9.cell (World.block_lt_of_cell? _ _ hu0)).trans hu0;have hu2':=(hb9.cell (World.block_lt_of_cell? _ _ hu2)).trans hu2;clear hb9))
           go_roundg g2
           case measure=>omega
           case rel=>exact ⟨j+1,(by first|rfl|simp),⟨by omega⟩,⟨by rw [HMS.out];exact HS9.out⟩,HB9,HK9⟩
       · have hz':(u3.toList==([]:List UInt8))=false:=beq_eq_false_iff_ne.mpr hz
         have hms2:=hms.trans (mAdd_no (u:=(u1,u2,u3)) (fun h=>hz h.1))
         have HMS:=z0 hms2
         clear hz hms hrr H19 hms2
         go_wp2
         go_roundg g2
         case measure=>omega
         case rel=>exact ⟨j+1,(by first|rfl|simp),⟨by omega⟩,⟨by rw [HMS.out];exact hRj.out⟩,hBj,hKj⟩
end Go.Proofs.YtolaiebjmhieiaaGreatDoor.OScan
end
section
namespace Go.Proofs.YtolaiebjmhieiaaGreatDoor.OScan
open Go.RowKit YtolaiebjmhieiaaGreatDoorW.PrintWords YtolaiebjmhieiaaGreatDoorW.PrintLast YtolaiebjmhieiaaGreatDoorW.PrintMore
open Go.Sort (putRow putCells mapBlock onCells Holds grow)
structure PutQ {α:Type}(enc:α→Value)(w W':World)(g e:Nat)(cur:Array Value)(d:Array α):Prop where
 row:∃cur',W'.heap[g]? =some (.cells cur' e (0,0))∧cur'.size=cur.size∧cur'.toList.take d.size=d.toList.map enc
 keep:∀k,k<w.heap.size→k≠g→W'.heap[k]? =w.heap[k]?
 size:w.heap.size≤W'.heap.size
 os:W'.os=w.os
 tape:W'.tape=w.tape
 output:W'.output=w.output
end Go.Proofs.YtolaiebjmhieiaaGreatDoor.OScan
end
section
namespace Go.Proofs.YtolaiebjmhieiaaGreatDoor.OScan
open Go.RowKit YtolaiebjmhieiaaGreatDoorW.PrintWords YtolaiebjmhieiaaGreatDoorW.PrintLast YtolaiebjmhieiaaGreatDoorW.PrintMore
section
variable {W:World}{files:List Fl}{ps:List ByteArray}{A Ap:Option Addr}{c cp:Nat}{m:AL}
theorem R_far9 {w w':World}{base:Nat}{v:Value}{xs:List ByteArray}(h:Kd.R Kd.string 9 w base (fun _=>True) v xs)(hk:∀(k:Nat) (cs:Array Value),w.heap[k]? =some (Obj.cells cs 9 (0,0))→w'.heap[k]? =w.heap[k]?):Kd.R Kd.string 9 w' base (fun _=>True) v xs:=
 Kd.R_mono (Kd.R_step (Kd.R_bound h) (fun k ho _=>by
  obtain ⟨_,_,_,q,hq,cs,hc⟩:=ho
  obtain rfl:q=9:=by
   rcases List.mem_cons.1 hq with h|h
   · exact h
   · exact absurd (show q∈([]:List Nat) from h) (by simp)
  exact hk _ _ hc)) (fun _ _=>trivial)
theorem all_ok (H:ArgsOK W files ps A Ap c cp)(hm:openF files=(0,some m))(hall:∀f∈files,erN m f.1=0)(PB fm cm:Nat)(name:ByteArray)(hn:(alGet m name).isSome=true)(w:World)(P:PS (usR m ps) (erN m) W m (.slice Ap ps.length cp) PB fm cm w):
 Calls Tryz.prog 26 #[.pointer (some ⟨PB,0,none⟩),.string name] w fun e w'=>∃(out:List ByteArray) (v:Value),e= .returned (.tuple #[v,.int .i64 0])∧Graph.Found (erN m) (gR m ps) name out∧Kd.R Kd.string 9 w' w.heap.size (fun _=>True) v out∧PS (usR m ps) (erN m) W m (.slice Ap ps.length cp) PB fm cm w'∧w.heap.size≤w'.heap.size∧(∀k,k<w.heap.size→k≠cm→w'.heap[k]? =w.heap[k]?)∧out.length≤1000:=by
 have E:=H.env hm PB fm cm
 refine (all_any E name w hn P).mono ?_
 rintro e w' ⟨er',met',out',v',rfl,hw,hr,hps,hs,hk⟩
 have h0:er'=0:=Graph.walk_ok (erN m) (fun n=>fsOf (usR m ps n)) (names:=files.map (·.1)) (fun x hx=>by
  obtain ⟨f,hf,rfl⟩:=List.mem_map.1 hx
  exact hall f hf) E.in_ _ _ _ _ _ _ hw (E.nm name hn)
 subst h0
 rw [if_pos rfl] at hr
 have h1:=(Graph.walk_len (erN m) (fun n=>fsOf (usR m ps n)) E.in_ _ _ _ _ _ _ hw (E.nm name hn)).2
 have h2:=left_le (files.map (·.1)) []
 have h3:=E.small
 simp only [List.length_nil] at h1
 exact ⟨out',v',rfl,Graph.found_of_walk (erN m) (gR m ps) hw,hr,hps,hs,hk,by omega⟩
theorem R_own9 {w:World}{base:Nat}{v:Value}{xs:List ByteArray}(h:Kd.R Kd.string 9 w base (fun _=>True) v xs):∀k,some k=v.ownBlock→base≤k∧∃cs,w.heap[k]? =some (Obj.cells cs 9 (0,0)):=fun k hk=>by
 obtain ⟨inner,ho⟩:=Kd.R_own h
 exact ⟨own_base ho k hk.symm,Kd.R_typed h k hk.symm⟩
theorem PS.grown9 {us:ByteArray→List Us}{er:ByteArray→Int}{w0:World}{m:AL}{pv:Value}{PB fm cm:Nat}{w w':World}{v:Value}{base:Nat}{xs:List ByteArray}(P:PS us er w0 m pv PB fm cm w)(hR:Kd.R Kd.string 9 w base (fun _=>True) v xs)(hb:Below w0.heap.size w0 w')(hg:∀k,k<w.heap.size→some k≠v.ownBlock→w'.heap[k]? =w.heap[k]?):PS us er w0 m pv PB fm cm w':=by
 obtain ⟨c,hP,_⟩:=P.prj
 have hcell:∀{k t:Nat} {cs:Array Value},w.heap[k]? =some (.cells cs t (0,0))→t≠9→w'.heap[k]? =w.heap[k]? :=fun {k t cs} h ht=>hg k (blk_lt h) (Kd.R_ne hR h (by omega))
 have hmap:∀{k:Nat} {es:Array MapEntry} {cl:Nat},w.heap[k]? =some (.map es cl)→w'.heap[k]? =w.heap[k]? :=fun {k es cl} h=>hg k (heap_lt h) (fun hk=>by
  obtain ⟨_,cs,h2⟩:=R_own9 hR k hk
  rw [h] at h2
  cases h2)
 refine P.kept hb (fun k hk=> ?_)
 rcases hk with rfl|rfl|rfl|⟨cs,h|h⟩
 · exact hcell hP.hP (by decide)
 · obtain ⟨es,cl,h,_⟩:=hP.hm;exact hmap h
 · obtain ⟨es,cl,h,_⟩:=hP.hc;exact hmap h
 · exact hcell h (by decide)
 · exact hcell h (by decide)
end
theorem idxB_l0 (xs:List ByteArray)(a:ByteArray)(hl:xs.length≤100000000):∀(d k i:Nat),i≤xs.length→xs.length-i≤d→d<k→a∉xs.take i→
 ∃r,OCond.slices_Index_string_string.l0 k xs a (xs.length:Int) (i:Int)=some r∧((r= -1∧a∉xs)∨∃j:Nat,r=j∧xs[j]? =some a∧a∉xs.take j)
 |d,0,i,_,_,hk,_=>by omega
 |d,k+1,i,h1,hd,hk,hn=>by
  rw [OCond.slices_Index_string_string.l0]
  by_cases h:i<xs.length
  · rw [if_pos (by omega),if_pos (by omega),if_pos (by omega)]
    have hrd:rdOf ByteArray.empty xs (i:Int)=xs[i]:=by
     show xs.getD (i:Int).toNat ByteArray.empty=_
     rw [List.getD_eq_getElem?_getD,show (i:Int).toNat=i from rfl,List.getElem?_eq_getElem h];rfl
    rw [hrd]
    by_cases he:a.toList=xs[i].toList
    · rw [if_pos he]
      exact ⟨i,rfl,.inr ⟨i,rfl,by rw [List.getElem?_eq_getElem h,bytesB_of he],hn⟩⟩
    · rw [if_neg he,wr (by omega) (by omega)]
      cases d with
      |zero=>omega
      |succ d=>
       have hn':a∉xs.take (i+1):=fun hm=>by
        rw [List.take_add_one,List.getElem?_eq_getElem h] at hm
        rcases List.mem_append.1 hm with hm|hm
        · exact hn hm
        · have hm':a=xs[i]:=by simpa using hm
          exact he (by rw [hm'])
       exact idxB_l0 xs a hl d k (i+1) (by omega) (by omega) (by omega) hn'
  · rw [if_neg (by omega)]
    have:xs.take i=xs:=List.take_of_length_le (by omega)
    rw [this] at hn
    exact ⟨-1,rfl,.inl ⟨rfl,hn⟩⟩
theorem contB_any (xs:List ByteArray)(a:ByteArray)(hl:xs.length≤100000000)(w:World)(A:Option Addr)(n c:Nat)(hn:n=xs.length)(hC:Kd.C Kd.string w A n xs)(hc:n≤c):
 ∃b:Bool,(b=true↔a∈xs)∧Calls Tryz.prog 28 #[.slice A n c,.string a] w fun e w'=>e= .returned (.bool b)∧∃q,w'=w.drewN q:=by
 obtain ⟨r,hr,hrr⟩:=idxB_l0 xs a hl xs.length (xs.length+1) 0 (by omega) (by omega) (by omega) (by simp)
 subst hn
 refine ⟨decide (r≥0),?_,(OCond.slices_Contains_string_string.calls (xs.length+1) A c xs a _ w hC hc (by unfold OCond.slices_Contains_string_string.f;rw [show OCond.slices_Index_string_string.f (xs.length+1) xs a=some r from hr];rfl)).mono fun e w' h=>⟨h.1,h.2.out⟩⟩
 rcases hrr with ⟨rfl,h⟩|⟨j,rfl,h2,_⟩
 · exact ⟨fun h3=>absurd h3 (by simp),fun h3=>absurd h3 h⟩
 · exact ⟨fun _=>List.mem_of_getElem? h2,fun _=>decide_eq_true (by omega)⟩
theorem R_keepT34 {w w':World}{b:Nat}{v:Value}{xs:List Us}(h:Kd.R kUs 34 w b (fun _=>True) v xs)(k:KeepT w w'):Kd.R kUs 34 w' b (fun _=>True) v xs:=by
 refine Kd.R_mono (Kd.R_move (Kd.R_bound h) (fun j hj=> ?_)) (fun _ _=>trivial)
 obtain ⟨_,_,_,q,hq,c,hc⟩:=hj
 obtain rfl:q=34:=by
  rcases List.mem_cons.1 hq with h|h
  · exact h
  · rw [show kUs.E=[] from rfl] at h;cases h
 rw [hc]
 exact k.2 j c 34 hc (by decide) (by decide)
theorem below_lowZ {w0 w9 w10:World}{b b6:Nat}(h:Below b w0 w9)(hb:b≤b6)(h2:Below b6 w9 w10):Below b w0 w10:=
 ⟨h2.os.trans h.os,h2.tape.trans h.tape,h2.output.trans h.output,by have:=h.size;have:=h2.size;omega,fun k hk=>(h2.block k (by omega)).trans (h.block k hk)⟩
theorem farB {w6 w w':World}{cm:Nat}(h:w6.heap.size≤w.heap.size∧∀k,k<w6.heap.size→k≠cm→w.heap[k]? =w6.heap[k]?)(hb:Below w.heap.size w w'):w6.heap.size≤w'.heap.size∧∀k,k<w6.heap.size→k≠cm→w'.heap[k]? =w6.heap[k]? :=
 ⟨Nat.le_trans h.1 hb.size,fun k h1 h2=>(hb.block k (Nat.lt_of_lt_of_le h1 h.1)).trans (h.2 k h1 h2)⟩
theorem Missing_ex {files:List Fl}{ps:List ByteArray}{A Ap:Option Addr}{c cp:Nat}{W:World}(H:ArgsOK W files ps A Ap c cp)(name:ByteArray):
 Calls Tryz.prog 11 #[.slice A files.length c,.string name,.slice Ap ps.length cp] W fun e w'=>∃v er l,e= .returned (.tuple #[v,.int .i64 er])∧MissW files ps name er l∧Kd.R Kd.string 9 w' W.heap.size (fun _=>True) v l∧Below W.heap.size W w':=by
 have H20:=with_any files name A c Ap ps.length cp W H.glob H.fc H.fl (by have:=H.nfl;omega) (fun f hf=>by have:=(H.fsz f hf).1;omega)
 have HH:=z0 H
 obtain ⟨n,hn⟩:∃n,n=files.length:=⟨_,rfl⟩
 obtain ⟨np,hnp⟩:∃np,np=ps.length:=⟨_,rfl⟩
 rcases withF_cases files name with ⟨er,he,hw⟩|⟨m,hm,hsome,hw⟩
 · have HA:Aside0 (MissW files ps name er []):=⟨.inl ⟨he,⟨[],.inl ⟨he,hw,rfl⟩⟩,rfl⟩⟩
   rw [hw,←hn,←hnp] at H20
   rw [←hn,←hnp]
   have er0:(er !=0)=true:=by simpa using he
   clear H hw hn hnp he
   go_enter Tryz.func11,Tryz.ntmps11
   go_wp2_with (go_at_call 20;go_loud (refine H20.mono ?_;rintro e w5 ⟨rfl,hb5⟩;have HB5:=z0 hb5;clear hb5))
   go_ret2
   exact ⟨_,er,[],rfl,HA.out,Kd.R_nil _ _ _ _ _,HB5.out⟩
 · have H26:Aside0 (∀(w5:World) (PB fm cm:Nat),PrjIs W.heap.size w5 PB fm cm (.slice Ap np cp) m []→Below W.heap.size W w5→Calls Tryz.prog 26 #[.pointer (some ⟨PB,0,none⟩),.string name] w5 fun e w'=>∃v er l,e= .returned (.tuple #[v,.int .i64 er])∧AllW files ps name er l∧Kd.R Kd.string 9 w' W.heap.size (fun _=>True) v l∧PS (usR m ps) (erN m) W m (.slice Ap np cp) PB fm cm w'):=⟨fun w5 PB fm cm hP5 hb=>by
    rw [hnp] at hP5
    refine (all_any (HH.out.env hm PB fm cm) name w5 hsome (ps_of_new hP5 hb)).mono ?_
    rintro e w' ⟨er',met',out',v',rfl,hw2,hr,hps,hsz,hk⟩
    exact ⟨v',er',_,rfl,.inr ⟨m,met',out',hw,hw2,rfl⟩,Kd.R_lower hr hb.size,by rw [hnp];exact hps⟩⟩
   have H21:Aside0 (∀(x:ByteArray) (PB fm cm:Nat) (w:World),(alGet m x).isSome=true→PS (usR m ps) (erN m) W m (.slice Ap np cp) PB fm cm w→Calls Tryz.prog 21 #[.pointer (some ⟨PB,0,none⟩),.string x] w fun e w'=>∃rb,e= .returned (.pointer (some ⟨rb,0,none⟩))∧RdIs W.heap.size w' rb (usR m ps x) (erN m x)∧PS (usR m ps) (erN m) W m (.slice Ap np cp) PB fm cm w'∧w.heap.size≤w'.heap.size∧∀k,k<w.heap.size→k≠cm→w'.heap[k]? =w.heap[k]?):=⟨fun x PB fm cm w hx P=>by
    rw [hnp] at P ⊢
    exact read_any m ps Ap cp PB fm cm W w x (HH.out.envOK hm) hx P⟩
   rw [hw,←hn,←hnp] at H20
   rw [←hn,←hnp]
   have HM:=z0 hm
   clear H hw hn hnp hm hsome
   go_enter Tryz.func11,Tryz.ntmps11
   go_wp2_with (first|(go_at_call 20;go_loud (refine H20.mono ?_;rintro e w5 ⟨⟨PB,fm,cm,rfl,hP⟩,hb5⟩;have H26':=H26.out w5 PB fm cm hP hb5;clear hP hb5))|(go_at_call 26;go_loud (refine H26'.mono ?_;rintro e w6 ⟨v6,e6,l6,rfl,hA,hR,hps⟩;obtain ⟨A6,c6,e66⟩:=Kd.R_slice hR;obtain ⟨NA,hNA⟩:∃NA,NA=l6.length:=⟨_,rfl⟩;rw [←hNA] at e66;subst e66;have HNA:=z0 hNA;have HA:=z0 hA;have HR6:=z0 hR;have HP6:=z0 hps;clear hA hR hps hNA)))
   · rename_i h5
     have h5':e6≠0:=by simpa using h5
     go_ret2
     exact ⟨_,e6,[],rfl,.inl ⟨h5',⟨_,HA.out⟩,rfl⟩,Kd.R_nil _ _ _ _ _,HP6.out.below⟩
   · rename_i h5 _ _
     have h5':e6=0:=by simpa using h5
     subst h5'
     clear h5
     obtain ⟨m2,hm2,hl60,hin⟩:=all_in HH.out HA.out
     obtain rfl:m2=m:=Option.some.inj (Prod.ext_iff.1 (hm2.symm.trans HM.out)).2
     have hna:NA≤60:=by rw [HNA.out];exact hl60
     have HB40:Aside0 (∀x,(usR m2 ps x).length≤40000):=⟨fun x=>usR_len4 HH.out HM.out x (HH.out.text HM.out x)⟩
     have HIN:Aside0 (∀x∈l6,(alGet m2 x).isSome=true):=⟨fun x hx=>by
      obtain ⟨k,f,hf,e,_⟩:=hin x hx
      rw [←e]
      exact (open_get HM.out).2 f (List.mem_of_getElem? hf)⟩
     clear hl60 hin hm2
     go_loopg [11,37] NA (fun kq v11 v37 w'=>∃(i:Nat),v37= .int .i64 i∧Aside0 (kq+i=NA)∧Aside0 (Kd.R Kd.string 9 w' w6.heap.size (fun _=>True) v11 (mF (usR m2 ps) (l6.take i)))∧Aside0 (PS (usR m2 ps) (erN m2) W m2 (.slice Ap np cp) PB fm cm w')∧Aside0 (w6.heap.size≤w'.heap.size∧∀k,k<w6.heap.size→k≠cm→w'.heap[k]? =w6.heap[k]?))
     case atStart=>exact ⟨0,rfl,⟨rfl⟩,⟨Kd.R_nil _ _ _ _ _⟩,HP6,⟨Nat.le_refl _,fun _ _ _=>rfl⟩⟩
     case round=>
      obtain ⟨i,rfl,hki,hR,hP,hF⟩:=hrel
      have hki':=hki.out
      obtain ⟨A8,c8,e8⟩:=Kd.R_slice hR.out
      obtain ⟨O,hO⟩:∃O,O=mF (usR m2 ps) (l6.take i):=⟨_,rfl⟩
      have HOL:Aside0 (O.length≤i*40000):=⟨by rw [hO];exact mF_len _ 40000 HB40.out l6 i (by rw [←HNA.out];omega)⟩
      rw [←hO] at hR e8
      obtain ⟨o8,ho8⟩:∃o8,o8=O.length:=⟨_,rfl⟩
      rw [←ho8] at e8
      subst e8
      have HO:=z0 hO
      have HO8:=z0 ho8
      clear hO ho8
      cases gk with
      |zero=>
       obtain rfl:i=NA:=by omega
       have hlt:decide ((i:Int)<(i:Int))=false:=decide_eq_false (by omega)
       go_wp2
       go_ret2
       refine ⟨_,0,_,rfl,.inr ⟨rfl,m2,l6,HM.out,HA.out,rfl⟩,?_,hP.out.below⟩
       have h:=hR.out
       rw [HO.out,List.take_of_length_le (by rw [HNA.out];exact Nat.le_refl _)] at h
       exact Kd.R_lower h HP6.out.below.size
      |succ g1=>
       have hlt:decide ((i:Int)<(NA:Int))=true:=decide_eq_true (by omega)
       have hin:i<NA:=by omega
       have hii:(0:Int)≤(i:Int):=by omega
       obtain ⟨x,hx⟩:∃x,l6[i]? =some x:=⟨_,List.getElem?_eq_getElem (by rw [←HNA.out];exact hin)⟩
       have hCa:Kd.C Kd.string wr A6 NA l6:=by
        have h:=(Kd.R_reads' (R_far9 HR6.out (fun k cs hk=>hF.out.2 k (blk_lt hk) (HP6.out.cell_ne hk (by decide)).2.2))).2.2
        rwa [←HNA.out] at h
       obtain ⟨ad6,hA6,hc6⟩:=str_at hCa i hin x hx
       obtain rfl:=hA6
       rw [Nat.mul_one] at hc6
       have H21x:=H21.out x PB fm cm wr (HIN.out x (List.mem_of_getElem? hx)) hP.out
       obtain ⟨U,hU⟩:∃U,U=usR m2 ps x:=⟨_,rfl⟩
       obtain ⟨NU,hNU⟩:∃NU,NU=U.length:=⟨_,rfl⟩
       have hnu:NU≤40000:=by rw [hNU,hU];exact HB40.out x
       rw [←hU] at H21x
       have HX:=z0 hx
       have HU:=z0 hU
       have HNU:=z0 hNU
       clear hx hCa hU hNU
       go_wp2_with (go_at_call 21;go_loud (refine H21x.mono ?_;rintro e w7 ⟨rb,rfl,hrd,hp7,hs7,hk7⟩;obtain ⟨vl,vu,hrb,hus⟩:=hrd.2;obtain ⟨A7,c7,e77⟩:=Kd.R_slice hus;rw [←HNU.out] at e77;subst e77;have r1:w7.cell? ⟨rb,1,none⟩=some (.slice A7 NU c7):=(by have:=cell_of_row _ rb 1 _ _ _ hrb;simpa using this);have HR7:=z0 hus;have HP7:=z0 hp7;have HS7:=z0 (R_far9 hR.out (fun k cs hk=>hk7 k (blk_lt hk) (hP.out.cell_ne hk (by decide)).2.2));have HF7:Aside0 (w6.heap.size≤w7.heap.size∧∀k,k<w6.heap.size→k≠cm→w7.heap[k]? =w6.heap[k]?):=⟨⟨Nat.le_trans hF.out.1 hs7,fun k h1 h2=>(hk7 k (Nat.lt_of_lt_of_le h1 hF.out.1) h2).trans (hF.out.2 k h1 h2)⟩⟩;clear hrd hrb hus hp7 hs7 hk7))
       go_loopg [11,48] NU (fun kq v11 v48 w'=>∃(j:Nat),v48= .int .i64 j∧Aside0 (kq+j=NU)∧Aside0 (Kd.R Kd.string 9 w' w6.heap.size (fun _=>True) v11 (mUs O (U.take j)))∧Aside0 (PS (usR m2 ps) (erN m2) W m2 (.slice Ap np cp) PB fm cm w')∧Aside0 (w6.heap.size≤w'.heap.size∧∀k,k<w6.heap.size→k≠cm→w'.heap[k]? =w6.heap[k]?)∧Aside0 (KeepT w7 w'))
       case atStart=>exact ⟨0,rfl,⟨rfl⟩,HS7,HP7,HF7,⟨KeepT.refl _⟩⟩
       case round=>
        obtain ⟨j,rfl,hkj,hRj,hPj,hFj,hKj⟩:=hrel
        have hkj':=hkj.out
        obtain ⟨A9,c9,e9⟩:=Kd.R_slice hRj.out
        obtain ⟨X,hX⟩:∃X,X=mUs O (U.take j):=⟨_,rfl⟩
        have HXL:Aside0 (X.length≤100000000-2):=⟨by
         have h1:=mUs_len (U.take j) O
         rw [←hX,List.length_take] at h1
         have h2:=HOL.out
         have h5:=HNU.out
         have h6:i*40000≤60*40000:=Nat.mul_le_mul_right _ (by omega)
         omega⟩
        rw [←hX] at hRj e9
        obtain ⟨o9,ho9⟩:∃o9,o9=X.length:=⟨_,rfl⟩
        rw [←ho9] at e9
        subst e9
        have HX9:=z0 hX
        have HO9:=z0 ho9
        clear hX ho9
        cases gk with
        |zero=>
         obtain rfl:j=NU:=by omega
         have hltj:decide ((j:Int)<(j:Int))=false:=decide_eq_false (by omega)
         go_wp2
         go_roundg g1
         case measure=>omega
         case rel=>
          refine ⟨i+1,(by first|rfl|simp),⟨by omega⟩,⟨?_⟩,hPj,hFj⟩
          have h:=hRj.out
          rw [HX9.out,List.take_of_length_le (by rw [HNU.out];exact Nat.le_refl _),HO.out,HU.out,←mF_snoc _ _ _ _ HX.out] at h
          exact h
        |succ g2=>
         have hltj:decide ((j:Int)<(NU:Int))=true:=decide_eq_true (by omega)
         have hjn:j<NU:=by omega
         have hjj:(0:Int)≤(j:Int):=by omega
         obtain ⟨u,hu⟩:∃u,U[j]? =some u:=⟨_,List.getElem?_eq_getElem (by rw [←HNU.out];exact hjn)⟩
         have hCu:Kd.C kUs wr A7 NU U:=by have h:=(Kd.R_reads' (R_keepT34 HR7.out hKj.out)).2.2;rwa [←HNU.out] at h
         obtain ⟨ad7,hA7,hu0,hu1,hu2⟩:=us_at hCu j hjn u hu
         obtain rfl:=hA7
         have hms:=mUs_snoc U O j u hu
         rw [←HX9.out] at hms
         obtain ⟨u1,u2,u3⟩:=u
         simp only at hu0 hu1 hu2 hms
         clear hu hCu
         have hB1:=below_alloc (Below.refl wr.heap.size wr) (Obj.cells #[Value.string u1,Value.bool u2,Value.string u3] 34)
         have HSA:=z0 (Kd.R_below hRj.out hB1)
         have HPA:=z0 (hPj.out.step hB1)
         have HKA:=z0 (hKj.out.trans (KeepT.of_below hB1))
         have HFA:=z0 (farB hFj.out hB1)
         have HNW:Aside0 ((wr.alloc (Obj.cells #[Value.string u1,Value.bool u2,Value.string u3] 34)).heap[wr.heap.size]? =some (.cells #[Value.string u1,Value.bool u2,Value.string u3] 34 (0,0))):=⟨blk_new _ _⟩
         clear hB1
         by_cases hz:u3.toList=([]:List UInt8)
         · have hz':(u3.toList==([]:List UInt8))=true:=beq_iff_eq.mpr hz
           obtain ⟨b,hbm,H28⟩:=contB_any X u1 (by have:=HXL.out;omega) (wr.alloc (Obj.cells #[Value.string u1,Value.bool u2,Value.string u3] 34)) A9 o9 c9 HO9.out (by have h:=(Kd.R_reads' HSA.out).2.2;rwa [←HO9.out] at h) (by have h:=(Kd.R_reads' HSA.out).2.1;exact h)
           cases b with
           |false=>
            have hms2:=hms.trans (mAdd_yes (u:=(u1,u2,u3)) hz (fun h=>by have:=hbm.2 h;cases this))
            have HMS:=z0 hms2
            clear hz hms hbm hms2
            go_wp2_with (first|(go_at_call 28;go_loud (refine H28.mono ?_;rintro e w9 ⟨rfl,hq⟩;have HBQ:Aside0 (Below (wr.alloc (Obj.cells #[Value.string u1,Value.bool u2,Value.string u3] 34)).heap.size (wr.alloc (Obj.cells #[Value.string u1,Value.bool u2,Value.string u3] 34)) w9):=⟨by obtain ⟨q,rfl⟩:=hq;exact pw_below_drewN (Below.refl _ _) q⟩;have hn9:=(HBQ.out.block wr.heap.size (blk_lt HNW.out)).trans HNW.out;have hc9:w9.cell? ⟨wr.heap.size,0,none⟩=some (.string u1):=(by have:=cell_of_row _ _ 0 _ _ _ hn9;simpa using this);clear hq hn9;have HS9:=z0 (Kd.R_below HSA.out HBQ.out);have HP9:=z0 (HPA.out.step HBQ.out);have HK9:=z0 (HKA.out.trans (KeepT.of_below HBQ.out));have HF9:=z0 (farB HFA.out HBQ.out)))|(at_builtin;go_loud (refine Kd.R_append Kd.string (w0:=w9) (W:=w9) w6.heap.size rfl (.tmp 62) (.tmp 65) 23 9 (.string ⟨#[]⟩) 16 rfl under23 (by kernel_rfl) rfl (by decide) (by omega) (.slice A9 o9 c9) X u1 [.string u1] (fun _=>True) (fun _=>False) rfl (by rw [HO9.out];rfl) rfl (fun _ hk=>hk.elim) (fun _ _=>trivial) HS9.out (Below.refl _ _) HF9.out.1 ?aL ?_;(case aL=>have:=HXL.out;omega);intro v1 w10 ho hb10 hg10 _;have HR10:=z0 ho;have HP10:=z0 (HP9.out.grown9 HS9.out (below_lowZ HP9.out.below HP6.out.below.size hb10) (fun k hk hne=>hg10.block k hk hne));have HK10:=z0 (HK9.out.trans (KeepT.grown HS9.out hg10));have HF10:Aside0 (w6.heap.size≤w10.heap.size∧∀k,k<w6.heap.size→k≠cm→w10.heap[k]? =w6.heap[k]?):=⟨⟨Nat.le_trans HF9.out.1 hg10.size,fun k h1 h2=>(hb10.block k h1).trans (HF9.out.2 k h1 h2)⟩⟩;clear ho hb10 hg10)))
            go_roundg g2
            case measure=>omega
            case rel=>exact ⟨j+1,(by first|rfl|simp),⟨by omega⟩,⟨by rw [HMS.out];exact HR10.out⟩,HP10,HF10,HK10⟩
           |true=>
            have hms2:=hms.trans (mAdd_no (u:=(u1,u2,u3)) (fun h=>h.2 (hbm.1 rfl)))
            have HMS:=z0 hms2
            clear hz hms hbm hms2
            go_wp2_with (go_at_call 28;go_loud (refine H28.mono ?_;rintro e w9 ⟨rfl,hq⟩;have HBQ:Aside0 (Below (wr.alloc (Obj.cells #[Value.string u1,Value.bool u2,Value.string u3] 34)).heap.size (wr.alloc (Obj.cells #[Value.string u1,Value.bool u2,Value.string u3] 34)) w9):=⟨by obtain ⟨q,rfl⟩:=hq;exact pw_below_drewN (Below.refl _ _) q⟩;have hn9:=(HBQ.out.block wr.heap.size (blk_lt HNW.out)).trans HNW.out;have hc9:w9.cell? ⟨wr.heap.size,0,none⟩=some (.string u1):=(by have:=cell_of_row _ _ 0 _ _ _ hn9;simpa using this);clear hq hn9;have HS9:=z0 (Kd.R_below HSA.out HBQ.out);have HP9:=z0 (HPA.out.step HBQ.out);have HK9:=z0 (HKA.out.trans (KeepT.of_below HBQ.out));have HF9:=z0 (farB HFA.out HBQ.out)))
            go_roundg g2
            case measure=>omega
            case rel=>exact ⟨j+1,(by first|rfl|simp),⟨by omega⟩,⟨by rw [HMS.out];exact HS9.out⟩,HP9,HF9,HK9⟩
         · have hz':(u3.toList==([]:List UInt8))=false:=beq_eq_false_iff_ne.mpr hz
           have hms2:=hms.trans (mAdd_no (u:=(u1,u2,u3)) (fun h=>hz h.1))
           have HMS:=z0 hms2
           clear hz hms hms2
           go_wp2
           go_roundg g2
           case measure=>omega
           case rel=>exact ⟨j+1,(by first|rfl|simp),⟨by omega⟩,⟨by rw [HMS.out];exact HSA.out⟩,HPA,HFA,HKA⟩
theorem eqS_l0 (xs:List ByteArray)(hl:xs.length≤100000000):∀(d k i:Nat),i≤xs.length→xs.length-i≤d→d<k→ORef.smockingref00_EqStrings.l0 k xs xs (i:Int)=some true
 |d,0,i,_,_,hk=>by omega
 |d,k+1,i,h1,hd,hk=>by
  rw [ORef.smockingref00_EqStrings.l0]
  by_cases h:i<xs.length
  · rw [if_pos (by omega),if_pos (by omega),if_pos (by omega),if_pos rfl,wr (by omega) (by omega)]
    cases d with
    |zero=>omega
    |succ d=>exact eqS_l0 xs hl d k (i+1) (by omega) (by omega) (by omega)
  · rw [if_neg (by omega)]
theorem eqS_any (xs:List ByteArray)(hl:xs.length≤100000000)(w:World)(A A':Option Addr)(n c c':Nat)(hn:n=xs.length)(hC:Kd.C Kd.string w A n xs)(hc:n≤c)(hC':Kd.C Kd.string w A' n xs)(hc':n≤c'):
 Calls Tryz.prog 13 #[.slice A n c,.slice A' n c'] w fun e w'=>e= .returned (.bool true)∧Below w.heap.size w w':=by
 subst hn
 refine (ORef.smockingref00_EqStrings.calls (xs.length+1) A c xs A' c' xs true w hC hc hC' hc' ?_).mono fun e w' h=>⟨h.1,by first|exact h.2|exact h.2.below⟩
 unfold ORef.smockingref00_EqStrings.f
 rw [if_pos rfl]
 exact eqS_l0 xs hl xs.length (xs.length+1) 0 (by omega) (by omega) (by omega)
theorem allW_len {W:World}{files:List Fl}{ps:List ByteArray}{A Ap:Option Addr}{c cp:Nat}(H:ArgsOK W files ps A Ap c cp){name:ByteArray}{er:Int}{l:List ByteArray}(h:AllW files ps name er l):l.length≤60:=by
 by_cases h0:er=0
 · subst h0
   obtain ⟨m,_,h1,_⟩:=all_in H h
   exact h1
 · rcases h with ⟨_,_,rfl⟩|⟨_,_,_,_,_,rfl⟩
   · simp
   · rw [if_neg h0];simp
theorem missW_len {W:World}{files:List Fl}{ps:List ByteArray}{A Ap:Option Addr}{c cp:Nat}(H:ArgsOK W files ps A Ap c cp){name:ByteArray}{er:Int}{l:List ByteArray}(h:MissW files ps name er l):l.length≤2400000:=by
 rcases h with ⟨_,_,rfl⟩|⟨rfl,m,al,h1,h2,rfl⟩
 · simp
 · have h3:=allW_len H h2
   have h4:=mF_len (usR m ps) 40000 (fun n=>usR_len4 H h1 n (H.text h1 n)) al al.length (Nat.le_refl _)
   rw [List.take_length] at h4
   have h5:al.length*40000≤60*40000:=Nat.mul_le_mul_right _ h3
   omega
end Go.Proofs.YtolaiebjmhieiaaGreatDoor.OScan
end
section
namespace Go.Proofs.YtolaiebjmhieiaaGreatDoor.OLaw
open Go.RowKit YtolaiebjmhieiaaGreatDoorW.PrintWords YtolaiebjmhieiaaGreatDoorW.PrintLast YtolaiebjmhieiaaGreatDoorW.PrintMore
attribute [local go_sem] max2_int min2_int max_two min_two max_three min_three max_four min_four
structure S46 where
 f0:ByteArray
 f1:ByteArray
def z46:S46:=⟨(⟨#[]⟩:ByteArray),(⟨#[]⟩:ByteArray)⟩
def k46:Kd S46:=Kd.iso (Kd.pair Kd.string Kd.string) (fun x:S46=>(x.f0,x.f1))
theorem k46_open {w:World}{x:S46}{cs:List Value}(h:k46.K w x cs):cs=[.string x.f0,.string x.f1]:=by
 obtain ⟨_,_,rfl,rfl,rfl⟩:=h
 exact rfl
def rd_T46 (xs:List S46)(i:Int):S46:=xs.getD i.toNat z46
theorem at_T46 {w:World}{A:Option Addr}{n:Nat}{xs:List S46}(h:Kd.C k46 w A n xs)(i:Int)(h0:0≤i)(h1:i<n):∃ad,A=some ad∧w.cell? (ad.add (i.toNat*2))=some (.string (rd_T46 xs i).f0)∧w.cell? ⟨(ad.add (i.toNat*2)).block,(ad.add (i.toNat*2)).off+1,none⟩=some (.string (rd_T46 xs i).f1):=by
 obtain ⟨ad,c,e,_,hK,hc0⟩:=Kd.C_get h z46 i h0 h1
 have hc:∀j u,c[j]? =some u→w.cell? (ad.add (i.toNat*2+j))=some u:=hc0
 obtain rfl:=k46_open hK
 exact ⟨ad,e,hc 0 _ rfl,by rw [←add_field _ _ 1 (by omega)];exact hc 1 _ rfl⟩
def smockinglaw21_heavy.l0:Nat→List (S46)→List ByteArray→Int→Int→Option (Bool)
 |0,_,_,_,_=>none
 |k+1,x0,x1,x5,x6=>if x6<(x0.length:Int) then (if x5≤4000 then (if 0≤x6 then (smockinglaw21_heavy.l0 k x0 x1 (wrap64 ((wrap64 ((wrap64 (x5+1))+(((rd_T46 x0 x6).f0).size:Int)))+(((rd_T46 x0 x6).f1).size:Int))) (wrap64 (x6+1))) else (none)) else (if x5>4000 then (some true) else (if (x0.length:Int)>12 then (if (x0.length:Int)≤60 then (some true) else (if (x0.length:Int)>61 then (some true) else (some (decide ((x1.length:Int)>5))))) else (if (x0.length:Int)>61 then (some true) else (some (decide ((x1.length:Int)>5))))))) else (if x5>4000 then (some true) else (if (x0.length:Int)>12 then (if (x0.length:Int)≤60 then (some true) else (if (x0.length:Int)>61 then (some true) else (some (decide ((x1.length:Int)>5))))) else (if (x0.length:Int)>61 then (some true) else (some (decide ((x1.length:Int)>5))))))
def smockinglaw21_heavy.f (k:Nat)(l0:List (S46))(l1:List ByteArray):Option (Bool):=smockinglaw21_heavy.l0 k l0 l1 0 0
theorem smockinglaw21_heavy.calls (k:Nat)(A0:Option Addr)(c0:Nat)(l0:List (S46))(A1:Option Addr)(c1:Nat)(l1:List ByteArray)(r:Bool)(w:World)(hr0:Kd.C k46 w A0 l0.length l0)(hc0:l0.length≤c0)(hr1:Kd.C Kd.string w A1 l1.length l1)(hc1:l1.length≤c1)(h:smockinglaw21_heavy.f k l0 l1=some r):
 Calls Tryz.prog 6 #[.slice A0 l0.length c0,.slice A1 l1.length c1] w fun e w'=>e= .returned (.bool r)∧Drawn0 w w':=by
 have HR0:=z0 hr0
 have HC0:=z0 hc0
 clear hr0 hc0
 have HR1:=z0 hr1
 have HC1:=z0 hc1
 clear hr1 hc1
 have H:=h
 clear h
 unfold smockinglaw21_heavy.f at H
 have H':=z0 H
 clear H
 go_enter Tryz.func6,Tryz.ntmps6
 go_wp2
 repeat (go_quiet (fail);try go_wp2)
 go_loopg [5,6] k (fun kq v5 v6 w'=>∃(x5_1:Int) (x6_1:Int),v5= .int .i64 x5_1∧v6= .int .i64 x6_1∧Aside0 (smockinglaw21_heavy.l0 kq l0 l1 x5_1 x6_1=some r)∧Aside0 (kq≤k)∧Drawn0 w w')
 case atStart=>exact ⟨(0),(0),zr,zr,H',⟨Nat.le_refl _⟩,zq⟩
 case round=>
  clear H'
  (try clear c1);(try clear p2)
  obtain ⟨x5_1,x6_1,rfl,rfl,HA,HK1,⟨m1,rfl⟩⟩:=hrel
  cases gk with
  |zero=>exact absurd HA.out (by simp [smockinglaw21_heavy.l0])
  |succ k1=>
   have H:=HA.out
   clear HA
   simp only [smockinglaw21_heavy.l0] at H
   replace H:=zd H
   rcases H with ⟨c3b0,H⟩|⟨c3b0,H⟩
   · replace H:=zd H
     rcases H with ⟨c4b0,H⟩|⟨c4b0,H⟩
     · replace H:=zdn H
       obtain ⟨c5b0,H⟩:=H
       have H':=z0 H
       clear H
       have p101:0≤(x6_1:Int):=of_decide_eq_true (by first|(with_reducible assumption)|assumption)
       have q101:x6_1<(l0.length:Int):=of_decide_eq_true (by first|(with_reducible assumption)|assumption)
       obtain ⟨ad101,e101,hx101_0,hx101_1⟩:=at_T46 HR0.out x6_1 p101 q101
       cases e101
       replace p101:=eq_true p101
       replace q101:=eq_true q101
       have p102:0≤(x6_1:Int):=of_decide_eq_true (by first|(with_reducible assumption)|assumption)
       have q102:x6_1<(l0.length:Int):=of_decide_eq_true (by first|(with_reducible assumption)|assumption)
       obtain ⟨ad102,e102,hx102_0,hx102_1⟩:=at_T46 HR0.out x6_1 p102 q102
       obtain rfl:ad101=ad102:=(by injection e102)
       replace p102:=eq_true p102
       replace q102:=eq_true q102
       go_wp2
       repeat (go_quiet (fail);try go_wp2)
       go_roundg k1
       case measure=>have:=HK1.out;omega
       case rel=>exact ⟨(wrap64 ((wrap64 ((wrap64 (x5_1+1))+(((rd_T46 l0 x6_1).f0).size:Int)))+(((rd_T46 l0 x6_1).f1).size:Int))),(wrap64 (x6_1+1)),zr,zr,H',⟨by have:=HK1.out;omega⟩,zq⟩
     · replace H:=zt H
       rcases H with ⟨c6b0,H⟩|⟨c6b0,H⟩
       · obtain rfl:=Option.some.inj H
         go_wp2
         repeat (go_quiet (fail);try go_wp2)
         go_ret
         exact ⟨zr,zq⟩
       · by_cases c7:(l0.length:Int)>12
         · rw [if_pos c7] at H
           have c7b0:decide (12<(l0.length:Int))=true:=decide_eq_true c7
           have c7b1:decide (12<l0.length)=true:=decide_eq_true (by omega)
           clear c7
           by_cases c8:(l0.length:Int)≤60
           · rw [if_pos c8] at H
             have c8b0:decide ((l0.length:Int)≤60)=true:=decide_eq_true c8
             have c8b1:decide (l0.length≤60)=true:=decide_eq_true (by omega)
             clear c8
             obtain rfl:=Option.some.inj H
             go_wp2
             repeat (go_quiet (fail);try go_wp2)
             go_ret
             exact ⟨zr,zq⟩
           · rw [if_neg c8] at H
             have c8b0:decide ((l0.length:Int)≤60)=false:=decide_eq_false c8
             have c8b1:decide (l0.length≤60)=false:=decide_eq_false (by omega)
             clear c8
             by_cases c9:(l0.length:Int)>61
             · rw [if_pos c9] at H
               have c9b0:decide (61<(l0.length:Int))=true:=decide_eq_true c9
               have c9b1:decide (61<l0.length)=true:=decide_eq_true (by omega)
               clear c9
               obtain rfl:=Option.some.inj H
               go_wp2
               repeat (go_quiet (fail);try go_wp2)
               go_ret
               exact ⟨zr,zq⟩
             · rw [if_neg c9] at H
               have c9b0:decide (61<(l0.length:Int))=false:=decide_eq_false c9
               have c9b1:decide (61<l0.length)=false:=decide_eq_false (by omega)
               clear c9
               obtain rfl:=Option.some.inj H
               go_wp2
               repeat (go_quiet (fail);try go_wp2)
               go_ret
               exact ⟨zr,zq⟩
         · rw [if_neg c7] at H
           have c7b0:decide (12<(l0.length:Int))=false:=decide_eq_false c7
           have c7b1:decide (12<l0.length)=false:=decide_eq_false (by omega)
           clear c7
           by_cases c10:(l0.length:Int)>61
           · rw [if_pos c10] at H
             have c10b0:decide (61<(l0.length:Int))=true:=decide_eq_true c10
             have c10b1:decide (61<l0.length)=true:=decide_eq_true (by omega)
             clear c10
             obtain rfl:=Option.some.inj H
             go_wp2
             repeat (go_quiet (fail);try go_wp2)
             go_ret
             exact ⟨zr,zq⟩
           · rw [if_neg c10] at H
             have c10b0:decide (61<(l0.length:Int))=false:=decide_eq_false c10
             have c10b1:decide (61<l0.length)=false:=decide_eq_false (by omega)
             clear c10
             obtain rfl:=Option.some.inj H
             go_wp2
             repeat (go_quiet (fail);try go_wp2)
             go_ret
             exact ⟨zr,zq⟩
   · replace H:=zt H
     rcases H with ⟨c11b0,H⟩|⟨c11b0,H⟩
     · obtain rfl:=Option.some.inj H
       go_wp2
       repeat (go_quiet (fail);try go_wp2)
       go_ret
       exact ⟨zr,zq⟩
     · by_cases c12:(l0.length:Int)>12
       · rw [if_pos c12] at H
         have c12b0:decide (12<(l0.length:Int))=true:=decide_eq_true c12
         have c12b1:decide (12<l0.length)=true:=decide_eq_true (by omega)
         clear c12
         by_cases c13:(l0.length:Int)≤60
         · rw [if_pos c13] at H
           have c13b0:decide ((l0.length:Int)≤60)=true:=decide_eq_true c13
           have c13b1:decide (l0.length≤60)=true:=decide_eq_true (by omega)
           clear c13
           obtain rfl:=Option.some.inj H
           go_wp2
           repeat (go_quiet (fail);try go_wp2)
           go_ret
           exact ⟨zr,zq⟩
         · rw [if_neg c13] at H
           have c13b0:decide ((l0.length:Int)≤60)=false:=decide_eq_false c13
           have c13b1:decide (l0.length≤60)=false:=decide_eq_false (by omega)
           clear c13
           by_cases c14:(l0.length:Int)>61
           · rw [if_pos c14] at H
             have c14b0:decide (61<(l0.length:Int))=true:=decide_eq_true c14
             have c14b1:decide (61<l0.length)=true:=decide_eq_true (by omega)
             clear c14
             obtain rfl:=Option.some.inj H
             go_wp2
             repeat (go_quiet (fail);try go_wp2)
             go_ret
             exact ⟨zr,zq⟩
           · rw [if_neg c14] at H
             have c14b0:decide (61<(l0.length:Int))=false:=decide_eq_false c14
             have c14b1:decide (61<l0.length)=false:=decide_eq_false (by omega)
             clear c14
             obtain rfl:=Option.some.inj H
             go_wp2
             repeat (go_quiet (fail);try go_wp2)
             go_ret
             exact ⟨zr,zq⟩
       · rw [if_neg c12] at H
         have c12b0:decide (12<(l0.length:Int))=false:=decide_eq_false c12
         have c12b1:decide (12<l0.length)=false:=decide_eq_false (by omega)
         clear c12
         by_cases c15:(l0.length:Int)>61
         · rw [if_pos c15] at H
           have c15b0:decide (61<(l0.length:Int))=true:=decide_eq_true c15
           have c15b1:decide (61<l0.length)=true:=decide_eq_true (by omega)
           clear c15
           obtain rfl:=Option.some.inj H
           go_wp2
           repeat (go_quiet (fail);try go_wp2)
           go_ret
           exact ⟨zr,zq⟩
         · rw [if_neg c15] at H
           have c15b0:decide (61<(l0.length:Int))=false:=decide_eq_false c15
           have c15b1:decide (61<l0.length)=false:=decide_eq_false (by omega)
           clear c15
           obtain rfl:=Option.some.inj H
           go_wp2
           repeat (go_quiet (fail);try go_wp2)
           go_ret
           exact ⟨zr,zq⟩
def smockingref00_EqStrings.l0:Nat→List ByteArray→List ByteArray→Int→Option (Bool)
 |0,_,_,_=>none
 |k+1,x0,x1,x5=>if x5<(x0.length:Int) then (if 0≤x5 then (if x5<(x1.length:Int) then (if (rdOf ByteArray.empty x0 x5).toList=(rdOf ByteArray.empty x1 x5).toList then (smockingref00_EqStrings.l0 k x0 x1 (wrap64 (x5+1))) else (some false)) else (none)) else (none)) else (some true)
def smockingref00_EqStrings.f (k:Nat)(l0:List ByteArray)(l1:List ByteArray):Option (Bool):=if (l0.length:Int)=(l1.length:Int) then (smockingref00_EqStrings.l0 k l0 l1 0) else (some false)
theorem smockingref00_EqStrings.calls (k:Nat)(A0:Option Addr)(c0:Nat)(l0:List ByteArray)(A1:Option Addr)(c1:Nat)(l1:List ByteArray)(r:Bool)(w:World)(hr0:Kd.C Kd.string w A0 l0.length l0)(hc0:l0.length≤c0)(hr1:Kd.C Kd.string w A1 l1.length l1)(hc1:l1.length≤c1)(h:smockingref00_EqStrings.f k l0 l1=some r):
 Calls Tryz.prog 13 #[.slice A0 l0.length c0,.slice A1 l1.length c1] w fun e w'=>e= .returned (.bool r)∧Drawn0 w w':=by
 have HR0:=z0 hr0
 have HC0:=z0 hc0
 clear hr0 hc0
 have HR1:=z0 hr1
 have HC1:=z0 hc1
 clear hr1 hc1
 have H:=h
 clear h
 unfold smockingref00_EqStrings.f at H
 by_cases c3:(l0.length:Int)=(l1.length:Int)
 · rw [if_pos c3] at H
   have c3b0:((l0.length:Int)==(l1.length:Int))=true:=beq_iff_eq.mpr c3
   have c3b1:((l0.length:Int) !=(l1.length:Int))=false:=bne_eq_false_iff_eq.mpr c3
   have c3b2:(l0.length==l1.length)=true:=by first|simpa using c3|(simp at c3 ⊢;omega)
   clear c3
   have H':=z0 H
   clear H
   go_enter Tryz.func13,Tryz.ntmps13
   go_wp2
   repeat (go_quiet (fail);try go_wp2)
   go_loopg [5] k (fun kq v5 w'=>∃(x5_1:Int),v5= .int .i64 x5_1∧Aside0 (smockingref00_EqStrings.l0 kq l0 l1 x5_1=some r)∧Aside0 (kq≤k)∧Drawn0 w w')
   case atStart=>exact ⟨(0),zr,H',⟨Nat.le_refl _⟩,zq⟩
   case round=>
    clear H'
    (try clear c1);(try clear p2);(try clear c3);(try clear c3b0);(try clear c3b1);(try clear c3b2)
    obtain ⟨x5_1,rfl,HA,HK1,⟨m1,rfl⟩⟩:=hrel
    cases gk with
    |zero=>exact absurd HA.out (by simp [smockingref00_EqStrings.l0])
    |succ k1=>
     have H:=HA.out
     clear HA
     simp only [smockingref00_EqStrings.l0] at H
     replace H:=zd H
     rcases H with ⟨c4b0,H⟩|⟨c4b0,H⟩
     · replace H:=zdn H
       obtain ⟨c5b0,H⟩:=H
       replace H:=zdn H
       obtain ⟨c6b0,H⟩:=H
       replace H:=zE H
       rcases H with ⟨c7b0,c7b1,H⟩|⟨c7b0,c7b1,H⟩
       · have H':=z0 H
         clear H
         have p104:0≤(x5_1:Int):=of_decide_eq_true (by first|(with_reducible assumption)|assumption)
         have q104:x5_1<(l0.length:Int):=of_decide_eq_true (by first|(with_reducible assumption)|assumption)
         obtain ⟨ad104,e104,hx104_0⟩:=Kd.at_string HR0.out x5_1 p104 q104
         cases e104
         replace p104:=eq_true p104
         replace q104:=eq_true q104
         have p105:0≤(x5_1:Int):=of_decide_eq_true (by first|(with_reducible assumption)|assumption)
         have q105:x5_1<(l1.length:Int):=of_decide_eq_true (by first|(with_reducible assumption)|assumption)
         obtain ⟨ad105,e105,hx105_0⟩:=Kd.at_string HR1.out x5_1 p105 q105
         cases e105
         replace p105:=eq_true p105
         replace q105:=eq_true q105
         go_wp2
         repeat (go_quiet (fail);try go_wp2)
         go_roundg k1
         case measure=>have:=HK1.out;omega
         case rel=>exact ⟨(wrap64 (x5_1+1)),zr,H',⟨by have:=HK1.out;omega⟩,zq⟩
       · obtain rfl:=Option.some.inj H
         have p104:0≤(x5_1:Int):=of_decide_eq_true (by first|(with_reducible assumption)|assumption)
         have q104:x5_1<(l0.length:Int):=of_decide_eq_true (by first|(with_reducible assumption)|assumption)
         obtain ⟨ad104,e104,hx104_0⟩:=Kd.at_string HR0.out x5_1 p104 q104
         cases e104
         replace p104:=eq_true p104
         replace q104:=eq_true q104
         have p105:0≤(x5_1:Int):=of_decide_eq_true (by first|(with_reducible assumption)|assumption)
         have q105:x5_1<(l1.length:Int):=of_decide_eq_true (by first|(with_reducible assumption)|assumption)
         obtain ⟨ad105,e105,hx105_0⟩:=Kd.at_string HR1.out x5_1 p105 q105
         cases e105
         replace p105:=eq_true p105
         replace q105:=eq_true q105
         go_wp2
         repeat (go_quiet (fail);try go_wp2)
         go_ret
         exact ⟨zr,zq⟩
     · obtain rfl:=Option.some.inj H
       go_wp2
       repeat (go_quiet (fail);try go_wp2)
       go_ret
       exact ⟨zr,zq⟩
 · rw [if_neg c3] at H
   have c3b0:((l0.length:Int)==(l1.length:Int))=false:=beq_eq_false_iff_ne.mpr c3
   have c3b1:((l0.length:Int) !=(l1.length:Int))=true:=bne_iff_ne.mpr c3
   have c3b2:(l0.length==l1.length)=false:=by first|simpa using c3|(simp at c3 ⊢;omega)
   obtain rfl:=Option.some.inj H
   go_enter Tryz.func13,Tryz.ntmps13
   go_wp2
   repeat (go_quiet (fail);try go_wp2)
   go_ret
   exact ⟨zr,zq⟩
end Go.Proofs.YtolaiebjmhieiaaGreatDoor.OLaw
end
section
namespace Go.Proofs.YtolaiebjmhieiaaGreatDoor.OScan
open Go.RowKit YtolaiebjmhieiaaGreatDoorW.PrintWords YtolaiebjmhieiaaGreatDoorW.PrintLast YtolaiebjmhieiaaGreatDoorW.PrintMore
def fA:Fl:=(⟨#[97,46,99]⟩,⟨#[35,105,110,99,108,117,100,101,32,34,98,46,104,34,10]⟩)
def fB:Fl:=(⟨#[98,46,104]⟩,⟨#[105,110,116,32,120,59,10]⟩)
def mA:AL:=[(fA.1,.string fA.2),(fB.1,.string fB.2)]
theorem openA:openF [fA,fB]=(0,some mA):=by kernel_rfl
theorem erA1:erN mA fA.1=0:=by kernel_rfl
theorem erA2:erN mA fB.1=0:=by kernel_rfl
theorem usA1:gR mA [] fA.1=[fB.1]:=by kernel_rfl
theorem usA2:gR mA [] fB.1=[]:=by kernel_rfl
theorem outA {out:List ByteArray}(h:Graph.Found (erN mA) (gR mA []) fA.1 out):out=[fB.1,fA.1]:=by
 have hr:∀x,Graph.Reach (gR mA []) fA.1 x→x=fA.1∨x=fB.1:=by
  have key:∀a x,Graph.Reach (gR mA []) a x→(a=fA.1∨a=fB.1)→(x=fA.1∨x=fB.1):=fun a x h=>by
   induction h with
   |refl=>exact id
   | @step a b c hb _ ih=>
     intro ha
     refine ih ?_
     rcases ha with rfl|rfl
     · rw [usA1] at hb
       exact .inr (List.mem_singleton.1 hb)
     · rw [usA2] at hb
       simp at hb
  exact fun x h=>key _ x h (.inl rfl)
 have hne:fB.1≠fA.1:=by decide
 have hB:fB.1∈out:=(h.mem _).2 (.step (by rw [usA1];exact List.mem_singleton.2 rfl) (.refl _))
 obtain ⟨o,rfl⟩:=h.last
 have hnd:=h.nd
 rw [List.nodup_append] at hnd
 obtain ⟨n1,_,n3⟩:=hnd
 have ho:∀x∈o,x=fB.1:=fun x hx=>by
  rcases hr x ((h.mem x).1 (List.mem_append_left _ hx)) with e|e
  · exact absurd e (n3 x hx fA.1 (List.mem_singleton.2 rfl))
  · exact e
 have hBo:fB.1∈o:=by
  rcases List.mem_append.1 hB with h|h
  · exact h
  · exact absurd (List.mem_singleton.1 h) hne
 cases o with
 |nil=>simp at hBo
 |cons a l=>
  obtain rfl:=ho a (List.mem_cons_self ..)
  cases l with
  |nil=>rfl
  |cons b l=>
   have:=ho b (List.mem_cons_of_mem _ (List.mem_cons_self ..))
   rw [this] at n1
   simp at n1
section
variable {W:World}{files:List Fl}{ps:List ByteArray}{A Ap:Option Addr}{c cp:Nat}{m:AL}
theorem All_ok (H:ArgsOK W files ps A Ap c cp)(hm:openF files=(0,some m))(hall:∀f∈files,erN m f.1=0)(name:ByteArray)(hsome:(alGet m name).isSome=true):
 Calls Tryz.prog 9 #[.slice A files.length c,.string name,.slice Ap ps.length cp] W fun e w'=>∃(v:Value) (out:List ByteArray),e= .returned (.tuple #[v,.int .i64 0])∧Below W.heap.size W w'∧Kd.R Kd.string 9 w' W.heap.size (fun _=>True) v out∧Graph.Found (erN m) (gR m ps) name out:=by
 have H20:=with_any files name A c Ap ps.length cp W H.glob H.fc H.fl (by have:=H.nfl;omega) (fun f hf=>by have:=(H.fsz f hf).1;omega)
 have hw:withF files name=(0,some m):=by unfold withF;rw [hm];simp only;rw [if_pos hsome]
 rw [hw] at H20
 obtain ⟨n,hn⟩:∃n,n=files.length:=⟨_,rfl⟩
 obtain ⟨np,hnp⟩:∃np,np=ps.length:=⟨_,rfl⟩
 have H26:Aside0 (∀(w5:World) (PB fm cm:Nat),PrjIs W.heap.size w5 PB fm cm (.slice Ap np cp) m []→Below W.heap.size W w5→Calls Tryz.prog 26 #[.pointer (some ⟨PB,0,none⟩),.string name] w5 fun e w'=>∃(v:Value) (out:List ByteArray),e= .returned (.tuple #[v,.int .i64 0])∧Below W.heap.size W w'∧Kd.R Kd.string 9 w' W.heap.size (fun _=>True) v out∧Graph.Found (erN m) (gR m ps) name out):=⟨fun w5 PB fm cm hP hb=>by
  rw [hnp] at hP
  refine (all_ok H hm hall PB fm cm name hsome w5 (ps_of_new hP hb)).mono ?_
  rintro e w' ⟨out,v,rfl,hF,hr,hps,_⟩
  exact ⟨v,out,rfl,hps.below,Kd.R_lower hr hb.size,hF⟩⟩
 rw [←hn,←hnp] at H20
 rw [←hn,←hnp]
 clear H hw hn hnp hm hsome hall
 go_enter Tryz.func9,Tryz.ntmps9
 go_wp2_with (first|(go_at_call 20;go_loud (refine H20.mono ?_;rintro e w5 ⟨⟨PB,fm,cm,rfl,hP⟩,hb5⟩;have H26':=H26.out w5 PB fm cm hP hb5;clear hP hb5))|(go_at_call 26;go_loud (refine H26'.mono ?_;rintro e w6 ⟨v6,out6,rfl,h1,h2,h3⟩;obtain ⟨A6,c6,rfl⟩:=Kd.R_slice h2;have HX:=z0 (And.intro h1 (And.intro h2 h3));clear h1 h2 h3)))
 go_ret2
 exact ⟨_,out6,rfl,HX.out.1,HX.out.2.1,HX.out.2.2⟩
end
theorem eqA:OLaw.smockingref00_EqStrings.f 5 [fB.1,fA.1] [fB.1,fA.1]=some true:=by kernel_rfl
theorem awake_any (w:World)(hG:Glob2 w):Calls Tryz.prog 14 #[] w fun e w'=>e= .returned (.bool true)∧Below w.heap.size w w':=by
 obtain ⟨W1,hW1⟩:∃W1,W1=w.alloc (Obj.cells #[Value.string ⟨#[97,46,99]⟩,Value.string ⟨#[35,105,110,99,108,117,100,101,32,34,98,46,104,34,10]⟩,Value.string ⟨#[98,46,104]⟩,Value.string ⟨#[105,110,116,32,120,59,10]⟩] 46):=⟨_,rfl⟩
 have hb1:Below w.heap.size w W1:=by rw [hW1];exact below_alloc (Below.refl _ _) _
 have hnew:W1.heap[w.heap.size]? =some (.cells #[Value.string ⟨#[97,46,99]⟩,Value.string ⟨#[35,105,110,99,108,117,100,101,32,34,98,46,104,34,10]⟩,Value.string ⟨#[98,46,104]⟩,Value.string ⟨#[105,110,116,32,120,59,10]⟩] 46 (0,0)):=by rw [hW1];exact blk_new _ _
 have HA:ArgsOK W1 [fA,fB] [] (some ⟨w.heap.size,0,none⟩) none 2 0:={
  glob:=hG.below hb1
  fc:=by
   refine ⟨rfl,by decide,fun _=>⟨⟨w.heap.size,0,none⟩,rfl,fun j p hj=>⟨[.string p.1,.string p.2],rfl,⟨[.string p.1],[.string p.2],rfl,rfl,rfl⟩,fun i u hu=> ?_⟩⟩⟩
   rw [add_plain,cell_of_row W1 _ _ _ _ _ hnew]
   match j,i with
   |0,0=>obtain rfl:=Option.some.inj hj;exact hu
   |0,1=>obtain rfl:=Option.some.inj hj;exact hu
   |1,0=>obtain rfl:=Option.some.inj hj;exact hu
   |1,1=>obtain rfl:=Option.some.inj hj;exact hu
   |j+2,_=>simp at hj
   |0,i+2=>simp at hu
   |1,i+2=>simp at hu
  fl:=Nat.le_refl _
  pc:=Kd.C_nil _ _
  hA:= .inl rfl
  npl:=by decide
  nfl:=by decide
  fsz:=fun f hf=>by
   rcases List.mem_cons.1 hf with rfl|hf
   · exact ⟨by decide,by decide⟩
   · rw [List.mem_singleton.1 hf];exact ⟨by decide,by decide⟩
  psz:=fun p hp=>by simp at hp}
 have H9:=All_ok HA openA (fun f hf=>by
  rcases List.mem_cons.1 hf with rfl|hf
  · exact erA1
  · rw [List.mem_singleton.1 hf];exact erA2) fA.1 rfl
 have H9':Calls Tryz.prog 9 #[.slice (some ⟨w.heap.size,0,none⟩) 2 2,.string ⟨#[97,46,99]⟩,.slice none 0 0] W1 fun e w'=>∃A5 c5,e= .returned (.tuple #[.slice A5 2 c5,.int .i64 0])∧Aside0 (Below W1.heap.size W1 w')∧Calls Tryz.prog 13 #[.slice A5 2 c5,.slice (some ⟨w'.heap.size,0,none⟩) 2 2] (w'.alloc (Obj.cells #[Value.string ⟨#[98,46,104]⟩,Value.string ⟨#[97,46,99]⟩] 9)) fun e w''=>e= .returned (.bool true)∧Drawn0 (w'.alloc (Obj.cells #[Value.string ⟨#[98,46,104]⟩,Value.string ⟨#[97,46,99]⟩] 9)) w'':=H9.mono (by
  rintro e w' ⟨v,out,rfl,h1,h2,h3⟩
  rw [outA h3] at h2
  obtain ⟨A5,c5,rfl⟩:=Kd.R_slice h2
  have hr:=Kd.R_reads' h2
  refine ⟨A5,c5,rfl,⟨h1⟩,?_⟩
  have hC:=strs_C (w:=w'.alloc (Obj.cells #[Value.string ⟨#[98,46,104]⟩,Value.string ⟨#[97,46,99]⟩] 9)) (g:=w'.heap.size) (zs:=[fB.1,fA.1]) (t:=9) (blk_new _ _) (by decide)
  exact OLaw.smockingref00_EqStrings.calls 5 A5 c5 [fB.1,fA.1] (some ⟨w'.heap.size,0,none⟩) 2 [fB.1,fA.1] true _ (Kd.C_below hr.2.2 (below_alloc (Below.refl _ _) _)) hr.2.1 hC (Nat.le_refl _) eqA)
 rw [hW1] at H9'
 have HB1:=z0 hb1
 have HW1:=z0 hW1
 clear H9 HA hnew hb1 hW1
 go_enter Tryz.func14,Tryz.ntmps14
 go_wp2_with (first|(go_at_call 9;go_loud (refine H9'.mono ?_;rintro e w5 ⟨A5,c5,rfl,HB5,H13⟩))|(go_at_call 13;go_loud (refine H13.mono ?_;rintro e w6 ⟨rfl,hd6⟩;have HD6:=z0 hd6;clear hd6)))
 go_ret
 have hb5:=HB5.out
 rw [←HW1.out] at hb5
 exact ⟨rfl,below_step (below_alloc (below_step HB1.out hb5) _) HD6.out.below⟩
def toS46 (x:Fl):OLaw.S46:=⟨x.1,x.2⟩
theorem C_46 {w:World}{A:Option Addr}{n:Nat}{xs:List Fl}(h:Kd.C kFl w A n xs):Kd.C OLaw.k46 w A n (xs.map toS46):=by
 refine ⟨by rw [List.length_map];exact h.1,h.2.1,fun hn=> ?_⟩
 obtain ⟨ad,e,hc⟩:=h.2.2 hn
 refine ⟨ad,e,fun j p hj=> ?_⟩
 rw [List.getElem?_map] at hj
 obtain ⟨q,hq,rfl⟩:=Option.map_eq_some_iff.1 hj
 exact hc j q hq
theorem heavy_l0 (xs:List OLaw.S46)(ps:List ByteArray)(hs:∀x∈xs,x.f0.size≤140737488355328∧x.f1.size≤140737488355328)(hl:xs.length≤140737488355328):∀(d k i:Nat) (n:Int),i≤xs.length→xs.length-i≤d→d<k→0≤n→n≤281474976715000→
 ∃r,OLaw.smockinglaw21_heavy.l0 k xs ps n (i:Int)=some r∧(r=false→n≤4000∧xs.length≤61∧ps.length≤5∧∀(j:Nat) (x:OLaw.S46),i≤j→xs[j]? =some x→x.f0.size≤4000∧x.f1.size≤4000)
 |d,0,i,n,_,_,hk,_,_=>by omega
 |d,k+1,i,n,h1,hd,hk,hn0,hn1=>by
  rw [OLaw.smockinglaw21_heavy.l0]
  have fin:(∀(j:Nat) (x:OLaw.S46),i≤j→xs[j]? =some x→x.f0.size≤4000∧x.f1.size≤4000)∨4000<n→∃r,(if n>4000 then (some true) else (if (xs.length:Int)>12 then (if (xs.length:Int)≤60 then (some true) else (if (xs.length:Int)>61 then (some true) else (some (decide ((ps.length:Int)>5))))) else (if (xs.length:Int)>61 then (some true) else (some (decide ((ps.length:Int)>5))))))=some r∧(r=false→n≤4000∧xs.length≤61∧ps.length≤5∧∀(j:Nat) (x:OLaw.S46),i≤j→xs[j]? =some x→x.f0.size≤4000∧x.f1.size≤4000):=fun hh=>by
   by_cases g1:n>4000
   · rw [if_pos g1];exact ⟨true,rfl,fun h=>absurd h (by decide)⟩
   · rw [if_neg g1]
     have hh':=hh.resolve_right (by omega)
     by_cases g2:(xs.length:Int)>12
     · rw [if_pos g2]
       by_cases g3:(xs.length:Int)≤60
       · rw [if_pos g3];exact ⟨true,rfl,fun h=>absurd h (by decide)⟩
       · rw [if_neg g3]
         by_cases g4:(xs.length:Int)>61
         · rw [if_pos g4];exact ⟨true,rfl,fun h=>absurd h (by decide)⟩
         · rw [if_neg g4]
           exact ⟨_,rfl,fun h=>⟨by omega,by omega,by have h5:=of_decide_eq_false h;omega,hh'⟩⟩
     · rw [if_neg g2]
       by_cases g4:(xs.length:Int)>61
       · rw [if_pos g4];exact ⟨true,rfl,fun h=>absurd h (by decide)⟩
       · rw [if_neg g4]
         exact ⟨_,rfl,fun h=>⟨by omega,by omega,by have h5:=of_decide_eq_false h;omega,hh'⟩⟩
  by_cases h:i<xs.length
  · rw [if_pos (by omega)]
    by_cases hn:n≤4000
    · rw [if_pos hn,if_pos (by omega)]
      have hrd:OLaw.rd_T46 xs (i:Int)=xs[i]:=by
       show xs.getD (i:Int).toNat OLaw.z46=_
       rw [List.getD_eq_getElem?_getD,show (i:Int).toNat=i from rfl,List.getElem?_eq_getElem h];rfl
      rw [hrd]
      obtain ⟨b0,b1⟩:=hs _ (List.getElem_mem h)
      rw [wr (a:=n+1) (by omega) (by omega),wr (a:=n+1+(xs[i].f0.size:Int)) (by omega) (by omega),wr (a:=n+1+(xs[i].f0.size:Int)+(xs[i].f1.size:Int)) (by omega) (by omega),wr (a:=(i:Int)+1) (by omega) (by omega)]
      cases d with
      |zero=>omega
      |succ d=>
       obtain ⟨r,hr,hf⟩:=heavy_l0 xs ps hs hl d k (i+1) (n+1+(xs[i].f0.size:Int)+(xs[i].f1.size:Int)) (by omega) (by omega) (by omega) (by omega) (by omega)
       refine ⟨r,hr,fun h0=> ?_⟩
       obtain ⟨q1,q2,q3,q4⟩:=hf h0
       refine ⟨hn,q2,q3,fun j x hj hx=> ?_⟩
       by_cases hji:j=i
       · subst hji
         rw [List.getElem?_eq_getElem h] at hx
         obtain rfl:=Option.some.inj hx
         exact ⟨by omega,by omega⟩
       · exact q4 j x (by omega) hx
    · rw [if_neg hn]
      exact fin (.inr (by omega))
  · rw [if_neg (by omega)]
    exact fin (.inl fun j x hj hx=>by
     rw [List.getElem?_eq_none (by omega)] at hx
     cases hx)
theorem heavy_tot (files:List Fl)(ps:List ByteArray)(hs:∀x∈files,x.1.size≤140737488355328∧x.2.size≤140737488355328)(hl:files.length≤140737488355328):
 ∃r,OLaw.smockinglaw21_heavy.f (files.length+1) (files.map toS46) ps=some r∧(r=false→files.length≤61∧ps.length≤5∧∀f∈files,f.1.size≤4000∧f.2.size≤4000):=by
 obtain ⟨r,hr,hf⟩:=heavy_l0 (files.map toS46) ps (fun x hx=>by
  obtain ⟨q,hq,rfl⟩:=List.mem_map.1 hx
  exact hs q hq) (by rw [List.length_map];exact hl) files.length (files.length+1) 0 0 (by omega) (by rw [List.length_map];omega) (by omega) (by omega) (by omega)
 refine ⟨r,hr,fun h0=> ?_⟩
 obtain ⟨_,q2,q3,q4⟩:=hf h0
 rw [List.length_map] at q2
 refine ⟨q2,q3,fun f hfm=> ?_⟩
 obtain ⟨j,hj⟩:=List.getElem?_of_mem hfm
 exact q4 j (toS46 f) (Nat.zero_le _) (by rw [List.getElem?_map,hj];rfl)
structure ArgsR (W:World)(files:List Fl)(ps:List ByteArray)(A Ap:Option Addr)(c cp:Nat):Prop where
 glob:Glob2 W
 fc:Kd.C kFl W A files.length files
 fl:files.length≤c
 pc:Kd.C Kd.string W Ap ps.length ps
 pl:ps.length≤cp
 hA:Ap=none∨∃b o,Ap=some ⟨b,o,none⟩
 flen:files.length≤140737488355328
 fsz:∀f∈files,f.1.size≤140737488355328∧f.2.size≤140737488355328
 psz:∀p∈ps,p.size≤140737488355328
end Go.Proofs.YtolaiebjmhieiaaGreatDoor.OScan
end
section
namespace Go.Proofs.YtolaiebjmhieiaaGreatDoor.OScan
open Go.RowKit
theorem part9' (xs:Array Value)(i:Nat)(v:Value)(w:World)(h:xs[i]? =some v):(part 9 xs i).run Tryz.prog w= .ok v w:=by
 simp [part,Tryz.isAgg9,h]
theorem part4' (xs:Array Value)(i:Nat)(v:Value)(w:World)(h:xs[i]? =some v):(part 4 xs i).run Tryz.prog w= .ok v w:=by
 simp [part,Tryz.isAgg4,h]
theorem ne33 (u1 u3:ByteArray)(u2:Bool)(w:World):(binOp BinOp.neq 33 (.agg #[.string u1,.bool u2,.string u3]) (.agg #[.string u1,.bool u2,.string u3])).run Tryz.prog w= .ok (.bool false) w:=by
 rw [run_neq_struct,run_equalIn_struct w 9999 33 _ _ (by kernel_rfl) (by kernel_rfl)]
 have e:((Tryz.prog.fieldsOf 33).toList.map fun f=>(f.name,f.type,f.offset))=[("Name",9,0),("Quote",4,1),("File",9,2)]:=by kernel_rfl
 generalize (Tryz.prog.fieldsOf 33).toList=l at e
 rcases l with _|⟨a,_|⟨b,_|⟨c,_|⟨d,l⟩⟩⟩⟩
 all_goals simp only [List.map_cons,List.map_nil,List.cons.injEq,Prod.mk.injEq,and_true,reduceCtorEq,and_false,false_and] at e
 obtain ⟨⟨a1,a2,a3⟩,⟨b1,b2,b3⟩,c1,c2,c3⟩:=e
 have p1:=fun w=>part9' #[.string u1,.bool u2,.string u3] 0 (.string u1) w rfl
 have p2:=fun w=>part4' #[.string u1,.bool u2,.string u3] 1 (.bool u2) w rfl
 have p3:=fun w=>part9' #[.string u1,.bool u2,.string u3] 2 (.string u3) w rfl
 have q1:=fun w=>run_equalIn_string (P:=Tryz.prog) w 9998 9 u1 u1 (by kernel_rfl)
 have q2:=fun w=>run_equalIn_bool' (P:=Tryz.prog) w 9998 4 u2 u2 (by kernel_rfl)
 have q3:=fun w=>run_equalIn_string (P:=Tryz.prog) w 9998 9 u3 u3 (by kernel_rfl)
 have n1:("Name":String)≠ "_":=by decide
 have n2:("Quote":String)≠ "_":=by decide
 have n3:("File":String)≠ "_":=by decide
 simp only [Op.eqFields,a1,a2,a3,b1,b2,b3,c1,c2,c3,n1,n2,n3,ne_eq,not_false_eq_true,if_true,Sem.run_bind,p1,p2,p3,q1,q2,q3,Result.andThen_ok,beq_self_eq_true,Bool.not_true,Bool.false_eq_true,if_false,Sem.run_pure]
 try trace_state
end Go.Proofs.YtolaiebjmhieiaaGreatDoor.OScan
end
section
namespace Go.Proofs.YtolaiebjmhieiaaGreatDoor.OScan
open Go.RowKit YtolaiebjmhieiaaGreatDoorW.PrintWords YtolaiebjmhieiaaGreatDoorW.PrintLast YtolaiebjmhieiaaGreatDoorW.PrintMore
section
variable {W:World}{files:List Fl}{ps:List ByteArray}{A Ap:Option Addr}{c cp:Nat}
theorem uL_len (H:ArgsOK W files ps A Ap c cp)(name:ByteArray):(uL files ps name).length≤40000:=by
 unfold uL
 rcases withF_cases files name with ⟨er,he,hw⟩|⟨m,hm,hsome,hw⟩
 · rw [hw];simp
 · rw [hw];exact usR_len4 H hm name (H.text hm name)
theorem uses_law (H:ArgsR W files ps A Ap c cp)(name:ByteArray):
 Calls Tryz.prog 3 #[.slice A files.length c,.string name,.slice Ap ps.length cp] W fun e w'=>e= .returned (.bool true)∧Below W.heap.size W w':=by
 obtain ⟨r,hr,hrf⟩:=heavy_tot files ps H.fsz H.flen
 have H6:=OLaw.smockinglaw21_heavy.calls (files.length+1) A c (files.map toS46) Ap cp ps r W (by rw [List.length_map];exact C_46 H.fc) (by rw [List.length_map];exact H.fl) H.pc H.pl hr
 rw [List.length_map] at H6
 cases r with
 |true=>
  obtain ⟨n,hn⟩:∃n,n=files.length:=⟨_,rfl⟩
  obtain ⟨np,hnp⟩:∃np,np=ps.length:=⟨_,rfl⟩
  rw [←hn,←hnp] at H6
  rw [←hn,←hnp]
  clear H hr hrf hn hnp
  go_enter Tryz.func3,Tryz.ntmps3
  go_wp2_with (go_at_call 6;go_loud (refine H6.mono ?_;rintro e w5 ⟨rfl,hd5⟩;have HB5:=z0 hd5.below;clear hd5))
  go_ret
  exact ⟨rfl,HB5.out⟩
 |false=>
  obtain ⟨hf1,hf2,hf3⟩:=hrf rfl
  have HA:ArgsOK W files ps A Ap c cp:=⟨H.glob,H.fc,H.fl,H.pc,H.hA,hf2,hf1,hf3,H.psz⟩
  have hul:=uL_len HA name
  have HLA:=z0 (fun (er:Int) (l:List ByteArray) (h:AllW files ps name er l)=>(Nat.le_trans (allW_len HA h) (by decide):l.length≤100000000))
  have HLM:=z0 (fun (er:Int) (l:List ByteArray) (h:MissW files ps name er l)=>(Nat.le_trans (missW_len HA h) (by decide):l.length≤100000000))
  have H7:=z0 (fun (w:World) (hb:Below W.heap.size W w)=>Uses_ex (HA.below hb) name)
  have H8:=z0 (fun (w:World) (hb:Below W.heap.size W w)=>rUses0_any (HA.below hb) H.pl name)
  have H9:=z0 (fun (w:World) (hb:Below W.heap.size W w)=>All_ex (HA.below hb) name)
  have H10:=z0 (fun (w:World) (hb:Below W.heap.size W w)=>rAll_any (HA.below hb) H.pl name)
  have H11:=z0 (fun (w:World) (hb:Below W.heap.size W w)=>Missing_ex (HA.below hb) name)
  have H12:=z0 (fun (w:World) (hb:Below W.heap.size W w)=>rMissing_any (HA.below hb) H.pl name)
  have H14:=z0 (fun (w:World) (hb:Below W.heap.size W w)=>awake_any w (H.glob.below hb))
  obtain ⟨n,hn⟩:∃n,n=files.length:=⟨_,rfl⟩
  obtain ⟨np,hnp⟩:∃np,np=ps.length:=⟨_,rfl⟩
  obtain ⟨U,hU⟩:∃U,U=uL files ps name:=⟨_,rfl⟩
  obtain ⟨ue,hue⟩:∃ue,ue=uE files name:=⟨_,rfl⟩
  rw [←hn,←hnp] at H6
  rw [←hn,←hnp,←hU,←hue] at H7 H8
  rw [←hn,←hnp] at H9 H10 H11 H12
  rw [←hU] at hul
  rw [←hn,←hnp]
  obtain ⟨L,hL⟩:∃L,L=U.length:=⟨_,rfl⟩
  rw [←hL] at hul
  have HL:=z0 hL
  clear H hr hrf hn hnp HA hf1 hf2 hf3 hU hue hL
  have hee:(ue !=ue)=false:=by simp
  go_enter Tryz.func3,Tryz.ntmps3
  go_wp2_with (first|(go_at_call 6;go_loud (refine H6.mono ?_;rintro e w1 ⟨rfl,hd1⟩;have HB1:=z0 hd1.below;clear hd1))|(go_at_call 7;go_loud (refine (H7.out w1 HB1.out).mono ?_;rintro e w2 ⟨v2,rfl,hr2,hb2⟩;obtain ⟨A2,c2,e2⟩:=Kd.R_slice hr2;rw [←HL.out] at e2;subst e2;have HR2:=z0 hr2;have HB2:=z0 (below_step HB1.out hb2);clear hr2 hb2))|(go_at_call 8;go_loud (refine (H8.out w2 HB2.out).mono ?_;rintro e w3 ⟨v3,rfl,hr3,hb3⟩;obtain ⟨A3,c3,e3⟩:=Kd.R_slice hr3;rw [←HL.out] at e3;subst e3;have HR3:=z0 hr3;have HR23:=z0 (Kd.R_below HR2.out hb3);have HB3:=z0 (below_step HB2.out hb3);clear hr3 hb3)))
  go_loopg [11] L (fun kq v11 wr=>∃(i:Nat),v11= .int .i64 i∧Aside0 (kq+i=L)∧Aside0 (Below w3.heap.size w3 wr))
  case atStart=>exact ⟨0,rfl,⟨rfl⟩,⟨Below.refl _ _⟩⟩
  case round=>
   obtain ⟨i,rfl,hki,hB⟩:=hrel
   have hki':=hki.out
   have HBW:=z0 (below_step HB3.out hB.out)
   cases gk with
   |zero=>
    obtain rfl:i=L:=by omega
    have hlt:decide ((i:Int)<(i:Int))=false:=decide_eq_false (by omega)
    go_wp2_with (first|(go_at_call 9;go_loud (refine (H9.out _ HBW.out).mono ?_;rintro e w4 ⟨v4,e4,l4,rfl,hA4,hr4,hb4⟩;have HA4:=z0 hA4;obtain ⟨A4,c4,q4⟩:=Kd.R_slice hr4;obtain ⟨N4,hN4⟩:∃N4,N4=l4.length:=⟨_,rfl⟩;have HN4:=z0 hN4;clear hN4 hA4;rw [←HN4.out] at q4;subst q4;have HR4_4:=z0 hr4;have HB4:=z0 (below_step HBW.out hb4);clear hr4 hb4))|(go_at_call 10;go_loud (refine (H10.out _ HB4.out).mono ?_;rintro e w5 ⟨v5,e5,l5,rfl,hA5,hr5,hb5⟩;obtain ⟨rfl,rfl⟩:=HA4.out.det hA5;obtain ⟨A5,c5,q5⟩:=Kd.R_slice hr5;have HN5:=HN4;clear hA5;rw [←HN5.out] at q5;subst q5;have HR5_5:=z0 hr5;have HR4_5:=z0 (Kd.R_below HR4_4.out hb5);have HB5:=z0 (below_step HB4.out hb5);clear hr5 hb5))|(go_at_call 11;go_loud (refine (H11.out _ HB5.out).mono ?_;rintro e w6 ⟨v6,e6,l6,rfl,hA6,hr6,hb6⟩;have HA6:=z0 hA6;obtain ⟨A6,c6,q6⟩:=Kd.R_slice hr6;obtain ⟨N6,hN6⟩:∃N6,N6=l6.length:=⟨_,rfl⟩;have HN6:=z0 hN6;clear hN6 hA6;rw [←HN6.out] at q6;subst q6;have HR6_6:=z0 hr6;have HR4_6:=z0 (Kd.R_below HR4_5.out hb6);have HR5_6:=z0 (Kd.R_below HR5_5.out hb6);have HB6:=z0 (below_step HB5.out hb6);clear hr6 hb6))|(go_at_call 12;go_loud (refine (H12.out _ HB6.out).mono ?_;rintro e w7 ⟨v7,e7,l7,rfl,hA7,hr7,hb7⟩;obtain ⟨rfl,rfl⟩:=HA6.out.det hA7;obtain ⟨A7,c7,q7⟩:=Kd.R_slice hr7;have HN7:=HN6;clear hA7;rw [←HN7.out] at q7;subst q7;have HR7_7:=z0 hr7;have HR4_7:=z0 (Kd.R_below HR4_6.out hb7);have HR5_7:=z0 (Kd.R_below HR5_6.out hb7);have HR6_7:=z0 (Kd.R_below HR6_6.out hb7);have HB7:=z0 (below_step HB6.out hb7);clear hr7 hb7))|(go_at_call 13;go_loud (refine (eqS_any l6 (HLM.out _ _ HA6.out) w8 A6 A7 N6 c6 c7 HN6.out (by have h:=(Kd.R_reads' HR6_8.out).2.2;rwa [←HN6.out] at h) (by have h:=(Kd.R_reads' HR6_8.out).2.1;exact h) (by have h:=(Kd.R_reads' HR7_8.out).2.2;rwa [←HN6.out] at h) (by have h:=(Kd.R_reads' HR7_8.out).2.1;exact h)).mono ?_;rintro e w9 ⟨rfl,hb9⟩;have HB9:=z0 (below_step HB8.out hb9);clear hb9))|(go_at_call 13;go_loud (refine (eqS_any l4 (HLA.out _ _ HA4.out) w7 A4 A5 N4 c4 c5 HN4.out (by have h:=(Kd.R_reads' HR4_7.out).2.2;rwa [←HN4.out] at h) (by have h:=(Kd.R_reads' HR4_7.out).2.1;exact h) (by have h:=(Kd.R_reads' HR5_7.out).2.2;rwa [←HN4.out] at h) (by have h:=(Kd.R_reads' HR5_7.out).2.1;exact h)).mono ?_;rintro e w8 ⟨rfl,hb8⟩;have HR6_8:=z0 (Kd.R_below HR6_7.out hb8);have HR7_8:=z0 (Kd.R_below HR7_7.out hb8);have HB8:=z0 (below_step HB7.out hb8);clear hb8))|(go_at_call 14;go_loud (refine (H14.out _ HB9.out).mono ?_;rintro e w10 ⟨rfl,hb10⟩;have HB10:=z0 (below_step HB9.out hb10);clear hb10)))
    go_ret
    exact ⟨rfl,HB10.out⟩
   |succ g1=>
    have hlt:decide ((i:Int)<(L:Int))=true:=decide_eq_true (by omega)
    have hin:i<L:=by omega
    have hii:(0:Int)≤(i:Int):=by omega
    obtain ⟨u,hu⟩:∃u,U[i]? =some u:=⟨_,List.getElem?_eq_getElem (by rw [←HL.out];exact hin)⟩
    have hC2:Kd.C kUs wr A2 L U:=by have h:=(Kd.R_reads' (Kd.R_below HR23.out hB.out)).2.2;rwa [←HL.out] at h
    have hC3:Kd.C kUs wr A3 L U:=by have h:=(Kd.R_reads' (Kd.R_below HR3.out hB.out)).2.2;rwa [←HL.out] at h
    obtain ⟨ad2,hA2,a0,a1,a2⟩:=us_at hC2 i hin u hu
    obtain ⟨ad3,hA3,b0,b1,b2⟩:=us_at hC3 i hin u hu
    obtain rfl:=hA2
    obtain rfl:=hA3
    obtain ⟨u1,u2,u3⟩:=u
    simp only at a0 a1 a2 b0 b1 b2
    clear hu hC2 hC3
    have hne:=fun w=>ne33 u1 u3 u2 w
    have HX:=z0 (And.intro HBW.out hB.out)
    clear hB HBW HR2 HR23 HR3 H6 H7 H8 H9 H10 H11 H12 H14 HLA HLM HB1 HB2 HB3 hki HL
    go_wp2_with (fail)
    go_quiet (fail)
    have HY:=z0 (And.intro (pw_below_drewN HX.out.1 nq) (pw_below_drewN HX.out.2 nq))
    clear a0 a1 a2 b0 b1 b2 hne HX
    generalize wr.drewN nq=w5 at *
    go_wp2_with (fail)
    go_roundg g1
    case measure=>omega
    case rel=>exact ⟨i+1,(by (try simp)),⟨by omega⟩,⟨HY.out.2⟩⟩
end
end Go.Proofs.YtolaiebjmhieiaaGreatDoor.OScan
end
