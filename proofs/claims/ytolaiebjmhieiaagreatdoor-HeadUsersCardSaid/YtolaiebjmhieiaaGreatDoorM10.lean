/- Parts of the proof of HeadUsers; no condition. -/
import Derived.Test.YtolaiebjmhieiaaGreatDoorM09
import Derived.Test.YtolaiebjmhieiaaGreatDoorM06
import Derived.Test.YtolaiebjmhieiaaGreatDoorM05
import Derived.Test.YtolaiebjmhieiaaGreatDoorM01
import Derived.Test.YtolaiebjmhieiaaGreatDoorM07
set_option maxHeartbeats 8000000
set_option maxRecDepth 100000
set_option linter.unusedVariables false
set_option linter.unusedSimpArgs false
section
namespace Go.Proofs.YtolaiebjmhieiaaGreatDoor.OScan
open Go.RowKit YtolaiebjmhieiaaGreatDoorW.PrintWords YtolaiebjmhieiaaGreatDoorW.PrintLast YtolaiebjmhieiaaGreatDoorW.PrintMore
theorem KR (s:ByteArray):s.extract 0 0=⟨#[]⟩:=by
 apply Go.WideShapes.bytes_inj
 rw [Lib.extract_data];simp
theorem toList_nil (s:ByteArray):s.toList=([]:List UInt8)↔s.size=0:=by
 rw [ByteArray.toList_eq,←iM]
 exact List.length_eq_zero_iff.symm
theorem Ez (s:ByteArray)(hs:s.size≤4611686018427387904):∀(k:Nat) (x t:Int), -1≤x→x<s.size→OJoin.bytealg_LastIndexByteString.l0 k s 47 x=some t→ORef.dG.l0 k s x=some (s.extract 0 (max 0 t).toNat,true)
 |0,x,t,_,_,h=>by cases h
 |k+1,x,t,h0,h1,h=>by
  rw [OJoin.bytealg_LastIndexByteString.l0] at h
  rw [ORef.dG.l0]
  by_cases hx:x≥0
  · rw [if_pos hx,if_pos hx,if_pos h1] at h
    rw [if_pos hx,if_pos hx,if_pos h1]
    by_cases hb:bt s x=47
    · rw [if_pos hb] at h
      obtain rfl:=Option.some.inj h
      rw [if_pos hb,if_pos (by omega),show max 0 x=x by omega]
    · rw [if_neg hb,wr (by omega) (by omega)] at h
      rw [if_neg hb,wr (by omega) (by omega)]
      exact Ez s hs k (x-1) t (by omega) (by omega) h
  · rw [if_neg hx] at h
    obtain rfl:=Option.some.inj h
    rw [if_neg hx,show (max 0 (-1:Int)).toNat=0 from rfl,KR]
theorem BU (s:ByteArray)(h0:s.size≠0)(hs:s.size≤4611686018427387904)(k:Nat)(t:Int)(ht:OJoin.strings_LastIndexByte.f k s 47=some t):ORef.dG.f k s=some (s.extract 0 (max 0 t).toNat,true):=by
 unfold OJoin.strings_LastIndexByte.f OJoin.bytealg_LastIndexByteString.f at ht
 obtain ⟨t',ht',he⟩:=Option.bind_eq_some_iff.1 ht
 obtain rfl:=Option.some.inj he
 rw [wr (by omega) (by omega)] at ht'
 unfold ORef.dG.f
 rw [if_neg (fun h=>h0 ((toList_nil s).1 h)),wr (by omega) (by omega)]
 exact Ez s hs k _ _ (by omega) (by omega) ht'
theorem NQ (s:ByteArray)(h0:s.size≠0)(hs:s.size≤1000000):ORef.dG.f (s.size+2) s=some (s.extract 0 (max 0 (ldR s)).toNat,true):=
 BU s h0 (by omega) _ _ (Iu s hs).1
theorem IZ (a p:ByteArray):OJoin.strings_CutPrefix.f a p=some (if p.size≤a.size∧(a.extract 0 p.size).toList=p.toList then (a.extract p.size a.size,true) else (a,false)):=by
 unfold OJoin.strings_CutPrefix.f OJoin.stringslite_CutPrefix.f OJoin.stringslite_HasPrefix.f
 by_cases h:p.size≤a.size
 · rw [if_pos (by omega),if_pos (by omega),if_pos (by omega),Option.bind_some,Int.toNat_natCast]
   by_cases he:(a.extract 0 p.size).toList=p.toList
   · rw [if_pos (show p.size≤a.size∧(a.extract 0 p.size).toList=p.toList from ⟨h,he⟩),beq_iff_eq.2 he,if_pos rfl,if_pos (by omega),if_pos (by omega)];rfl
   · rw [if_neg (show ¬(p.size≤a.size∧(a.extract 0 p.size).toList=p.toList) from fun h=>he h.2),beq_eq_false_iff_ne.2 he];rfl
 · rw [if_neg (by omega),if_neg (show ¬(p.size≤a.size∧(a.extract 0 p.size).toList=p.toList) from fun h'=>h h'.1)];rfl
theorem rW (s:ByteArray)(c t:Int)(k:Nat)(h:OJoin.strings_LastIndexByte.f k s c=some t):∀m,OJoin.strings_LastIndexByte.f (k+m) s c=some t
 |0=>h
 |m+1=>OJoin.strings_LastIndexByte.mono s c (k+m) t (rW s c t k h m)
theorem sZ:∀(k:Nat) (d n:ByteArray) (r:ByteArray × Bool) (K:Nat),OJoin.fD.l0 k d n=some r→n.size≤1000000→d.size≤140737488355328→3*k+d.size+6≤K→ORef.bn.l0 K d n=some r
 |0,d,n,r,K,h,_,_,_=>by cases h
 |k+1,d,n,r,K,h,hn,hd,hK=>by
  obtain ⟨K,rfl⟩:∃K',K=K'+3:=⟨K-3,by omega⟩
  rw [OJoin.fD.l0,IZ,Option.bind_some] at h
  have z1:(⟨#[46,47]⟩:ByteArray).size=2:=rfl
  have z2:(⟨#[46,46,47]⟩:ByteArray).size=3:=rfl
  have l1:(⟨#[46,47]⟩:ByteArray).toList=([46,47]:List UInt8):=by rw [ByteArray.toList_eq]
  have l2:(⟨#[46,46,47]⟩:ByteArray).toList=([46,46,47]:List UInt8):=by rw [ByteArray.toList_eq]
  rw [z1,l1] at h
  rw [ORef.bn.l0]
  have hj1:∀b:Bool,(b=true↔(2≤n.size∧(n.extract 0 2).toList=[46,47]))→ORef.bn.j1 (K+2) d n b=some r:=fun b hb=>by
   rw [ORef.bn.j1]
   by_cases c1:2≤n.size∧(n.extract 0 2).toList=[46,47]
   · rw [if_pos c1] at h
     rw [if_pos (hb.2 c1),if_pos (by omega)]
     exact sZ k d _ r (K+1) h (by rw [ByteArray.size_extract];omega) hd (by omega)
   · rw [if_neg c1] at h
     simp only at h
     rw [if_neg (by decide),IZ,Option.bind_some,z2,l2] at h
     rw [if_neg (fun e=>c1 (hb.1 e))]
     have hj2:∀b:Bool,(b=true↔(3≤n.size∧(n.extract 0 3).toList=[46,46,47]))→ORef.bn.j2 (K+1) d n b=some r:=fun b hb2=>by
      rw [ORef.bn.j2]
      by_cases c2:3≤n.size∧(n.extract 0 3).toList=[46,46,47]
      · rw [if_pos c2] at h
        simp only at h
        rw [if_pos (by decide)] at h
        rw [if_pos (hb2.2 c2)]
        by_cases hx:d.toList=([]:List UInt8)
        · rw [if_pos hx] at h
          unfold ORef.dG.f
          rw [if_pos hx,Option.bind_some]
          simp only
          rw [if_neg (by decide)]
          exact h
        · rw [if_neg hx] at h
          have hds:d.size≠0:=fun e=>hx ((toList_nil d).2 e)
          obtain ⟨t,ht,h⟩:=Option.bind_eq_some_iff.1 h
          obtain ⟨t',ht',t1,t2,_⟩:=ng d 47 (by omega) K (by omega)
          have htt:t'=t:=by
           have h2:=rW d 47 t k ht (K-k)
           rw [show k+(K-k)=K by omega,ht'] at h2
           exact Option.some.inj h2
          subst htt
          have hm:mx 0 t'=max 0 t':=by unfold mx;split<;>omega
          rw [if_pos (by omega),if_pos (by omega),hm] at h
          rw [BU d hds (by omega) K t' ht',Option.bind_some]
          simp only
          rw [if_pos trivial,if_pos (by omega)]
          exact sZ k _ _ r K h (by rw [ByteArray.size_extract];omega) (by rw [ByteArray.size_extract];omega) (by rw [ByteArray.size_extract];omega)
      · rw [if_neg c2] at h
        simp only at h
        rw [if_neg (by decide)] at h
        rw [if_neg (fun e=>c2 (hb2.1 e))]
        exact h
     by_cases c3:3≤n.size
     · rw [if_pos (by omega),if_pos (by omega),if_pos (by omega)]
       exact hj2 _ ⟨fun e=>⟨c3,beq_iff_eq.1 e⟩,fun e=>beq_iff_eq.2 e.2⟩
     · rw [if_neg (by omega)]
       exact hj2 _ ⟨fun e=>absurd e (by decide),fun e=>absurd e.1 c3⟩
  by_cases c4:2≤n.size
  · rw [if_pos (by omega),if_pos (by omega),if_pos (by omega)]
    exact hj1 _ ⟨fun e=>⟨c4,beq_iff_eq.1 e⟩,fun e=>beq_iff_eq.2 e.2⟩
  · rw [if_neg (by omega)]
    exact hj1 _ ⟨fun e=>absurd e (by decide),fun e=>absurd e.1 c4⟩
theorem Lu (d n:ByteArray)(hn:n.size≤1000000)(hd:d.size≤140737488355328):ORef.bn.f (4*d.size+3*n.size+30) d n=some (iO d n):=by
 obtain ⟨r,hr⟩:=qh n.size (d.size+n.size+5) d n (Nat.le_refl _) (by omega) (by omega) (by omega)
 have hj:iO d n=r:=by unfold iO OJoin.fD.f;rw [hr];rfl
 rw [hj]
 exact sZ _ d n r _ hr (by omega) (by omega) (by omega)
def jq (x:Fl):ORef.S46:=⟨x.1,x.2⟩
theorem bytes_eq {a b:ByteArray}(h:a.toList=b.toList):a=b:=by
 rw [ByteArray.toList_eq,ByteArray.toList_eq] at h
 exact Go.WideShapes.bytes_inj h
theorem yS (files:List Fl)(name:ByteArray)(hl:files.length≤1000000):∀(d k i:Nat),i≤files.length→files.length-i≤d→d<k→(∀j,j<i→∀f,files[j]? =some f→f.1≠name)→
 ∃r,ORef.aW.l0 k (files.map jq) name (i:Int)=some r∧((r= -1∧∀f∈files,f.1≠name)∨∃(j:Nat) (f:Fl),r=j∧files[j]? =some f∧f.1=name∧∀i,i<j→∀g,files[i]? =some g→g.1≠name)
 |d,0,i,_,_,hk,_=>by omega
 |d,k+1,i,h1,hd,hk,hn=>by
  rw [ORef.aW.l0]
  by_cases h:i<files.length
  · rw [if_pos (by rw [List.length_map];omega),if_pos (by omega)]
    have hrd:ORef.iU (files.map jq) (i:Int)=jq files[i]:=by
     show (files.map jq).getD (i:Int).toNat _=_
     rw [Int.toNat_natCast,List.getD_eq_getElem?_getD,List.getElem?_map,List.getElem?_eq_getElem h];rfl
    rw [hrd]
    have hf0:(jq files[i]).f0=files[i].1:=rfl
    rw [hf0]
    by_cases he:files[i].1.toList=name.toList
    · rw [if_pos he]
      exact ⟨i,rfl,.inr ⟨i,files[i],rfl,List.getElem?_eq_getElem h,bytes_eq he,hn⟩⟩
    · rw [if_neg he,show wrap64 ((i:Int)+1)=((i+1:Nat):Int) from (OScan.wr (by omega) (by omega)).trans (by omega)]
      refine yS files name hl (d-1) k (i+1) (by omega) (by omega) (by omega) (fun j hj f hf=> ?_)
      rcases Nat.lt_or_ge j i with h2|h2
      · exact hn j h2 f hf
      · obtain rfl:j=i:=by omega
        rw [List.getElem?_eq_getElem h] at hf
        obtain rfl:=Option.some.inj hf
        exact fun e=>he (by rw [e])
  · rw [if_neg (by rw [List.length_map];omega)]
    refine ⟨-1,rfl,.inl ⟨rfl,fun f hf=> ?_⟩⟩
    obtain ⟨j,hj⟩:=List.getElem?_of_mem hf
    exact hn j (by have:=(List.getElem?_eq_some_iff.1 hj).1;omega) f hj
def iQ (files:List Fl)(name:ByteArray):Int:=(ORef.aW.f (files.length+1) (files.map jq) name).getD (-1)
theorem qL (files:List Fl)(name:ByteArray)(hl:files.length≤1000000):ORef.aW.f (files.length+1) (files.map jq) name=some (iQ files name)∧
 ((iQ files name= -1∧∀f∈files,f.1≠name)∨∃(j:Nat) (f:Fl),iQ files name=j∧files[j]? =some f∧f.1=name∧∀i,i<j→∀g,files[i]? =some g→g.1≠name):=by
 obtain ⟨r,hr,h⟩:=yS files name hl files.length (files.length+1) 0 (by omega) (by omega) (by omega) (fun j hj=>by omega)
 have hf:ORef.aW.f (files.length+1) (files.map jq) name=some r:=hr
 have hn:iQ files name=r:=by unfold iQ;rw [hf];rfl
 rw [hn]
 exact ⟨hf,h⟩
theorem Jk {w:World}{A:Option Addr}{n:Nat}{xs:List Fl}(h:Kd.C kFl w A n xs):Kd.C ORef.k46 w A n (xs.map jq):=by
 refine ⟨by rw [List.length_map];exact h.1,h.2.1,fun hn=> ?_⟩
 obtain ⟨ad,e,hc⟩:=h.2.2 hn
 refine ⟨ad,e,fun j p hj=> ?_⟩
 rw [List.getElem?_map] at hj
 obtain ⟨q,hq,rfl⟩:=Option.map_eq_some_iff.1 hj
 exact hc j q hq
theorem pX (files:List Fl)(name:ByteArray)(w:World)(A:Option Addr)(c:Nat)(hC:Kd.C kFl w A files.length files)(hc:files.length≤c)(hl:files.length≤1000000):
 Calls Tryz.prog 24 #[.slice A files.length c,.string name] w fun e w'=>e= .returned (.int .i64 (iQ files name))∧Below w.heap.size w w':=by
 have h:=ORef.aW.calls (files.length+1) A c (files.map jq) name _ w (by rw [List.length_map];exact Jk hC) (by rw [List.length_map];exact hc) (qL files name hl).1
 rw [List.length_map] at h
 exact h.mono fun e w' h=>⟨h.1,by first|exact h.2|exact h.2.below⟩
def l9 (files:List Fl):List (ByteArray × Bool)→ByteArray
 |[]=>⟨#[]⟩
 |j::l=>if j.2=true∧0≤iQ files j.1 then j.1 else l9 files l
def iV (files:List Fl)(ps:List ByteArray)(name s:ByteArray)(i:Nat):ByteArray:=match jf s i with
 |some (n,q)=>l9 files ((uP ps name q).map fun d=>iO d n)
 |none=>⟨#[]⟩
def usN (files:List Fl)(ps:List ByteArray)(name s:ByteArray):List Us:=if erR s≠0 then [] else usF (jf s) (iV files ps name s) (grR s) (eG s).1.length
theorem Hw (s:ByteArray)(hs:s.size≤1000000):∃b,ORef.dG.f (s.size+2) s=some (s.extract 0 (max 0 (ldR s)).toNat,b):=by
 rcases Nat.eq_zero_or_pos s.size with h0|h0
 · have hl:ldR s= -1:=by
    obtain ⟨t,ht,_,_,h⟩:=ng s 47 (by omega) (s.size+2) (by omega)
    unfold ldR;rw [ht,h h0];rfl
   refine ⟨false,?_⟩
   unfold ORef.dG.f
   rw [if_pos ((toList_nil s).2 h0),hl,show (max 0 (-1:Int)).toNat=0 from rfl,KR]
 · exact ⟨true,NQ s (by omega) hs⟩
theorem JJ (s:ByteArray)(hs:s.size≤4000):∀(i:Nat) (t:Tk),(eG s).1[i]? =some t→∃r k,(ksR s)[i]? =some r∧OKin.bD.f k t.1 t.2.1 t.2.2.1 t.2.2.2=some r:=fun i t h=>by
 refine ⟨jV t,20,by unfold ksR;rw [List.getElem?_map,h];rfl,H8 t ?_⟩
 have:=(pU s hs).2 i t h
 omega
theorem Gx {incs:Nat→Option (ByteArray × Bool)}{files:Nat→ByteArray}{gs:List Gr}{i:Nat}(h:incs i=none):usF incs files gs (i+1)=usF incs files gs i:=by
 conv=>lhs;unfold usF
 rw [h];simp
theorem Jo {incs:Nat→Option (ByteArray × Bool)}{files:Nat→ByteArray}{gs:List Gr}{i:Nat}{n:ByteArray}{q:Bool}(h:incs i=some (n,q))(hs:lY gs i=false):usF incs files gs (i+1)=usF incs files gs i:=by
 conv=>lhs;unfold usF
 rw [h];simp [hs]
theorem Jm {incs:Nat→Option (ByteArray × Bool)}{files:Nat→ByteArray}{gs:List Gr}{i:Nat}{n:ByteArray}{q:Bool}(h:incs i=some (n,q))(hs:lY gs i=true):usF incs files gs (i+1)=usF incs files gs i++[(n,q,files i)]:=by
 conv=>lhs;unfold usF
 rw [h];simp [hs]
theorem D5 {t:Tk}{x:ByteArray × Bool}(h:oQ t=some x):je (jV t)=false∧(jV t).toList≠jI∧(jV t).toList≠jl∧(jV t).toList≠gU:=by
 have hk:(jV t).toList=oG:=by
  unfold oQ at h
  split at h
  · assumption
  · cases h
 refine ⟨?_,?_,?_,?_⟩
 · unfold je;rw [hk];rfl
 · rw [hk];decide
 · rw [hk];decide
 · rw [hk];decide
theorem FW (d nm:ByteArray)(W:World)(hn:nm.size≤1000000)(hd:d.size≤140737488355328):Calls Tryz.prog 51 #[.string d,.string nm] W fun e w'=>e= .returned (.tuple #[.string (iO d nm).1,.bool (iO d nm).2])∧dM W w':=
 ORef.bn.calls (4*d.size+3*nm.size+30) d nm (iO d nm).1 (iO d nm).2 W (Lu d nm hn hd)
theorem info33:(Tryz.prog.info? 33).map (fun i=>(i.zero,i.size,i.bytes))=some (some (.agg #[(.string ⟨#[]⟩),(.bool false),(.string ⟨#[]⟩)]),3,40):=by kernel_rfl
theorem Ep:Tryz.prog.underlying 29=some (.slice 33):=by kernel_rfl
theorem uZ:Tryz.prog.underlying 23=some (.slice 9):=by kernel_rfl
theorem IC (w:World)(base:Nat)(ok:Nat→Prop)(a c:ByteArray)(b:Bool):kUs.M w base ok (a,b,c) [.string a,.bool b,.string c]:=⟨[.string a],_,rfl,rfl,⟨[.bool b],_,rfl,rfl,rfl⟩⟩
theorem row0 {w:World}{base g:Nat}{ok:Nat→Prop}(h:w.heap[g]? =some (.cells #[] 9 (0,0)))(hb:base≤g)(ho:ok g):Kd.R Kd.string 9 w base ok (.slice (some ⟨g,0,none⟩) 0 0) []:=
 Kd.mY (enc:=Value.string) (h1:=fun _=>rfl) ⟨rfl,.inr ⟨g,0,#[],rfl,hb,h,Nat.le_refl _,by decide,rfl,rfl⟩⟩ (fun k hk=>by
  have:g=k:=by simpa [Value.ownBlock] using hk
  rw [←this];exact ho)
theorem Hr {w:World}{base g:Nat}{ok:Nat→Prop}{x:ByteArray}(h:w.heap[g]? =some (.cells #[.string x] 9 (0,0)))(hb:base≤g)(ho:ok g):Kd.R Kd.string 9 w base ok (.slice (some ⟨g,0,none⟩) 1 1) [x]:=
 Kd.mY (enc:=Value.string) (h1:=fun _=>rfl) ⟨rfl,.inr ⟨g,1,#[.string x],rfl,hb,h,Nat.le_refl _,by decide,rfl,rfl⟩⟩ (fun k hk=>by
  have:g=k:=by simpa [Value.ownBlock] using hk
  rw [←this];exact ho)
theorem Nq {w:World}{A:Option Addr}{n:Nat}{xs:List (Int × Int)}(h:Kd.C kIP w A n xs)(i:Nat)(h1:i<n)(x:Int × Int)(hx:xs[i]? =some x):∃ad,A=some ad∧w.cell? (ad.add (i*2))=some (.int .i64 x.1)∧w.cell? ⟨(ad.add (i*2)).block,(ad.add (i*2)).off+1,none⟩=some (.int .i64 x.2):=by
 obtain ⟨ad,c,e,_,hK,hc0⟩:=Kd.pJ h x i (by omega) (by omega)
 have hxi:xs.getD (i:Int).toNat x=x:=by simp [List.getD_eq_getElem?_getD,hx]
 rw [hxi] at hK
 have hc:∀j u,c[j]? =some u→w.cell? (ad.add (i*2+j))=some u:=hc0
 obtain ⟨c1,c2,rfl,rfl,rfl⟩:=hK
 exact ⟨ad,e,hc 0 _ rfl,by rw [←gZ _ _ 1 (by omega)];exact hc 1 _ rfl⟩
theorem yT {files:List Fl}{ps:List ByteArray}{A Ap:Option Addr}{c cp:Nat}{w:World}(H:iG w files ps A Ap c cp)(hcp:ps.length≤cp)(k:Nat)(f:Fl)(hf:files[k]? =some f):
 Calls Tryz.prog 25 #[.slice A files.length c,.int .i64 (k:Int),.slice Ap ps.length cp] w fun e w'=>∃v,e= .returned (.tuple #[v,.int .i64 (erR f.2)])∧Kd.R kUs 33 w' w.heap.size (fun _=>True) v (usN files ps f.1 f.2)∧Below w.heap.size w w':=by
 obtain ⟨name,s⟩:=f
 simp only
 obtain ⟨hn4,hs4⟩:=H.fsz (name,s) (List.mem_of_getElem? hf)
 simp only at hn4 hs4
 have hkl:=(List.getElem?_eq_some_iff.1 hf).1
 obtain ⟨ad,hA,hx0,hx1⟩:=oP H.fc k hkl (name,s) hf
 obtain rfl:=hA
 obtain ⟨hyl,hyt⟩:=pU s hs4
 have hkk:=JJ s hs4
 have hks:(ksR s).length=(eG s).1.length:=by simp [ksR]
 have H46:=fun W=>yU s W (by omega)
 have H47:=fun (W:World) A c hC hc=>uH (eG s).1 (ksR s) W A c hC hc (by omega) hks hkk
 have H50:=fun (W:World) A c hC hc he i hi=>JL (eG s).1 (ksR s) W A c hC hc (by omega) hks hkk he i hi
 obtain ⟨bu,hbu⟩:=Hw name (by omega)
 have H48:=fun W=>ORef.dG.calls (name.size+2) name _ _ W hbu
 obtain ⟨own,hown⟩:∃own,own=name.extract 0 (max 0 (ldR name)).toNat:=⟨_,rfl⟩
 rw [←hown] at H48
 obtain ⟨ys,hys⟩:∃ys,ys=(eG s).1:=⟨_,rfl⟩
 obtain ⟨n,hn⟩:∃n,n=ys.length:=⟨_,rfl⟩
 rw [←hys,←hn] at H47 H50
 rw [←hys] at hyl hyt H46
 obtain ⟨e1,he1⟩:∃e1,e1=(eG s).2:=⟨_,rfl⟩
 rw [←he1] at H46
 obtain ⟨e2,he2⟩:∃e2,e2=(bZ (ksR s)).2.1:=⟨_,rfl⟩
 rw [←he2] at H47 H50
 have HH:=z0 H
 have HCP:=z0 hcp
 have HOWN:=z0 hown
 have HYS:=z0 hys
 have HN:=z0 hn
 have HE1:=z0 he1
 have HE2:=z0 he2
 have HYT:=z0 hyt
 have hn40:n≤40000:=by omega
 obtain ⟨NF,hNF⟩:∃NF,NF=files.length:=⟨_,rfl⟩
 rw [←hNF] at hkl ⊢
 have HNF:=z0 hNF
 have H24:ah (∀(nm':ByteArray) (W:World),Below w.heap.size w W→Calls Tryz.prog 24 #[.slice (some ad) NF c,.string nm'] W fun e w'=>e= .returned (.int .i64 (iQ files nm'))∧Below W.heap.size W w'):=⟨fun nm' W hb=>by
  have h:=pX files nm' W (some ad) c (Kd.fC HH.out.fc hb) HH.out.fl (by have:=HH.out.nfl;omega)
  rwa [←hNF] at h⟩
 obtain ⟨NP,hNP⟩:∃NP,NP=ps.length:=⟨_,rfl⟩
 rw [←hNP] at ⊢
 have HNP:=z0 hNP
 have hk0:(0:Int)≤(k:Int):=by omega
 have hk1:(k:Int)<(NF:Int):=by omega
 have HF:=z0 hf
 clear H hcp hown hys hn he1 he2 hyl hyt hbu hkk hks hNF hNP hf hs4
 by_cases h1:e1=0
 · subst h1
   by_cases h2:e2=0
   · subst h2
     have HER:ah (erR s=0∧usN files ps name s=usF (jf s) (iV files ps name s) (grR s) n):=⟨by
      have:erR s=0:=by unfold erR;rw [if_neg (by rw [←HE1.out];decide)];exact HE2.out.symm
      exact ⟨this,by unfold usN;rw [this,if_neg (by decide),←HYS.out,←HN.out]⟩⟩
     go_enter Tryz.func25,Tryz.ntmps25
     go_wp2_with (first|(go_at_call 46;go_loud (refine (H46 _).mono ?_;rintro e w3 ⟨v3,rfl,hR,hb3⟩;obtain ⟨A3,c3,rfl⟩:=Kd.bF hR;have hq:=Kd.aZ hR;rw [←HN.out] at hq ⊢;have HC3:=z0 hq.2.2;have HL3:=z0 hq.2.1;have HB3:=z0 hb3;have hy0:=(hb3.cell (World.block_lt_of_cell? _ _ hx0)).trans hx0;clear hR hb3 hq))|(go_at_call 47;go_loud (refine (H47 _ A3 c3 HC3.out HL3.out).mono ?_;rintro e w4 ⟨v4,x4,og,rfl,hog,hR4,hb4⟩;have HB4:=z0 hb4;have hz0:=(hb4.cell (World.block_lt_of_cell? _ _ hy0)).trans hy0;clear hR4 hb4 hog))|(go_at_call 48;go_loud (refine (H48 _).mono ?_;rintro e w5 ⟨rfl,hd⟩;have HB5:=z0 (HB4.out.trans ⟨hd.below.os,hd.below.tape,hd.below.output,hd.below.size,fun k hk=>hd.below.block k (Nat.lt_of_lt_of_le hk HB4.out.size)⟩);clear hd)))
     have HBW:ah (Below w.heap.size w w5):=⟨ak HB3.out HB5.out⟩
     go_loopg [12,13] n (fun kq v12 v13 w'=>∃(i:Nat),v13= .int .i64 i∧ah (kq+i=n)∧ah (Kd.R kUs 33 w' w3.heap.size (fun _=>True) v12 (usF (jf s) (iV files ps name s) (grR s) i))∧ah (Below w3.heap.size w3 w')∧ah (Below w.heap.size w w'))
     case atStart=>exact ⟨0,rfl,⟨rfl⟩,⟨Kd.gQ _ _ _ _ _⟩,HB5,HBW⟩
     case round=>
      obtain ⟨i,rfl,hki,hO,hB3,hBw⟩:=hrel
      have hki':=hki.out
      cases gk with
      |zero=>
       obtain rfl:i=n:=by omega
       have hlt:decide ((i:Int)<(i:Int))=false:=decide_eq_false (by omega)
       go_wp2_with (fail)
       go_ret2
       rw [HER.out.1,HER.out.2]
       exact ⟨_,rfl,Kd.fZ hO.out HB3.out.size,hBw.out⟩
      |succ g1=>
       have hlt:decide ((i:Int)<(n:Int))=true:=decide_eq_true (by omega)
       have hin:i<n:=by omega
       have hii:(0:Int)≤(i:Int):=by omega
       obtain ⟨x,hx⟩:∃x,ys[i]? =some x:=⟨_,List.getElem?_eq_getElem (by rw [←HN.out];exact hin)⟩
       have hCi:=Kd.fC HC3.out hB3.out
       obtain ⟨ad,hA,hx0,hx1,hx2,hx3⟩:=uz hCi i hin x hx
       obtain rfl:=hA
       have HX:=z0 hx
       have hxs:=HYT.out i x hx
       have H49:=fun W=>Ag x W (by omega)
       have hinc:jf s i=oQ x:=by unfold jf;rw [←HYS.out,hx];rfl
       have HINC:=z0 hinc
       clear hx hinc hCi
       obtain ⟨kd,bf,tx,a1⟩:=x
       simp only at hx0 hx1 hx2 hx3 hxs H49
       cases hir:oQ (kd,bf,tx,a1) with
       |none=>
        have hwr:wrR (kd,bf,tx,a1)=(⟨#[]⟩,false,false):=by unfold wrR;rw [hir]
        rw [hwr] at H49
        have HSK:ah (usF (jf s) (iV files ps name s) (grR s) (i+1)=usF (jf s) (iV files ps name s) (grR s) i):=⟨Gx (by rw [HINC.out,hir])⟩
        clear hwr hir
        go_wp2_with (go_at_call 49;go_loud (refine (H49 _).mono ?_;rintro e w6 ⟨rfl,hb6⟩;have HO6:=z0 (Kd.dn hO.out hb6);have HB6:=z0 (ak hBw.out hb6);have HB36:=z0 (ak hB3.out hb6);clear hb6))
        go_roundg g1
        case measure=>omega
        case rel=>exact ⟨i+1,(by first|rfl|simp),⟨by omega⟩,⟨by rw [HSK.out];exact HO6.out⟩,HB36,HB6⟩
       |some nq=>
        obtain ⟨nm,q⟩:=nq
        have hwr:wrR (kd,bf,tx,a1)=(nm,q,true):=by unfold wrR;rw [hir]
        rw [hwr] at H49
        have HIR:ah (jf s i=some (nm,q)):=⟨by rw [HINC.out,hir]⟩
        have HSEEN:=JQ (ksR s) HE2.out.symm i (jV (kd,bf,tx,a1)) (by unfold ksR;rw [←HYS.out,List.getElem?_map,HX.out];rfl) (D5 hir)
        obtain ⟨OF,hOF⟩:∃OF,OF=l7 (i:Int) 0 ((bZ (ksR s)).1.map (·.1)):=⟨_,rfl⟩
        have H50':=fun (W:World) A c hC hc=>H50 W A c hC hc (by first|trivial|rfl) i hin
        rw [←hOF] at HSEEN H50'
        obtain ⟨m,hm⟩:∃m,m=OF.length:=⟨_,rfl⟩
        have hml:m≤900000:=by
         rw [hm,hOF]
         have h1:=wJ (i:Int) 0 ((bZ (ksR s)).1.map (·.1))
         rw [List.length_map] at h1
         have h2:=(qV (ksR s)).1
         have h3:(ksR s).length=n:=by rw [HN.out,HYS.out];simp [ksR]
         omega
        have HM:=z0 hm
        replace HSEEN:=z0 HSEEN
        have hnm:nm.size≤4000:=by have:=zF hir;simp only at this;omega
        clear hwr hir hOF hm H50
        go_wp2_with (first|(go_at_call 49;go_loud (refine (H49 _).mono ?_;rintro e w6 ⟨rfl,hb6⟩;have HO6:=z0 (Kd.dn hO.out hb6);have HB6:=z0 (ak hBw.out hb6);have HB36:=z0 (ak hB3.out hb6);clear hb6))|(go_at_call 50;go_loud (refine (H50' _ _ c3 (Kd.fC HC3.out HB36.out) HL3.out).mono ?_;rintro e w7 ⟨v7,rfl,hR7,hb7⟩;obtain ⟨A7,c7,rfl⟩:=Kd.bF hR7;have hq:=(Kd.aZ hR7).2.2;rw [←HM.out] at hq ⊢;have HC7:=z0 hq;have HO7:=z0 (Kd.dn HO6.out hb7);have HB7:=z0 (ak HB6.out hb7);have HB37:=z0 (ak HB36.out hb7);clear hb7 hR7 hq)))
        have hT0:Value.bool true=Value.bool ((OF.take 0).all (fun p=>p.2==0)):=by simp
        go_loopg [16,19] m (fun kq v16 v19 w'=>∃(b:Nat),v19= .int .i64 b∧v16= .bool ((OF.take b).all (fun p=>p.2==0))∧ah (kq+b=m)∧ah (Below w7.heap.size w7 w'))
        case atStart=>exact ⟨0,rfl,hT0,⟨rfl⟩,⟨Below.refl _ _⟩⟩
        case round=>
         obtain ⟨b,rfl,rfl,hkb,hB8⟩:=hrel
         have hkb':=hkb.out
         have HBW8:=z0 (ak HB7.out hB8.out)
         have HB38:=z0 (ak HB37.out hB8.out)
         have HO8:=z0 (Kd.dn HO7.out hB8.out)
         cases gk with
         |zero=>
          obtain rfl:b=m:=by omega
          have hlt:decide ((b:Int)<(b:Int))=false:=decide_eq_false (by omega)
          have hta:OF.take b=OF:=List.take_of_length_le (by rw [HM.out];exact Nat.le_refl _)
          rw [hta,HSEEN.out]
          clear hta
          cases hsn:lY (bZ (ksR s)).1 i with
          |false=>
           have HSK:ah (usF (jf s) (iV files ps name s) (grR s) (i+1)=usF (jf s) (iV files ps name s) (grR s) i):=⟨Jo HIR.out hsn⟩
           clear hsn
           go_wp2_with (fail)
           go_roundg g1
           case measure=>omega
           case rel=>exact ⟨i+1,(by first|rfl|simp),⟨by omega⟩,⟨by rw [HSK.out];exact HO8.out⟩,HB38,HBW8⟩
          |true=>
           have HSK:ah (usF (jf s) (iV files ps name s) (grR s) (i+1)=usF (jf s) (iV files ps name s) (grR s) i++[(nm,q,iV files ps name s i)]):=⟨Jm HIR.out hsn⟩
           clear hsn
           obtain ⟨W8,hW8⟩:∃W8,W8=wr:=⟨_,rfl⟩
           subst hW8
           have HW8:ah (w3.heap.size≤W8.heap.size):=⟨HB38.out.size⟩
           have H51:=fun (d:ByteArray) (hd:d.size≤140737488355328) W=>FW d nm W (by omega) hd
           have H51:=z0 H51
           cases q with
           |false=>
            go_wp2_with ((at_builtin;go_loud (refine Kd.oM Value.string ⟨#[]⟩ (h1:=fun _=>rfl) (w0:=w3) w3.heap.size rfl (.tmp 98) (.tmp 99) 23 9 (.string ⟨#[]⟩) 16 rfl uZ (by kernel_rfl) rfl (by omega) (.slice (some ⟨W8.heap.size+1,0,none⟩) 0 0) [] ps Ap NP cp (fun k=>W8.heap.size<k) rfl rfl ?aF ?aO ?aR ?aB ?aS ?aL ?_;(case aF=>intro k hk;rw [bT,bT] at hk;omega);(case aO=>refine row0 ?_ ?_ ?_;(have h:=dh (W8.alloc (Obj.cells #[Value.string nm,Value.bool false,Value.string ⟨#[]⟩] 33)) (Obj.cells #[] 9);rwa [bT] at h);(have:=HB38.out.size;omega);exact Nat.lt_succ_self _);(case aR=>have h:=Kd.fC HH.out.pc (aA (aA HBW8.out (Obj.cells #[Value.string nm,Value.bool false,Value.string ⟨#[]⟩] 33)) (Obj.cells #[] 9));rwa [←HNP.out] at h);(case aB=>exact aA (aA HB38.out _) _);(case aS=>exact aQ (aA (aA HB38.out _) _));(case aL=>have:=HH.out.npl;rw [←HNP.out] at this;simp only [List.length_nil];omega);intro v1 w9 ho hb9 hg9 hat9;obtain ⟨A21,c21,e21⟩:=Kd.bF ho;rw [List.nil_append,←HNP.out] at e21;subst e21;rw [List.nil_append] at ho;have HD9:=z0 ho;have HB39:=z0 hb9;have HX9:ah (w9.heap[W8.heap.size]? =some (Obj.cells #[Value.string nm,Value.bool false,Value.string ⟨#[]⟩] 33 (0,0))):=⟨kP (dN (dh _ _) _) hg9 (by simp [Value.ownBlock])⟩;have HO9:=z0 (Kd.jO (Kd.dP (Kd.dP HO8.out _) _) rfl hg9 (fun k hk e=>by have h1:W8.heap.size+1=k:=(by simpa [Value.ownBlock] using hk);have h2:=Kd.xJ HO8.out k e.symm;omega));have HBW9:=z0 (ak HB3.out HB39.out);clear ho hb9 hg9 hat9)))
            obtain ⟨D,hD⟩:∃D,D=ps:=⟨_,rfl⟩
            rw [←hD] at HD9
            have HDE:ah (D=uP ps name false∧D.length=NP∧∀x∈D,x.size≤140737488355328):=⟨hD,by rw [hD];exact HNP.out.symm,by rw [hD];exact HH.out.psz⟩
            have HFR:ah (w9.frozen? ⟨W8.heap.size,2,none⟩=false):=⟨aj HX9.out 2⟩
            have HXL:=z0 (aT HX9.out)
            have hn5:NP≤5:=by have:=HH.out.npl;rw [HNP.out];exact this
            go_loopg [22,23,24] (NP) (fun kq v22 v23 v24 w'=>∃d:Int,v22= .int .i64 d∧ah (d=(kq:Int)-1∧kq≤NP)∧ah (w'.heap[W8.heap.size]? =some (Obj.cells #[Value.string nm,Value.bool false,Value.string (l9 files ((D.drop kq).map fun d=>iO d nm))] 33 (0,0)))∧ah (Kd.R Kd.string 9 w' w3.heap.size (fun k=>W8.heap.size<k) (.slice A21 (NP) c21) D)∧ah (Kd.R kUs 33 w' w3.heap.size (fun k=>k≠W8.heap.size) u12 (usF (jf s) (iV files ps name s) (grR s) i))∧ah (Below w3.heap.size w3 w'))
            case atStart=>
             refine ⟨_,rfl,⟨?_,Nat.le_refl _⟩,⟨?_⟩,⟨HD9.out⟩,⟨Kd.fM (Kd.Jg HO9.out rfl (g:=W8.heap.size) (fun e=>by have:=Kd.xJ HO8.out _ e.symm;omega)) (fun k hk=>hk.2)⟩,HB39⟩
             · first|exact OScan.wr (by omega) (by omega)|exact (OScan.wr (by omega) (by omega)).trans (by omega)
             · rw [List.drop_eq_nil_of_le (by rw [HDE.out.2.1];exact Nat.le_refl _)];exact HX9.out
            case round=>
             obtain ⟨d,rfl,hd,hX,hDD,hOd,hBd⟩:=hrel
             have hd':=hd.out.1
             have f0:=aC hX.out 0
             have f1:=aC hX.out 1
             have f2:=aC hX.out 2
             simp only [List.getElem?_toArray,List.getElem?_cons_zero,List.getElem?_cons_succ] at f0 f1 f2
             cases gk with
             |zero=>
              obtain rfl:d= -1:=by omega
              have HFN:ah (l9 files ((D.drop 0).map fun d=>iO d nm)=iV files ps name s i):=⟨by rw [List.drop_zero,HDE.out.1];unfold iV;rw [HIR.out]⟩
              have HUL:ah (((usF (jf s) (iV files ps name s) (grR s) i).length+1)*40≤140737488355328):=⟨by have:=pK (jf s) (iV files ps name s) (grR s) i;omega⟩
              generalize hfg:l9 files ((D.drop 0).map fun d=>iO d nm)=FF at *
              clear hfg hd hd'
              go_wp2_with (at_builtin;go_loud (refine Kd.fH kUs (w0:=w3) w3.heap.size rfl (.tmp 131) (.tmp 133) 29 33 (.agg #[(.string ⟨#[]⟩),(.bool false),(.string ⟨#[]⟩)]) 40 rfl Ep info33 rfl (by decide) (by omega) u12 (usF (jf s) (iV files ps name s) (grR s) i) (nm,false,FF) [.string nm,.bool false,.string FF] (fun _=>True) (fun _=>False) rfl rfl (IC _ _ _ _ _ _) (fun _ hk=>hk.elim) (fun _ _=>trivial) (Kd.fM hOd.out (fun _ _=>trivial)) hBd.out (aQ hBd.out) HUL.out ?_;intro v1 w14 ho hb hg hat;have HO14:=z0 ho;have HB14:=z0 hb;clear ho hb hg hat))
              go_roundg g1
              case measure=>omega
              case rel=>exact ⟨i+1,(by first|rfl|simp),⟨by omega⟩,⟨by rw [HSK.out,←HFN.out];exact HO14.out⟩,HB14,⟨ak HB3.out HB14.out⟩⟩
             |succ g=>
              obtain rfl:d=(g:Int):=by omega
              have hgL:g<NP:=by have:=hd.out.2;omega
              have hg0:(0:Int)≤(g:Int):=by omega
              have hwd:wrap64 ((g:Int)-1)=(g:Int)-1:=OScan.wr (by omega) (by omega)
              obtain ⟨x,hx⟩:∃x,D[g]? =some x:=⟨_,List.getElem?_eq_getElem (by rw [HDE.out.2.1];exact hgL)⟩
              obtain ⟨ad21,hA21,hxc⟩:=oW (Kd.aZ hDD.out).2.2 g (by rw [HDE.out.2.1];exact hgL) x hx
              obtain rfl:=hA21
              rw [Nat.mul_one] at hxc
              have hxs:=HDE.out.2.2 x (List.mem_of_getElem? hx)
              have H51x:=H51.out x hxs
              have HDR:ah (D.drop g=x::D.drop (g+1)):=⟨by
               obtain ⟨h1,h2⟩:=List.getElem?_eq_some_iff.1 hx
               rw [List.drop_eq_getElem_cons h1,h2]⟩
              obtain ⟨jj,hjj⟩:∃jj,jj=iO x nm:=⟨_,rfl⟩
              rw [←hjj] at H51x
              have HST:ah (l9 files ((D.drop g).map fun d=>iO d nm)=if jj.2=true∧0≤iQ files jj.1 then jj.1 else l9 files ((D.drop (g+1)).map fun d=>iO d nm)):=⟨by rw [HDR.out,List.map_cons,l9,←hjj]⟩
              clear hjj hx hxs
              obtain ⟨jr,jb⟩:=jj
              simp only at H51x
              obtain ⟨FF,hFF⟩:∃FF,FF=l9 files ((D.drop (g+1)).map fun d=>iO d nm):=⟨_,rfl⟩
              rw [←hFF] at HST hX
              clear hFF hd hd' f0 f1 f2
              cases jb with
              |false=>
               have HST':ah (l9 files ((D.drop g).map fun d=>iO d nm)=FF):=⟨by rw [HST.out,if_neg (fun h=>by cases h.1)]⟩
               go_wp2_with (go_at_call 51;go_loud (refine (H51x _).mono ?_;rintro e w11 ⟨rfl,hdr⟩;have hbl:=hdr.below;have HX11:=z0 (gW hX.out hbl);have HD11:=z0 (Kd.dn hDD.out hbl);have HO11:=z0 (Kd.dn hOd.out hbl);have HB11:=z0 (ak hBd.out hbl);clear hbl hdr))
               go_roundg g
               case measure=>omega
               case rel=>exact ⟨(g:Int)-1,(by first|rfl|rw [hwd]),⟨rfl,by omega⟩,⟨by rw [HST'.out];exact HX11.out⟩,HD11,HO11,HB11⟩
              |true=>
               by_cases h0:0≤iQ files jr
               · have hr0:decide (iQ files jr≥0)=true:=decide_eq_true h0
                 have HST':ah (l9 files ((D.drop g).map fun d=>iO d nm)=jr):=⟨by rw [HST.out,if_pos ⟨rfl,h0⟩]⟩
                 go_wp2_with (first|(go_at_call 51;go_loud (refine (H51x _).mono ?_;rintro e w11 ⟨rfl,hdr⟩;have hbl:=hdr.below;have HX11:=z0 (gW hX.out hbl);have HD11:=z0 (Kd.dn hDD.out hbl);have HO11:=z0 (Kd.dn hOd.out hbl);have HB11:=z0 (ak hBd.out hbl);clear hbl hdr))|(go_at_call 24;go_loud (refine (H24.out jr _ (ak HB3.out HB11.out)).mono ?_;rintro e w12 ⟨rfl,hbl⟩;have HX12:=z0 (gW HX11.out hbl);have HD12:=z0 (Kd.dn HD11.out hbl);have HO12:=z0 (Kd.dn HO11.out hbl);have HB12:=z0 (ak HB11.out hbl);have y2:=aC HX12.out 2;have y3:=aj HX12.out 2;simp only [List.getElem?_toArray,List.getElem?_cons_zero,List.getElem?_cons_succ] at y2;clear hbl)))
                 go_roundg g
                 case measure=>omega
                 case rel=>exact ⟨(g:Int)-1,(by first|rfl|rw [hwd]),⟨rfl,by omega⟩,⟨by rw [HST'.out];exact dR HX12.out 2 (.string jr) rfl⟩,⟨Kd.xM HD12.out (fun k hk e=>by have e':k=W8.heap.size:=e;omega) _⟩,⟨Kd.xM HO12.out (fun k hk e=>hk e) _⟩,⟨HB12.out.setCell HW8.out _⟩⟩
               · have hr0:decide (iQ files jr≥0)=false:=decide_eq_false h0
                 have HST':ah (l9 files ((D.drop g).map fun d=>iO d nm)=FF):=⟨by rw [HST.out,if_neg (fun h=>h0 h.2)]⟩
                 go_wp2_with (first|(go_at_call 51;go_loud (refine (H51x _).mono ?_;rintro e w11 ⟨rfl,hdr⟩;have hbl:=hdr.below;have HX11:=z0 (gW hX.out hbl);have HD11:=z0 (Kd.dn hDD.out hbl);have HO11:=z0 (Kd.dn hOd.out hbl);have HB11:=z0 (ak hBd.out hbl);clear hbl hdr))|(go_at_call 24;go_loud (refine (H24.out jr _ (ak HB3.out HB11.out)).mono ?_;rintro e w12 ⟨rfl,hbl⟩;have HX12:=z0 (gW HX11.out hbl);have HD12:=z0 (Kd.dn HD11.out hbl);have HO12:=z0 (Kd.dn HO11.out hbl);have HB12:=z0 (ak HB11.out hbl);have y2:=aC HX12.out 2;have y3:=aj HX12.out 2;simp only [List.getElem?_toArray,List.getElem?_cons_zero,List.getElem?_cons_succ] at y2;clear hbl)))
                 go_roundg g
                 case measure=>omega
                 case rel=>exact ⟨(g:Int)-1,(by first|rfl|rw [hwd]),⟨rfl,by omega⟩,⟨by rw [HST'.out];exact HX12.out⟩,HD12,HO12,HB12⟩
           |true=>
            go_wp2_with (first|(at_builtin;go_loud (refine Kd.oM Value.string ⟨#[]⟩ (h1:=fun _=>rfl) (w0:=w3) w3.heap.size rfl (.tmp 98) (.tmp 99) 23 9 (.string ⟨#[]⟩) 16 rfl uZ (by kernel_rfl) rfl (by omega) (.slice (some ⟨W8.heap.size+1,0,none⟩) 0 0) [] ps Ap NP cp (fun k=>W8.heap.size<k) rfl rfl ?aF ?aO ?aR ?aB ?aS ?aL ?_;(case aF=>intro k hk;rw [bT,bT] at hk;omega);(case aO=>refine row0 ?_ ?_ ?_;(have h:=dh (W8.alloc (Obj.cells #[Value.string nm,Value.bool true,Value.string ⟨#[]⟩] 33)) (Obj.cells #[] 9);rwa [bT] at h);(have:=HB38.out.size;omega);exact Nat.lt_succ_self _);(case aR=>have h:=Kd.fC HH.out.pc (aA (aA HBW8.out (Obj.cells #[Value.string nm,Value.bool true,Value.string ⟨#[]⟩] 33)) (Obj.cells #[] 9));rwa [←HNP.out] at h);(case aB=>exact aA (aA HB38.out _) _);(case aS=>exact aQ (aA (aA HB38.out _) _));(case aL=>have:=HH.out.npl;rw [←HNP.out] at this;simp only [List.length_nil];omega);intro v1 w9 ho hb9 hg9 hat9;obtain ⟨A21,c21,e21⟩:=Kd.bF ho;rw [List.nil_append,←HNP.out] at e21;subst e21;rw [List.nil_append] at ho;have HD9:=z0 ho;have HB39:=z0 hb9;have HX9:ah (w9.heap[W8.heap.size]? =some (Obj.cells #[Value.string nm,Value.bool true,Value.string ⟨#[]⟩] 33 (0,0))):=⟨kP (dN (dh _ _) _) hg9 (by simp [Value.ownBlock])⟩;have HO9:=z0 (Kd.jO (Kd.dP (Kd.dP HO8.out _) _) rfl hg9 (fun k hk e=>by have h1:W8.heap.size+1=k:=(by simpa [Value.ownBlock] using hk);have h2:=Kd.xJ HO8.out k e.symm;omega));have HBW9:=z0 (ak HB3.out HB39.out);clear ho hb9 hg9 hat9))|(at_builtin;go_loud (refine Kd.oM Value.string ⟨#[]⟩ (h1:=fun _=>rfl) (w0:=w3) w3.heap.size rfl (.tmp 103) (.tmp 104) 23 9 (.string ⟨#[]⟩) 16 rfl uZ (by kernel_rfl) rfl (by omega) (.slice (some ⟨w9.heap.size,0,none⟩) 1 1) [own] ps A21 NP c21 (fun k=>W8.heap.size<k) rfl rfl ?aF ?aO ?aR ?aB ?aS ?aL ?_;(case aF=>intro k hk;have:=aT HX9.out;rw [bT] at hk;omega);(case aO=>exact Hr (dh _ _) HB39.out.size (aT HX9.out));(case aR=>have h:=Kd.fC (Kd.aZ HD9.out).2.2 (aA (Below.refl _ _) (Obj.cells #[Value.string own] 9));rwa [←HNP.out] at h);(case aB=>exact aA HB39.out _);(case aS=>exact aQ (aA HB39.out _));(case aL=>have:=HH.out.npl;rw [←HNP.out] at this;simp only [List.length_singleton];omega);intro v1 w10 ho hb10 hg10 hat10;obtain ⟨A22,c22,e22⟩:=Kd.bF ho;have hlen:([own]++ps).length=NP+1:=(by rw [List.length_append,List.length_singleton,←HNP.out,Nat.add_comm]);rw [hlen] at e22;subst e22;have HD10:=z0 ho;have HB310:=z0 hb10;have HX10:ah (w10.heap[W8.heap.size]? =some (Obj.cells #[Value.string nm,Value.bool true,Value.string ⟨#[]⟩] 33 (0,0))):=⟨kP (dN HX9.out _) hg10 (by have:=aT HX9.out;simp only [Value.ownBlock];intro e;injection e with e;omega)⟩;have HO10:=z0 (Kd.jO (Kd.dP HO9.out _) rfl hg10 (fun k hk e=>by have h1:w9.heap.size=k:=(by simpa [Value.ownBlock] using hk);have h2:=Kd.xJ HO9.out k e.symm;omega));have HBW10:=z0 (ak HB3.out HB310.out);clear ho hb10 hg10 hat10 hlen)))
            obtain ⟨D,hD⟩:∃D,D=[own]++ps:=⟨_,rfl⟩
            rw [←hD] at HD10
            have HDE:ah (D=uP ps name true∧D.length=NP+1∧∀x∈D,x.size≤140737488355328):=⟨by rw [hD,HOWN.out];rfl,by rw [hD,List.length_append,List.length_singleton,←HNP.out,Nat.add_comm],by
             rw [hD];intro x hx
             rcases List.mem_append.1 hx with hx|hx
             · rw [List.mem_singleton.1 hx,HOWN.out];have:=mW name 0 (max 0 (ldR name)).toNat;omega
             · exact HH.out.psz x hx⟩
            have HFR:ah (w10.frozen? ⟨W8.heap.size,2,none⟩=false):=⟨aj HX10.out 2⟩
            have HXL:=z0 (aT HX10.out)
            have hn5:NP≤5:=by have:=HH.out.npl;rw [HNP.out];exact this
            go_loopg [22,23,24] (NP+1) (fun kq v22 v23 v24 w'=>∃d:Int,v22= .int .i64 d∧ah (d=(kq:Int)-1∧kq≤NP+1)∧ah (w'.heap[W8.heap.size]? =some (Obj.cells #[Value.string nm,Value.bool true,Value.string (l9 files ((D.drop kq).map fun d=>iO d nm))] 33 (0,0)))∧ah (Kd.R Kd.string 9 w' w3.heap.size (fun k=>W8.heap.size<k) (.slice A22 (NP+1) c22) D)∧ah (Kd.R kUs 33 w' w3.heap.size (fun k=>k≠W8.heap.size) u12 (usF (jf s) (iV files ps name s) (grR s) i))∧ah (Below w3.heap.size w3 w'))
            case atStart=>
             refine ⟨_,rfl,⟨?_,Nat.le_refl _⟩,⟨?_⟩,⟨HD10.out⟩,⟨Kd.fM (Kd.Jg HO10.out rfl (g:=W8.heap.size) (fun e=>by have:=Kd.xJ HO8.out _ e.symm;omega)) (fun k hk=>hk.2)⟩,HB310⟩
             · first|exact OScan.wr (by omega) (by omega)|exact (OScan.wr (by omega) (by omega)).trans (by omega)
             · rw [List.drop_eq_nil_of_le (by rw [HDE.out.2.1];exact Nat.le_refl _)];exact HX10.out
            case round=>
             obtain ⟨d,rfl,hd,hX,hDD,hOd,hBd⟩:=hrel
             have hd':=hd.out.1
             have f0:=aC hX.out 0
             have f1:=aC hX.out 1
             have f2:=aC hX.out 2
             simp only [List.getElem?_toArray,List.getElem?_cons_zero,List.getElem?_cons_succ] at f0 f1 f2
             cases gk with
             |zero=>
              obtain rfl:d= -1:=by omega
              have HFN:ah (l9 files ((D.drop 0).map fun d=>iO d nm)=iV files ps name s i):=⟨by rw [List.drop_zero,HDE.out.1];unfold iV;rw [HIR.out]⟩
              have HUL:ah (((usF (jf s) (iV files ps name s) (grR s) i).length+1)*40≤140737488355328):=⟨by have:=pK (jf s) (iV files ps name s) (grR s) i;omega⟩
              generalize hfg:l9 files ((D.drop 0).map fun d=>iO d nm)=FF at *
              clear hfg hd hd'
              go_wp2_with (at_builtin;go_loud (refine Kd.fH kUs (w0:=w3) w3.heap.size rfl (.tmp 131) (.tmp 133) 29 33 (.agg #[(.string ⟨#[]⟩),(.bool false),(.string ⟨#[]⟩)]) 40 rfl Ep info33 rfl (by decide) (by omega) u12 (usF (jf s) (iV files ps name s) (grR s) i) (nm,true,FF) [.string nm,.bool true,.string FF] (fun _=>True) (fun _=>False) rfl rfl (IC _ _ _ _ _ _) (fun _ hk=>hk.elim) (fun _ _=>trivial) (Kd.fM hOd.out (fun _ _=>trivial)) hBd.out (aQ hBd.out) HUL.out ?_;intro v1 w14 ho hb hg hat;have HO14:=z0 ho;have HB14:=z0 hb;clear ho hb hg hat))
              go_roundg g1
              case measure=>omega
              case rel=>exact ⟨i+1,(by first|rfl|simp),⟨by omega⟩,⟨by rw [HSK.out,←HFN.out];exact HO14.out⟩,HB14,⟨ak HB3.out HB14.out⟩⟩
             |succ g=>
              obtain rfl:d=(g:Int):=by omega
              have hgL:g<NP+1:=by have:=hd.out.2;omega
              have hg0:(0:Int)≤(g:Int):=by omega
              have hwd:wrap64 ((g:Int)-1)=(g:Int)-1:=OScan.wr (by omega) (by omega)
              obtain ⟨x,hx⟩:∃x,D[g]? =some x:=⟨_,List.getElem?_eq_getElem (by rw [HDE.out.2.1];exact hgL)⟩
              obtain ⟨ad21,hA21,hxc⟩:=oW (Kd.aZ hDD.out).2.2 g (by rw [HDE.out.2.1];exact hgL) x hx
              obtain rfl:=hA21
              rw [Nat.mul_one] at hxc
              have hxs:=HDE.out.2.2 x (List.mem_of_getElem? hx)
              have H51x:=H51.out x hxs
              have HDR:ah (D.drop g=x::D.drop (g+1)):=⟨by
               obtain ⟨h1,h2⟩:=List.getElem?_eq_some_iff.1 hx
               rw [List.drop_eq_getElem_cons h1,h2]⟩
              obtain ⟨jj,hjj⟩:∃jj,jj=iO x nm:=⟨_,rfl⟩
              rw [←hjj] at H51x
              have HST:ah (l9 files ((D.drop g).map fun d=>iO d nm)=if jj.2=true∧0≤iQ files jj.1 then jj.1 else l9 files ((D.drop (g+1)).map fun d=>iO d nm)):=⟨by rw [HDR.out,List.map_cons,l9,←hjj]⟩
              clear hjj hx hxs
              obtain ⟨jr,jb⟩:=jj
              simp only at H51x
              obtain ⟨FF,hFF⟩:∃FF,FF=l9 files ((D.drop (g+1)).map fun d=>iO d nm):=⟨_,rfl⟩
              rw [←hFF] at HST hX
              clear hFF hd hd' f0 f1 f2
              cases jb with
              |false=>
               have HST':ah (l9 files ((D.drop g).map fun d=>iO d nm)=FF):=⟨by rw [HST.out,if_neg (fun h=>by cases h.1)]⟩
               go_wp2_with (go_at_call 51;go_loud (refine (H51x _).mono ?_;rintro e w11 ⟨rfl,hdr⟩;have hbl:=hdr.below;have HX11:=z0 (gW hX.out hbl);have HD11:=z0 (Kd.dn hDD.out hbl);have HO11:=z0 (Kd.dn hOd.out hbl);have HB11:=z0 (ak hBd.out hbl);clear hbl hdr))
               go_roundg g
               case measure=>omega
               case rel=>exact ⟨(g:Int)-1,(by first|rfl|rw [hwd]),⟨rfl,by omega⟩,⟨by rw [HST'.out];exact HX11.out⟩,HD11,HO11,HB11⟩
              |true=>
               by_cases h0:0≤iQ files jr
               · have hr0:decide (iQ files jr≥0)=true:=decide_eq_true h0
                 have HST':ah (l9 files ((D.drop g).map fun d=>iO d nm)=jr):=⟨by rw [HST.out,if_pos ⟨rfl,h0⟩]⟩
                 go_wp2_with (first|(go_at_call 51;go_loud (refine (H51x _).mono ?_;rintro e w11 ⟨rfl,hdr⟩;have hbl:=hdr.below;have HX11:=z0 (gW hX.out hbl);have HD11:=z0 (Kd.dn hDD.out hbl);have HO11:=z0 (Kd.dn hOd.out hbl);have HB11:=z0 (ak hBd.out hbl);clear hbl hdr))|(go_at_call 24;go_loud (refine (H24.out jr _ (ak HB3.out HB11.out)).mono ?_;rintro e w12 ⟨rfl,hbl⟩;have HX12:=z0 (gW HX11.out hbl);have HD12:=z0 (Kd.dn HD11.out hbl);have HO12:=z0 (Kd.dn HO11.out hbl);have HB12:=z0 (ak HB11.out hbl);have y2:=aC HX12.out 2;have y3:=aj HX12.out 2;simp only [List.getElem?_toArray,List.getElem?_cons_zero,List.getElem?_cons_succ] at y2;clear hbl)))
                 go_roundg g
                 case measure=>omega
                 case rel=>exact ⟨(g:Int)-1,(by first|rfl|rw [hwd]),⟨rfl,by omega⟩,⟨by rw [HST'.out];exact dR HX12.out 2 (.string jr) rfl⟩,⟨Kd.xM HD12.out (fun k hk e=>by have e':k=W8.heap.size:=e;omega) _⟩,⟨Kd.xM HO12.out (fun k hk e=>hk e) _⟩,⟨HB12.out.setCell HW8.out _⟩⟩
               · have hr0:decide (iQ files jr≥0)=false:=decide_eq_false h0
                 have HST':ah (l9 files ((D.drop g).map fun d=>iO d nm)=FF):=⟨by rw [HST.out,if_neg (fun h=>h0 h.2)]⟩
                 go_wp2_with (first|(go_at_call 51;go_loud (refine (H51x _).mono ?_;rintro e w11 ⟨rfl,hdr⟩;have hbl:=hdr.below;have HX11:=z0 (gW hX.out hbl);have HD11:=z0 (Kd.dn hDD.out hbl);have HO11:=z0 (Kd.dn hOd.out hbl);have HB11:=z0 (ak hBd.out hbl);clear hbl hdr))|(go_at_call 24;go_loud (refine (H24.out jr _ (ak HB3.out HB11.out)).mono ?_;rintro e w12 ⟨rfl,hbl⟩;have HX12:=z0 (gW HX11.out hbl);have HD12:=z0 (Kd.dn HD11.out hbl);have HO12:=z0 (Kd.dn HO11.out hbl);have HB12:=z0 (ak HB11.out hbl);have y2:=aC HX12.out 2;have y3:=aj HX12.out 2;simp only [List.getElem?_toArray,List.getElem?_cons_zero,List.getElem?_cons_succ] at y2;clear hbl)))
                 go_roundg g
                 case measure=>omega
                 case rel=>exact ⟨(g:Int)-1,(by first|rfl|rw [hwd]),⟨rfl,by omega⟩,⟨by rw [HST'.out];exact HX12.out⟩,HD12,HO12,HB12⟩
         |succ g5=>
          have hlt:decide ((b:Int)<(m:Int))=true:=decide_eq_true (by omega)
          have hbm:b<m:=by omega
          have hbb:(0:Int)≤(b:Int):=by omega
          obtain ⟨p,hp⟩:∃p,OF[b]? =some p:=⟨_,List.getElem?_eq_getElem (by rw [←HM.out];exact hbm)⟩
          obtain ⟨ad7,hA7,hp0,hp1⟩:=Nq (by have h:=Kd.fC HC7.out hB8.out;rwa [HM.out] at h) b (by rw [←HM.out];exact hbm) p hp
          obtain rfl:=hA7
          have HTK:ah ((OF.take (b+1)).all (fun p=>p.2==0)=((OF.take b).all (fun p=>p.2==0)&&(p.2==0))):=⟨by rw [take_snoc OF b p hp,List.all_append];simp⟩
          clear hp
          generalize hal:(OF.take b).all (fun p=>p.2==0)=al at *
          clear hal
          cases al with
          |true=>
           go_wp2_with (fail)
           go_roundg g5
           case measure=>omega
           case rel=>exact ⟨b+1,(by first|rfl|simp),(by rw [HTK.out];rfl),⟨by omega⟩,(by first|exact hB8|exact ⟨aY hB8.out _⟩)⟩
          |false=>
           go_wp2_with (fail)
           go_roundg g5
           case measure=>omega
           case rel=>exact ⟨b+1,(by first|rfl|simp),(by rw [HTK.out];rfl),⟨by omega⟩,(by first|exact hB8|exact ⟨aY hB8.out _⟩)⟩
   · have hb:(e2==0)=false:=beq_eq_false_iff_ne.mpr h2
     have hb':(e2 !=0)=true:=bne_iff_ne.mpr h2
     have HER:ah (erR s=e2∧usN files ps name s=[]):=⟨by
      have:erR s=e2:=by unfold erR;rw [if_neg (by rw [←HE1.out];decide)];exact HE2.out.symm
      exact ⟨this,by unfold usN;rw [this,if_pos h2]⟩⟩
     clear h2 H50 H48
     go_enter Tryz.func25,Tryz.ntmps25
     go_wp2_with (first|(go_at_call 46;go_loud (refine (H46 _).mono ?_;rintro e w3 ⟨v3,rfl,hR,hb3⟩;obtain ⟨A3,c3,rfl⟩:=Kd.bF hR;have hq:=Kd.aZ hR;rw [←HN.out] at hq ⊢;have HC3:=z0 hq.2.2;have HL3:=z0 hq.2.1;have HB3:=z0 hb3;have hy0:=(hb3.cell (World.block_lt_of_cell? _ _ hx0)).trans hx0;clear hR hb3 hq))|(go_at_call 47;go_loud (refine (H47 _ A3 c3 HC3.out HL3.out).mono ?_;rintro e w4 ⟨v4,x4,og,rfl,hog,hR4,hb4⟩;have HB4:=z0 hb4;have hz0:=(hb4.cell (World.block_lt_of_cell? _ _ hy0)).trans hy0;clear hR4 hb4 hog)))
     go_ret2
     rw [HER.out.1,HER.out.2]
     exact ⟨_,rfl,Kd.gQ _ _ _ _ _,ak HB3.out HB4.out⟩
 · have hb:(e1==0)=false:=beq_eq_false_iff_ne.mpr h1
   have hb':(e1 !=0)=true:=bne_iff_ne.mpr h1
   have HER:ah (erR s=e1∧usN files ps name s=[]):=⟨by
    have:erR s=e1:=by unfold erR;rw [←HE1.out,if_pos h1]
    exact ⟨this,by unfold usN;rw [this,if_pos h1]⟩⟩
   clear h1 H47 H50 H48
   go_enter Tryz.func25,Tryz.ntmps25
   go_wp2_with (go_at_call 46;go_loud (refine (H46 _).mono ?_;rintro e w3 ⟨v3,rfl,hR,hb3⟩;obtain ⟨A3,c3,rfl⟩:=Kd.bF hR;rw [←HN.out];have HB3:=z0 hb3;clear hR hb3))
   go_ret2
   rw [HER.out.1,HER.out.2]
   exact ⟨_,rfl,Kd.gQ _ _ _ _ _,HB3.out⟩
end Go.Proofs.YtolaiebjmhieiaaGreatDoor.OScan
end
section
namespace Go.Proofs.YtolaiebjmhieiaaGreatDoor.Graph
section
variable {α:Type}{er:α→Int}{us:α→List α}
theorem Gv {n:α}{met out:List α}{e:Int}{met' out':List α}(h:Walk er us n met out e met' out'):∀e2 met2 out2,Walk er us n met out e2 met2 out2→e=e2∧met'=met2∧out'=out2:=by
 refine Walk.rec (motive_1:=fun n met out e met' out' _=>∀e2 met2 out2,Walk er us n met out e2 met2 out2→e=e2∧met'=met2∧out'=out2)
  (motive_2:=fun ns met out e met' out' _=>∀e2 met2 out2,Walks er us ns met out e2 met2 out2→e=e2∧met'=met2∧out'=out2) ?_ ?_ ?_ ?_ ?_ ?_ h
 · intro n met out hn e2 met2 out2 h2
   cases h2 with
   |met _=>exact ⟨rfl,rfl,rfl⟩
   |bad h _=>exact absurd hn h
   |go h _ _=>exact absurd hn h
 · intro n met out hn he e2 met2 out2 h2
   cases h2 with
   |met h=>exact absurd h hn
   |bad _ _=>exact ⟨rfl,rfl,rfl⟩
   |go _ h _=>exact absurd h he
 · intro n met out met' out' e hn he _ ih e2 met2 out2 h2
   cases h2 with
   |met h=>exact absurd h hn
   |bad _ h=>exact absurd he h
   |go _ _ h=>
    obtain ⟨h1,h2,h3⟩:=ih _ _ _ h
    exact ⟨h1,h2,by rw [h3]⟩
 · intro met out e2 met2 out2 h2
   cases h2
   exact ⟨rfl,rfl,rfl⟩
 · intro n ns met out met' out' e _ he ih e2 met2 out2 h2
   cases h2 with
   |err h _=>exact ih _ _ _ h
   |cons h _=>exact absurd (ih _ _ _ h).1 he
 · intro n ns met out met' out' met'' out'' e _ _ ih1 ih2 e2 met2 out2 h2
   cases h2 with
   |err h h0=>exact absurd (ih1 _ _ _ h).1.symm h0
   |cons h k=>
    obtain ⟨_,h2,h3⟩:=ih1 _ _ _ h
    subst h2 h3
    exact ih2 _ _ _ k
theorem Walks.snoc {ns:List α}{n:α}{met out:List α}{met' out':List α}(h:Walks er us ns met out 0 met' out'):∀{e:Int} {met'' out'':List α},Walk er us n met' out' e met'' out''→Walks er us (ns++[n]) met out e met'' out'':=by
 induction ns generalizing met out with
 |nil=>
  intro e met'' out'' k
  cases h
  by_cases he:e=0
  · subst he;exact .cons k .nil
  · exact .err k he
 |cons a l ih=>
  intro e met'' out'' k
  cases h with
  |err _ h0=>exact absurd rfl h0
  |cons h1 h2=>exact .cons h1 (ih h2 k)
theorem Walks.stop {ns ms:List α}{n:α}{met out met' out':List α}(h:Walks er us ns met out 0 met' out'):∀{e:Int} {met'' out'':List α},Walk er us n met' out' e met'' out''→e≠0→Walks er us (ns++n::ms) met out e met'' out'':=by
 induction ns generalizing met out with
 |nil=>
  intro e met'' out'' k he
  cases h
  exact .err k he
 |cons a l ih=>
  intro e met'' out'' k he
  cases h with
  |err _ h0=>exact absurd rfl h0
  |cons h1 h2=>exact .cons h1 (ih h2 k he)
end
end Go.Proofs.YtolaiebjmhieiaaGreatDoor.Graph
end
section
namespace Go.Proofs.YtolaiebjmhieiaaGreatDoor.OScan
open Go.RowKit YtolaiebjmhieiaaGreatDoorW.PrintWords YtolaiebjmhieiaaGreatDoorW.PrintLast YtolaiebjmhieiaaGreatDoorW.PrintMore
theorem nY {files:List Fl}{m:AL}(hm:eY files=(0,some m))(x:ByteArray):(eF m x).isSome=true↔0≤iQ files x:=by
 obtain ⟨h1,h2⟩:=nP hm
 have hl:=(jU hm).2
 rcases (qL files x (by omega)).2 with ⟨e,hn⟩|⟨j,f,e,hj,hf,_⟩
 · constructor
   · intro h
     obtain ⟨u,hu⟩:=Option.isSome_iff_exists.1 h
     obtain ⟨f,hf,h3,_⟩:=h1 x u hu
     exact absurd h3 (hn f hf)
   · intro h;omega
 · constructor
   · intro _;omega
   · intro _
     have:=h2 f (List.mem_of_getElem? hj)
     rwa [hf] at this
theorem qE:∀(files:List Fl) (m0 m:AL),jS m0 files=some m→(∀f∈files,(eF m0 f.1).isSome=false)∧files.Pairwise (fun f g=>f.1≠g.1)
 |[],m0,m,_=>⟨fun f hf=>(by cases hf),.nil⟩
 |f::l,m0,m,h=>by
  unfold jS at h
  split at h
  · cases h
  · rename_i h0
    obtain ⟨h1,h2⟩:=qE l _ m h
    have hf:∀g∈l,f.1≠g.1:=fun g hg e=>by
     have:=h1 g hg
     rw [jH,if_pos ((MapKept.bytes_beq _ _).2 e.symm)] at this
     cases this
    refine ⟨fun g hg=> ?_,List.pairwise_cons.2 ⟨hf,h2⟩⟩
    rcases List.mem_cons.1 hg with rfl|hg
    · simpa using h0
    · have:=h1 g hg
      rw [jH,if_neg (fun e=>hf g hg ((MapKept.bytes_beq _ _).1 e).symm)] at this
      exact this
theorem qc {files:List Fl}{m:AL}(hm:eY files=(0,some m)){i j:Nat}{f g:Fl}(hi:files[i]? =some f)(hj:files[j]? =some g)(e:f.1=g.1):i=j:=by
 have hp:=(qE files [] m (jU hm).1).2
 rw [List.pairwise_iff_getElem] at hp
 obtain ⟨h1,e1⟩:=List.getElem?_eq_some_iff.1 hi
 obtain ⟨h2,e2⟩:=List.getElem?_eq_some_iff.1 hj
 rcases Nat.lt_trichotomy i j with h|h|h
 · exact absurd (by rw [e1,e2];exact e) (hp i j h1 h2 h)
 · exact h
 · exact absurd (by rw [e1,e2];exact e.symm) (hp j i h2 h1 h)
theorem Ar {files:List Fl}{m:AL}(hm:eY files=(0,some m)){k:Nat}{f:Fl}(hf:files[k]? =some f):iQ files f.1=k:=by
 have hl:=(jU hm).2
 rcases (qL files f.1 (by omega)).2 with ⟨_,hn⟩|⟨j,g,e,hj,hg,_⟩
 · exact absurd rfl (hn f (List.mem_of_getElem? hf))
 · rw [e,qc hm hj hf hg]
theorem Es {files:List Fl}{m:AL}(hm:eY files=(0,some m)){k:Nat}{f:Fl}(hf:files[k]? =some f):kG m f.1=f.2:=by
 obtain ⟨h1,h2⟩:=nP hm
 obtain ⟨u,hu⟩:=Option.isSome_iff_exists.1 (h2 f (List.mem_of_getElem? hf))
 obtain ⟨g,hg,h3,rfl⟩:=h1 f.1 u hu
 obtain ⟨j,hj⟩:=List.getElem?_of_mem hg
 have:=qc hm hj hf h3
 subst this
 rw [hj] at hf
 obtain rfl:=Option.some.inj hf
 unfold kG;rw [hu]
theorem IU {files:List Fl}{m:AL}(hm:eY files=(0,some m)):∀js,l9 files js=kX m js
 |[]=>rfl
 |j::js=>by
  rw [l9,kX,IU hm js]
  by_cases h:j.2=true∧0≤iQ files j.1
  · rw [if_pos h,if_pos ⟨h.1,(nY hm _).2 h.2⟩]
  · rw [if_neg h,if_neg (fun e=>h ⟨e.1,(nY hm _).1 e.2⟩)]
theorem KP {files:List Fl}{m:AL}(hm:eY files=(0,some m))(ps:List ByteArray){k:Nat}{f:Fl}(hf:files[k]? =some f):usN files ps f.1 f.2=usR m ps f.1:=by
 unfold usR usT usN
 rw [Es hm hf]
 have:iV files ps f.1 f.2=nI m ps f.1 f.2:=by
  funext i
  unfold iV nI EP
  cases jf f.2 i with
  |none=>rfl
  |some nq=>exact IU hm _
 rw [this]
theorem Nr {files:List Fl}{m:AL}(hm:eY files=(0,some m)){k:Nat}{f:Fl}(hf:files[k]? =some f):erN m f.1=erR f.2:=by
 unfold erN;rw [Es hm hf]
structure GN (files:List Fl)(w0 w:World)(SB cS:Nat)(bl:List Bool)(v:Value)(met out:List ByteArray):Prop where
 below:Below w0.heap.size w0 w
 seen:Kd.R Kd.bool 4 w w0.heap.size (fun _=>True) (.slice (some ⟨SB,0,none⟩) files.length cS) bl
 isin:∀(i:Nat) (f:Fl),files[i]? =some f→∃b,bl[i]? =some b∧(b=true↔f.1∈met)
 out:Kd.R Kd.string 9 w w0.heap.size (fun _=>True) v out
def kQ (w w':World):Prop:=w.heap.size≤w'.heap.size∧∀(k:Nat) (c:Array Value) (t:TypeId),w.heap[k]? =some (Obj.cells c t (0,0))→t≠4→t≠9→w'.heap[k]? =some (Obj.cells c t (0,0))
theorem kQ.refl (w:World):kQ w w:=⟨Nat.le_refl _,fun _ _ _ h _ _=>h⟩
theorem kQ.trans {w w1 w2:World}(h:kQ w w1)(k:kQ w1 w2):kQ w w2:=⟨Nat.le_trans h.1 k.1,fun b c t hc h1 h2=>k.2 b c t (h.2 b c t hc h1 h2) h1 h2⟩
theorem kQ.of_below {w w1:World}(h:Below w.heap.size w w1):kQ w w1:=⟨h.size,fun k c t hc _ _=>(h.block k (aT hc)).trans hc⟩
theorem GN.step {files:List Fl}{w0 w w1:World}{SB cS:Nat}{bl:List Bool}{v:Value}{met out:List ByteArray}(h:GN files w0 w SB cS bl v met out)(hb:Below w.heap.size w w1):GN files w0 w1 SB cS bl v met out:=
 ⟨ak h.below hb,Kd.dn h.seen hb,h.isin,Kd.dn h.out hb⟩
theorem GN.mark {files:List Fl}{m:AL}(hm:eY files=(0,some m)){w0 w:World}{SB cS:Nat}{bl:List Bool}{v:Value}{met out:List ByteArray}(h:GN files w0 w SB cS bl v met out){k:Nat}{f:Fl}(hf:files[k]? =some f):
 GN files w0 (w.setCell ⟨SB,k,none⟩ (.bool true)) SB cS (bl.set k true) v (f.1::met) out∧kQ w (w.setCell ⟨SB,k,none⟩ (.bool true))∧(∃b,w.cell? ⟨SB,k,none⟩=some (.bool b))∧w.frozen? ⟨SB,k,none⟩=false:=by
 obtain ⟨cS,hS⟩:=Kd.fQ h.seen SB rfl
 have hbase:=Kd.pI h.seen SB rfl
 have hlen:=(Kd.aZ h.seen).1
 have hk:=(List.getElem?_eq_some_iff.1 hf).1
 have hput:=(Kd.xH h.seen (k:Int) true).1
 obtain ⟨cx,_,hMx,hcx,hfx⟩:=Kd.kZ h.seen false (k:Int) (by omega) (by omega)
 obtain rfl:=hMx
 have c0:=hcx 0 _ rfl
 refine ⟨⟨h.below.setCell hbase _,hput,fun i g hi=> ?_,Kd.lV h.out hS (by decide) _ _⟩,⟨by simp,fun b c t hc h1 h2=> ?_⟩,⟨_,by simpa [Kd.bool,Kd.scalar] using c0⟩,by have:=hfx 0;simpa [Kd.bool,Kd.scalar] using this⟩
 · obtain ⟨b,hb,hbm⟩:=h.isin i g hi
   by_cases e:k=i
   · subst e
     rw [hf] at hi
     obtain rfl:=Option.some.inj hi
     exact ⟨true,by rw [List.getElem?_set_self (by rw [←hlen];exact hk)],fun _=>List.mem_cons_self,fun _=>rfl⟩
   · refine ⟨b,by rw [List.getElem?_set_ne e];exact hb,?_⟩
     rw [hbm,List.mem_cons]
     constructor
     · exact .inr
     · rintro (h3|h3)
       · exact absurd (qc hm hf hi h3.symm) e
       · exact h3
 · have hne:b≠SB:=fun e=>by subst e;exact lW hc hS h1
   exact (Below.heap_setCell w ⟨SB,k,none⟩ _ b hne).trans hc
theorem GN.end_ {files:List Fl}{w0 w w1:World}{SB cS:Nat}{bl:List Bool}{v v1:Value}{met out:List ByteArray}{n:ByteArray}(h:GN files w0 w SB cS bl v met out)(ho:Kd.R Kd.string 9 w1 w0.heap.size (fun _=>True) v1 (out++[n]))(hb:Below w0.heap.size w0 w1)(hg:w.grownBy w1 v.ownBlock):
 GN files w0 w1 SB cS bl v1 met (out++[n])∧kQ w w1:=by
 refine ⟨⟨hb,Kd.jO h.seen rfl hg (fun k hk e=> ?_),h.isin,ho⟩,⟨hg.size,fun k c t hc h1 h2=> ?_⟩⟩
 · obtain ⟨c1,e1⟩:=Kd.fQ h.out k hk
   obtain ⟨c2,e2⟩:=Kd.fQ h.seen k e.symm
   exact lW e1 e2 (by decide)
 · refine (hg.block k (aT hc) (fun e=> ?_)).trans hc
   obtain ⟨c1,e1⟩:=Kd.fQ h.out k e.symm
   exact lW hc e1 h2
def KZ (files:List Fl)(us:ByteArray→List Us)(er:ByteArray→Int)(w0 w:World)(SB cS:Nat)(name:ByteArray)(met out:List ByteArray)(e:Ending)(w':World):Prop:=
 ∃(v':Value) (er':Int) (met' out':List ByteArray) (bl':List Bool),e= .returned (.tuple #[v',.int .i64 er'])∧Graph.Walk er (fun n=>iw (us n)) name met out er' met' out'∧(er'=0→GN files w0 w' SB cS bl' v' met' out')∧(er'≠0→v'= .slice none 0 0)∧Below w0.heap.size w0 w'∧kQ w w'
theorem zH (u:Us):∀l:List Us,iw (l++[u])=if u.2.2.toList=[] then iw l else iw l++[u.2.2]
 |[]=>by
  simp only [List.nil_append,iw]
 |x::l=>by
  rw [List.cons_append,iw,iw,zH u l]
  split<;>split<;>rfl
theorem C9:∀a b:List Us,iw (a++b)=iw a++iw b
 |[],b=>rfl
 |x::a,b=>by
  rw [List.cons_append,iw,iw,C9 a b]
  split<;>rfl
theorem xu:∀{l:List Us} {u:Us},u∈l→u.2.2.toList≠[]→u.2.2∈iw l
 |x::l,u,h,hne=>by
  rw [iw]
  rcases List.mem_cons.1 h with rfl|h
  · rw [if_neg hne];exact List.mem_cons_self
  · split
    · exact xu h hne
    · exact List.mem_cons_of_mem _ (xu h hne)
theorem KG {w w':World}{b:Nat}{ok:Nat→Prop}{v:Value}{xs:List Us}(h:Kd.R kUs 33 w b ok v xs)(k:kQ w w'):Kd.R kUs 33 w' b ok v xs:=by
 refine Kd.fM (Kd.uj (Kd.iJ h) (fun j hj=> ?_)) (fun _ hk=>hk.1)
 obtain ⟨_,_,_,q,hq,c,hc⟩:=hj
 obtain rfl:q=33:=by
  rcases List.mem_cons.1 hq with h|h
  · exact h
  · rw [show kUs.E=[] from rfl] at h;cases h
 rw [hc]
 exact k.2 j c 33 hc (by decide) (by decide)
theorem FX {files:List Fl}{ps:List ByteArray}{A Ap:Option Addr}{c cp:Nat}{w0:World}{m:AL}(H:iG w0 files ps A Ap c cp)(hcp:ps.length≤cp)(hm:eY files=(0,some m)):
 ∀(d k:Nat) (f:Fl) (w:World) (SB cS:Nat) (bl:List Bool) (v:Value) (met out:List ByteArray),files[k]? =some f→f.1∉met→Graph.left (files.map (·.1)) met≤d→out.length+Graph.left (files.map (·.1)) met≤1000→GN files w0 w SB cS bl v met out→
  Calls Tryz.prog 27 #[.slice A files.length c,.int .i64 (k:Int),.slice Ap ps.length cp,.slice (some ⟨SB,0,none⟩) files.length cS,v] w (KZ files (usR m ps) (erN m) w0 w SB cS f.1 met out):=by
 intro d
 induction d with
 |zero=>
  intro k f w SB cS bl v met out hf hn hd hl S
  have:=Graph.mJ (List.mem_map.2 ⟨f,List.mem_of_getElem? hf,rfl⟩:f.1∈files.map (·.1)) hn
  omega
 |succ d ih=>
  intro k f w SB cS bl v met out hf hn hd hl S
  obtain ⟨S1,K1,⟨b0,hb0⟩,hfz⟩:=S.mark hm hf
  have hleft:=Graph.mJ (List.mem_map.2 ⟨f,List.mem_of_getElem? hf,rfl⟩:f.1∈files.map (·.1)) hn
  obtain ⟨A4,c4,rfl⟩:=Kd.bF S.out
  have H25:ah (∀W:World,Below w0.heap.size w0 W→Calls Tryz.prog 25 #[.slice A files.length c,.int .i64 (k:Int),.slice Ap ps.length cp] W fun e w'=>∃v,e= .returned (.tuple #[v,.int .i64 (erN m f.1)])∧Kd.R kUs 33 w' W.heap.size (fun _=>True) v (usR m ps f.1)∧Below W.heap.size W w'):=⟨fun W hb=>by
   have h1:iG W files ps A Ap c cp:=⟨H.glob.below hb,Kd.fC H.fc hb,H.fl,Kd.fC H.pc hb,H.hA,H.npl,H.nfl,H.fsz,H.psz⟩
   have h:=yT h1 hcp k f hf
   rw [KP hm ps hf,←Nr hm hf] at h
   exact h⟩
  have H24:ah (∀(nm:ByteArray) (W:World),Below w0.heap.size w0 W→Calls Tryz.prog 24 #[.slice A files.length c,.string nm] W fun e w'=>e= .returned (.int .i64 (iQ files nm))∧Below W.heap.size W w'):=⟨fun nm W hb=>pX files nm W A c (Kd.fC H.fc hb) H.fl (by have:=H.nfl;omega)⟩
  have hkl:=(List.getElem?_eq_some_iff.1 hf).1
  have HFC:ah (∃ad,A=some ad∧∀W,Below w0.heap.size w0 W→W.cell? (ad.add (k*2))=some (.string f.1)):=⟨by
   obtain ⟨ad,e,h1,_⟩:=oP H.fc k hkl f hf
   exact ⟨ad,e,fun W hb=>(hb.cell (World.block_lt_of_cell? _ _ h1)).trans h1⟩⟩
  obtain ⟨ad,rfl,hnc⟩:=HFC.out
  have HNC:=z0 hnc
  have HIH:ah (∀(k:Nat) (f:Fl) (w:World) (SB cS:Nat) (bl:List Bool) (v:Value) (met out:List ByteArray),files[k]? =some f→f.1∉met→Graph.left (files.map (·.1)) met≤d→out.length+Graph.left (files.map (·.1)) met≤1000→GN files w0 w SB cS bl v met out→
   Calls Tryz.prog 27 #[.slice (some ad) files.length c,.int .i64 (k:Int),.slice Ap ps.length cp,.slice (some ⟨SB,0,none⟩) files.length cS,v] w (KZ files (usR m ps) (erN m) w0 w SB cS f.1 met out)):=⟨ih⟩
  have HH:=z0 H
  have HM:=z0 hm
  have HF:=z0 hf
  have HN:=z0 hn
  have HS1:=z0 S1
  have HK1:=z0 K1
  have HLL:=z0 (And.intro hleft (And.intro hd hl))
  obtain ⟨NF,hNF⟩:∃NF,NF=files.length:=⟨_,rfl⟩
  have HNF:=z0 hNF
  rw [←hNF] at hkl H25 H24 HIH ⊢
  obtain ⟨o4,ho4⟩:∃o4,o4=out.length:=⟨_,rfl⟩
  rw [←ho4]
  have HO4:=z0 ho4
  have hk0:(0:Int)≤(k:Int):=by omega
  have hk1:(k:Int)<(NF:Int):=by omega
  clear ih H hm hf hn S S1 K1 hleft hd hl hnc HFC hNF ho4
  by_cases he:erN m f.1=0
  · have HE:=z0 he
    have H25':∀W:World,Below w0.heap.size w0 W→Calls Tryz.prog 25 #[.slice (some ad) NF c,.int .i64 (k:Int),.slice Ap ps.length cp] W fun e w'=>∃v,e= .returned (.tuple #[v,.int .i64 0])∧Kd.R kUs 33 w' W.heap.size (fun _=>True) v (usR m ps f.1)∧Below W.heap.size W w':=fun W hb=>by have h:=H25.out W hb;rwa [he] at h
    obtain ⟨U,hU⟩:∃U,U=usR m ps f.1:=⟨_,rfl⟩
    rw [←hU] at H25'
    obtain ⟨NU,hNU⟩:∃NU,NU=U.length:=⟨_,rfl⟩
    have hnu:NU≤1000000:=by rw [hNU,hU];exact (HH.out.env HM.out 0 0 0).len f.1
    have HU:=z0 hU
    have HNU:=z0 hNU
    replace H25':=z0 H25'
    clear he hU hNU H25
    go_enter Tryz.func27,Tryz.ntmps27
    go_wp2_with (go_at_call 25;go_loud (refine (H25'.out _ HS1.out.below).mono ?_;rintro e w3 ⟨v12,rfl,hR,hb3⟩;obtain ⟨A12,c12,e12⟩:=Kd.bF hR;rw [←HNU.out] at e12;subst e12;have HR12:=z0 hR;have HB3:=z0 hb3;clear hR hb3))
    have HG3:ah (GN files w0 w3 SB cS (bl.set k true) (.slice A4 o4 c4) (f.1::met) out):=⟨by have h:=HS1.out.step HB3.out;rwa [←HO4.out] at h⟩
    have HK3:ah (kQ w w3):=⟨HK1.out.trans (kQ.of_below HB3.out)⟩
    go_loopg [4,13,14,15] NU (fun kq v4 v13 v14 v15 w'=>∃(i:Nat) (met1 out1:List ByteArray) (bl1:List Bool),v13= .int .i64 0∧v14= .int .i64 i∧ah (kq+i=NU)∧ah (Graph.Walks (erN m) (fun n=>iw (usR m ps n)) (iw (U.take i)) (f.1::met) out 0 met1 out1)∧ah (GN files w0 w' SB cS bl1 v4 met1 out1)∧ah (kQ w3 w'))
    case atStart=>exact ⟨0,f.1::met,out,bl.set k true,rfl,rfl,⟨rfl⟩,⟨.nil⟩,HG3,⟨kQ.refl _⟩⟩
    case round=>
     obtain ⟨i,met1,out1,bl1,rfl,rfl,hki,hW,hG,hKT⟩:=hrel
     have hki':=hki.out
     obtain ⟨hsub,hlen⟩:=Graph.yx (erN m) (fun n=>iw (usR m ps n)) (HH.out.env HM.out 0 0 0).in_ _ _ _ _ _ _ hW.out (fun y hy=>(HH.out.env HM.out 0 0 0).in_ f.1 y (by
      obtain ⟨u,h1,h2,h3⟩:=rZ hy
      have h4:=List.mem_of_mem_take h1
      rw [HU.out] at h4
      rw [←h2];exact xu h4 (by rw [h2];exact h3)))
     have hleft1:Graph.left (files.map (·.1)) met1≤d:=by
      have h1:=Graph.tY (names:=files.map (·.1)) hsub
      have h2:=HLL.out.1
      have h3:=HLL.out.2.1
      omega
     have hlen1:out1.length+Graph.left (files.map (·.1)) met1≤1000:=by have h2:=HLL.out.1;have h3:=HLL.out.2.2;omega
     have HL1:=z0 (And.intro hleft1 hlen1)
     clear hsub hlen hleft1 hlen1
     obtain ⟨A5,c5,e5⟩:=Kd.bF hG.out.out
     obtain ⟨o5,ho5⟩:∃o5,o5=out1.length:=⟨_,rfl⟩
     rw [←ho5] at e5
     subst e5
     have HO5:=z0 ho5
     clear ho5
     cases gk with
     |zero=>
      obtain rfl:i=NU:=by omega
      have hlt:decide ((i:Int)<(i:Int))=false:=decide_eq_false (by omega)
      have hW':ah (Graph.Walks (erN m) (fun n=>iw (usR m ps n)) (iw (usR m ps f.1)) (f.1::met) out 0 met1 out1):=⟨by
       have h:=hW.out
       rw [List.take_of_length_le (by rw [HNU.out];exact Nat.le_refl _),HU.out] at h
       exact h⟩
      have hnc:=HNC.out wr hG.out.below
      go_wp2_with (at_builtin;go_loud (refine Kd.fH Kd.string (w0:=w0) w0.heap.size rfl (.tmp 66) (.tmp 72) 23 9 (.string ⟨#[]⟩) 16 rfl uZ (by kernel_rfl) rfl (by decide) (by omega) (.slice A5 o5 c5) out1 f.1 [.string f.1] (fun _=>True) (fun _=>False) rfl rfl rfl (fun _ hk=>hk.elim) (fun _ _=>trivial) hG.out.out hG.out.below (aQ hG.out.below) ?aL ?_;(case aL=>have:=HL1.out.2;omega);intro v1 w6 ho hb6 hg6 _;have HE6:=z0 (GN.end_ hG.out ho hb6 hg6);clear ho hb6 hg6))
      go_ret2
      exact ⟨_,_,_,_,bl1,rfl,.go HN.out HE.out hW'.out,fun _=>HE6.out.1,fun h=>absurd rfl h,HE6.out.1.below,HK3.out.trans (hKT.out.trans HE6.out.2)⟩
     |succ g1=>
      have hlt:decide ((i:Int)<(NU:Int))=true:=decide_eq_true (by omega)
      have hin:i<NU:=by omega
      have hii:(0:Int)≤(i:Int):=by omega
      obtain ⟨u,hu⟩:∃u,U[i]? =some u:=⟨_,List.getElem?_eq_getElem (by rw [←HNU.out];exact hin)⟩
      have hCu:Kd.C kUs wr A12 NU U:=by have h:=(Kd.aZ (KG HR12.out hKT.out)).2.2;rwa [←HNU.out] at h
      obtain ⟨ad12,hA12,hu0,hu1,hu2⟩:=Em hCu i hin u hu
      obtain rfl:=hA12
      have htk:=take_snoc U i u hu
      have hfs:=zH u (U.take i)
      rw [←htk] at hfs
      have HUM:ah (u∈usR m ps f.1):=⟨by rw [←HU.out];exact List.mem_of_getElem? hu⟩
      clear hu hCu htk
      obtain ⟨u1,u2,u3⟩:=u
      simp only at hu0 hu1 hu2 hfs
      have H24x:=fun W hb=>H24.out u3 W hb
      by_cases hz:u3.toList=([]:List UInt8)
      · have hz':(u3.toList==([]:List UInt8))=true:=beq_iff_eq.mpr hz
        rw [if_pos hz] at hfs
        have hW2:ah (Graph.Walks (erN m) (fun n=>iw (usR m ps n)) (iw (U.take (i+1))) (f.1::met) out 0 met1 out1):=⟨by rw [hfs];exact hW.out⟩
        clear hz hfs
        go_wp2_with (go_at_call 24;go_loud (refine (H24x _ hG.out.below).mono ?_;rintro e w5 ⟨rfl,hb5⟩;have HG5:=z0 (hG.out.step hb5);have HK5:=z0 (hKT.out.trans (kQ.of_below hb5));have hu2':=(hb5.cell (World.block_lt_of_cell? _ _ hu2)).trans hu2;clear hb5))
        go_roundg g1
        case measure=>omega
        case rel=>exact ⟨i+1,met1,out1,bl1,rfl,(by first|rfl|simp),⟨by omega⟩,hW2,HG5,HK5⟩
      · have hz':(u3.toList==([]:List UInt8))=false:=beq_eq_false_iff_ne.mpr hz
        rw [if_neg hz] at hfs
        have hsome:(eF m u3).isSome=true:=Gw m ps f.1 (u1,u2,u3) HUM.out hz
        have h0:=(nY HM.out u3).1 hsome
        have hfl:=(jU HM.out).2
        obtain ⟨jn,g,ejn,hj,hg1,_⟩:∃(j:Nat) (f:Fl),iQ files u3=j∧files[j]? =some f∧f.1=u3∧∀i,i<j→∀g,files[i]? =some g→g.1≠u3:=by
         rcases (qL files u3 (by omega)).2 with ⟨e,_⟩|h
         · omega
         · exact h
        subst hg1
        have hjl:=(List.getElem?_eq_some_iff.1 hj).1
        rw [←HNF.out] at hjl
        obtain ⟨b,hbj,hbm⟩:=hG.out.isin jn g hj
        have hj0:(0:Int)≤(jn:Int):=by omega
        have hj1:(jn:Int)<(NF:Int):=by omega
        have hcell:∀W:World,GN files w0 W SB cS bl1 (.slice A5 o5 c5) met1 out1→W.cell? ⟨SB,jn,none⟩=some (.bool b):=fun W h=>by
         have hs:=h.seen
         obtain ⟨cx,_,hMx,hcx,_⟩:=Kd.kZ hs false (jn:Int) (by omega) (by rw [←HNF.out];omega)
         obtain rfl:=hMx
         have:=hcx 0 _ rfl
         rw [Int.toNat_natCast,List.getD_eq_getElem?_getD,hbj] at this
         simpa [Kd.bool,Kd.scalar] using this
        have HCELL:=z0 hcell
        have HJ:=z0 hj
        have HBM:=z0 hbm
        have HFS:=z0 hfs
        have H24y:∀W:World,Below w0.heap.size w0 W→Calls Tryz.prog 24 #[.slice (some ad) NF c,.string g.1] W fun e w'=>e= .returned (.int .i64 (jn:Int))∧Below W.heap.size W w':=fun W hb=>by rw [←ejn];exact H24.out g.1 W hb
        clear hz hfs hsome h0 ejn hbj hcell hj hbm H24x
        cases b with
        |true=>
         have hW2:ah (Graph.Walks (erN m) (fun n=>iw (usR m ps n)) (iw (U.take (i+1))) (f.1::met) out 0 met1 out1):=⟨by rw [HFS.out];exact hW.out.snoc (.met (HBM.out.1 rfl))⟩
         go_wp2_with (go_at_call 24;go_loud (refine (H24y _ hG.out.below).mono ?_;rintro e w5 ⟨rfl,hb5⟩;have HG5:=z0 (hG.out.step hb5);have HK5:=z0 (hKT.out.trans (kQ.of_below hb5));have hu2':=(hb5.cell (World.block_lt_of_cell? _ _ hu2)).trans hu2;have hs5:=HCELL.out _ HG5.out;clear hb5))
         go_roundg g1
         case measure=>omega
         case rel=>exact ⟨i+1,met1,out1,bl1,rfl,(by first|rfl|simp),⟨by omega⟩,hW2,HG5,HK5⟩
        |false=>
         have HNM:ah (g.1∉met1):=⟨fun h=>by have:=HBM.out.2 h;cases this⟩
         have H27:=fun W (hS:GN files w0 W SB cS bl1 (.slice A5 o5 c5) met1 out1)=>HIH.out jn g W SB cS bl1 (.slice A5 o5 c5) met1 out1 HJ.out HNM.out HL1.out.1 HL1.out.2 hS
         replace H27:=z0 H27
         go_wp2_with (first|(go_at_call 24;go_loud (refine (H24y _ hG.out.below).mono ?_;rintro e w5 ⟨rfl,hb5⟩;have HG5:=z0 (hG.out.step hb5);have HK5:=z0 (hKT.out.trans (kQ.of_below hb5));have hu2':=(hb5.cell (World.block_lt_of_cell? _ _ hu2)).trans hu2;have hs5:=HCELL.out _ HG5.out;clear hb5))|(go_at_call 27;go_loud (refine (H27.out _ HG5.out).mono ?_;rintro e w6 ⟨v6,e6,met6,out6,bl6,rfl,hw6,hg6,hv6,hb6,hk6⟩;have HW6:=z0 hw6;have HG6:=z0 hg6;have HV6:=z0 hv6;have HB6:=z0 hb6;have HK6:=z0 (HK5.out.trans hk6);clear hw6 hg6 hv6 hb6 hk6)))
         · rename_i h5
           have h5':e6≠0:=by simpa using h5
           have HST:ah (Graph.Walks (erN m) (fun n=>iw (usR m ps n)) (iw (usR m ps f.1)) (f.1::met) out e6 met6 out6):=⟨by
            have e1:iw (usR m ps f.1)=iw (U.take i)++g.1::iw (U.drop (i+1)):=by
             rw [←HU.out]
             conv=>lhs;rw [←List.take_append_drop (i+1) U]
             rw [C9,HFS.out,List.append_assoc];rfl
            rw [e1]
            exact hW.out.stop HW6.out h5'⟩
           go_ret2
           exact ⟨_,e6,met6,out6++[f.1],[],rfl,.go HN.out HE.out HST.out,fun h=>absurd h h5',fun _=>rfl,HB6.out,HK3.out.trans HK6.out⟩
         · rename_i h5
           have h5':e6=0:=by simpa using h5
           subst h5'
           have hW2:ah (Graph.Walks (erN m) (fun n=>iw (usR m ps n)) (iw (U.take (i+1))) (f.1::met) out 0 met6 out6):=⟨by rw [HFS.out];exact hW.out.snoc HW6.out⟩
           go_roundg g1
           case measure=>omega
           case rel=>exact ⟨i+1,met6,out6,bl6,rfl,(by first|rfl|simp),⟨by omega⟩,hW2,⟨HG6.out rfl⟩,HK6⟩
  · have hb:(erN m f.1==0)=false:=beq_eq_false_iff_ne.mpr he
    have hb':(erN m f.1 !=0)=true:=bne_iff_ne.mpr he
    have HE:=z0 he
    clear he
    go_enter Tryz.func27,Tryz.ntmps27
    go_wp2_with (go_at_call 25;go_loud (refine (H25.out _ HS1.out.below).mono ?_;rintro e w3 ⟨v12,rfl,hR,hb3⟩;have HB3:=z0 hb3;clear hR hb3))
    go_ret2
    exact ⟨_,_,_,_,[],rfl,.bad HN.out HE.out,fun h=>absurd h HE.out,fun _=>rfl,ak HS1.out.below HB3.out,HK1.out.trans (kQ.of_below HB3.out)⟩
end Go.Proofs.YtolaiebjmhieiaaGreatDoor.OScan
end
section
namespace Go.Proofs.YtolaiebjmhieiaaGreatDoor.ORef
open Go.RowKit YtolaiebjmhieiaaGreatDoorW.PrintWords YtolaiebjmhieiaaGreatDoorW.PrintLast YtolaiebjmhieiaaGreatDoorW.PrintMore
attribute [local go_sem] jF jD ku jZ jc iZ jE jC
def dK.l0:Nat→List ByteArray→Int→Option (Bool)
 |0,_,_=>none
 |k+1,x3,x4=>if x4<(x3.length:Int) then (if 0≤x4 then (if (jv ByteArray.empty x3 x4).toList=([]:List UInt8) then (some false) else (if (jv ByteArray.empty x3 x4).toList=([46]:List UInt8) then (some false) else (if (jv ByteArray.empty x3 x4).toList=([46,46]:List UInt8) then (some false) else (dK.l0 k x3 (wrap64 (x4+1)))))) else (none)) else (some true)
def dK.f (k:Nat)(a0:ByteArray):Option (Bool):=(bW.f k a0).bind fun t234=>(dK.l0 k t234 0)
theorem dK.calls (k:Nat)(a0:ByteArray)(r:Bool)(w:World)(h:dK.f k a0=some r):
 Calls Tryz.prog 45 #[.string a0] w fun e w'=>e= .returned (.bool r)∧Below w.heap.size w w':=by
 have HB:=z0 (Below.refl w.heap.size w)
 have H:=h
 clear h
 unfold dK.f at H
 replace H:=zo H
 obtain ⟨t234,A2,H⟩:=H
 (try dsimp only at H)
 have H':=z0 H
 clear H
 go_enter Tryz.func45,Tryz.ntmps45
 go_wp2_with (first|(refine zc 6 rfl Tryz.func80 #[.string a0] ?_;(with_reducible refine (bW.calls k a0 t234 _ A2.out).mono ?_);rintro e w3 ⟨v235,rfl,ho0,hb⟩;refine ⟨_,rfl,?_⟩;have n0_:=z0 (Kd.fZ ho0 (aQ zw));have n1_:=z0 (ak zw hb);revert n0_ n1_;clear HB;intro HO236 HB;(try clear hb);(try clear hk);(try clear hi);(try clear ho0)))
 (try go_simp)
 go_loopg [4] k (fun kq v4 w'=>∃(x4_1:Int),v4= .int .i64 x4_1∧ah (dK.l0 kq t234 x4_1=some r)∧ah (kq≤k)∧ah (Kd.R Kd.string 9 w' w.heap.size (fun _=>True) v235 t234)∧ah (Below w.heap.size w w'))
 case atStart=>exact ⟨(0),zr,H',⟨Nat.le_refl _⟩,⟨by (with_reducible repeat (first|apply Kd.dP|apply Kd.dS|apply Kd.fU));exact HO236.out⟩,⟨zw⟩⟩
 case round=>
  clear H'
  obtain ⟨x4_1,rfl,HA,HK1,HO_3,HB⟩:=hrel
  cases gk with
  |zero=>exact absurd HA.out (by simp [dK.l0])
  |succ k1=>
   have H:=HA.out
   clear HA
   simp only [dK.l0] at H
   replace H:=zd H
   rcases H with ⟨c4b0,H⟩|⟨c4b0,H⟩
   · replace H:=zdn H
     obtain ⟨c5b0,H⟩:=H
     replace H:=zE H
     rcases H with ⟨c6b0,c6b1,H⟩|⟨c6b0,c6b1,H⟩
     · obtain rfl:=Option.some.inj H
       obtain ⟨Ao7,co7,eo7⟩:=Kd.bF HO_3.out
       subst eo7
       have p237:0≤(x4_1:Int):=of_decide_eq_true (by first|(with_reducible assumption)|assumption)
       have q237:x4_1<(t234.length:Int):=of_decide_eq_true (by first|(with_reducible assumption)|assumption)
       obtain ⟨ad237,e237,hx237_0⟩:=Kd.fF (Kd.aZ HO_3.out).2.2 x4_1 p237 q237
       cases e237
       replace p237:=eq_true p237
       replace q237:=eq_true q237
       go_wp2
       go_ret
       exact ⟨zv,zw⟩
     · replace H:=zE H
       rcases H with ⟨c8b0,c8b1,H⟩|⟨c8b0,c8b1,H⟩
       · obtain rfl:=Option.some.inj H
         obtain ⟨Ao9,co9,eo9⟩:=Kd.bF HO_3.out
         subst eo9
         have p237:0≤(x4_1:Int):=of_decide_eq_true (by first|(with_reducible assumption)|assumption)
         have q237:x4_1<(t234.length:Int):=of_decide_eq_true (by first|(with_reducible assumption)|assumption)
         obtain ⟨ad237,e237,hx237_0⟩:=Kd.fF (Kd.aZ HO_3.out).2.2 x4_1 p237 q237
         cases e237
         replace p237:=eq_true p237
         replace q237:=eq_true q237
         have p238:0≤(x4_1:Int):=of_decide_eq_true (by first|(with_reducible assumption)|assumption)
         have q238:x4_1<(t234.length:Int):=of_decide_eq_true (by first|(with_reducible assumption)|assumption)
         obtain ⟨ad238,e238,hx238_0⟩:=Kd.fF (Kd.aZ HO_3.out).2.2 x4_1 p238 q238
         obtain rfl:ad237=ad238:=(by injection e238)
         replace p238:=eq_true p238
         replace q238:=eq_true q238
         go_wp2
         go_ret
         exact ⟨zv,zw⟩
       · replace H:=zE H
         rcases H with ⟨c10b0,c10b1,H⟩|⟨c10b0,c10b1,H⟩
         · obtain rfl:=Option.some.inj H
           obtain ⟨Ao11,co11,eo11⟩:=Kd.bF HO_3.out
           subst eo11
           have p237:0≤(x4_1:Int):=of_decide_eq_true (by first|(with_reducible assumption)|assumption)
           have q237:x4_1<(t234.length:Int):=of_decide_eq_true (by first|(with_reducible assumption)|assumption)
           obtain ⟨ad237,e237,hx237_0⟩:=Kd.fF (Kd.aZ HO_3.out).2.2 x4_1 p237 q237
           cases e237
           replace p237:=eq_true p237
           replace q237:=eq_true q237
           have p238:0≤(x4_1:Int):=of_decide_eq_true (by first|(with_reducible assumption)|assumption)
           have q238:x4_1<(t234.length:Int):=of_decide_eq_true (by first|(with_reducible assumption)|assumption)
           obtain ⟨ad238,e238,hx238_0⟩:=Kd.fF (Kd.aZ HO_3.out).2.2 x4_1 p238 q238
           obtain rfl:ad237=ad238:=(by injection e238)
           replace p238:=eq_true p238
           replace q238:=eq_true q238
           have p239:0≤(x4_1:Int):=of_decide_eq_true (by first|(with_reducible assumption)|assumption)
           have q239:x4_1<(t234.length:Int):=of_decide_eq_true (by first|(with_reducible assumption)|assumption)
           obtain ⟨ad239,e239,hx239_0⟩:=Kd.fF (Kd.aZ HO_3.out).2.2 x4_1 p239 q239
           obtain rfl:ad237=ad239:=(by injection e239)
           replace p239:=eq_true p239
           replace q239:=eq_true q239
           go_wp2
           go_ret
           exact ⟨zv,zw⟩
         · have H':=z0 H
           clear H
           obtain ⟨Ao12,co12,eo12⟩:=Kd.bF HO_3.out
           subst eo12
           have p237:0≤(x4_1:Int):=of_decide_eq_true (by first|(with_reducible assumption)|assumption)
           have q237:x4_1<(t234.length:Int):=of_decide_eq_true (by first|(with_reducible assumption)|assumption)
           obtain ⟨ad237,e237,hx237_0⟩:=Kd.fF (Kd.aZ HO_3.out).2.2 x4_1 p237 q237
           cases e237
           replace p237:=eq_true p237
           replace q237:=eq_true q237
           have p238:0≤(x4_1:Int):=of_decide_eq_true (by first|(with_reducible assumption)|assumption)
           have q238:x4_1<(t234.length:Int):=of_decide_eq_true (by first|(with_reducible assumption)|assumption)
           obtain ⟨ad238,e238,hx238_0⟩:=Kd.fF (Kd.aZ HO_3.out).2.2 x4_1 p238 q238
           obtain rfl:ad237=ad238:=(by injection e238)
           replace p238:=eq_true p238
           replace q238:=eq_true q238
           have p239:0≤(x4_1:Int):=of_decide_eq_true (by first|(with_reducible assumption)|assumption)
           have q239:x4_1<(t234.length:Int):=of_decide_eq_true (by first|(with_reducible assumption)|assumption)
           obtain ⟨ad239,e239,hx239_0⟩:=Kd.fF (Kd.aZ HO_3.out).2.2 x4_1 p239 q239
           obtain rfl:ad237=ad239:=(by injection e239)
           replace p239:=eq_true p239
           replace q239:=eq_true q239
           go_wp2
           go_roundg k1
           case measure=>have:=HK1.out;omega
           case rel=>exact ⟨(wrap64 (x4_1+1)),zr,H',⟨by have:=HK1.out;omega⟩,⟨by (with_reducible repeat (first|apply Kd.dP|apply Kd.dS|apply Kd.fU));exact HO_3.out⟩,⟨zw⟩⟩
   · obtain rfl:=Option.some.inj H
     obtain ⟨Ao13,co13,eo13⟩:=Kd.bF HO_3.out
     subst eo13
     go_wp2
     go_ret
     exact ⟨zv,zw⟩
mutual
def bJ.l0:Nat→List (S46)→Int→Option (Int)
 |0,_,_=>none
 |k+1,x0,x3=>if x3<(x0.length:Int) then (if 0≤x3 then ((dK.f k ((iU x0 x3).f0)).bind fun t241=>(if t241=true then (bJ.l0 k x0 (wrap64 (x3+1))) else (some 3))) else (none)) else (bJ.l1 k x0 0)
def bJ.l1:Nat→List (S46)→Int→Option (Int)
 |0,_,_=>none
 |k+1,x0,x4=>if x4<(x0.length:Int) then (if 0≤x4 then ((aW.f k x0 ((iU x0 x4).f0)).bind fun t243=>(if t243=x4 then (bJ.l1 k x0 (wrap64 (x4+1))) else (some 5))) else (none)) else (some 0)
end
def bJ.f (k:Nat)(l0:List (S46)):Option (Int):=if (l0.length:Int)>60 then (some 2) else (bJ.l0 k l0 0)
theorem bJ.calls (k:Nat)(A0:Option Addr)(c0:Nat)(l0:List (S46))(r:Int)(w:World)(hr0:Kd.C k46 w A0 l0.length l0)(hc0:l0.length≤c0)(h:bJ.f k l0=some r):
 Calls Tryz.prog 23 #[.slice A0 l0.length c0] w fun e w'=>e= .returned (.int .i64 r)∧Below w.heap.size w w':=by
 have HR0:=z0 hr0
 have HC0:=z0 hc0
 clear hr0 hc0
 have HB:=z0 (Below.refl w.heap.size w)
 have H:=h
 clear h
 unfold bJ.f at H
 by_cases c2:(l0.length:Int)>60
 · rw [if_pos c2] at H
   have c2b0:decide (60<(l0.length:Int))=true:=decide_eq_true c2
   have c2b1:decide (60<l0.length)=true:=decide_eq_true (by omega)
   clear c2
   obtain rfl:=Option.some.inj H
   go_enter Tryz.func23,Tryz.ntmps23
   go_wp2
   go_ret
   exact ⟨zv,zw⟩
 · rw [if_neg c2] at H
   have c2b0:decide (60<(l0.length:Int))=false:=decide_eq_false c2
   have c2b1:decide (60<l0.length)=false:=decide_eq_false (by omega)
   clear c2
   have H':=z0 H
   clear H
   go_enter Tryz.func23,Tryz.ntmps23
   go_wp2
   (try go_simp)
   go_loopg [3] k (fun kq v3 w'=>∃(x3_1:Int),v3= .int .i64 x3_1∧ah (bJ.l0 kq l0 x3_1=some r)∧ah (kq≤k)∧ah (Below w.heap.size w w'))
   case atStart=>exact ⟨(0),zr,H',⟨Nat.le_refl _⟩,⟨zw⟩⟩
   case round=>
    clear H'
    obtain ⟨x3_1,rfl,HA,HK1,HB⟩:=hrel
    cases gk with
    |zero=>exact absurd HA.out (by simp [bJ.l0])
    |succ k1=>
     have H:=HA.out
     clear HA
     simp only [bJ.l0] at H
     replace H:=zd H
     rcases H with ⟨c3b0,H⟩|⟨c3b0,H⟩
     · replace H:=zdn H
       obtain ⟨c4b0,H⟩:=H
       replace H:=zo H
       obtain ⟨t241,A5,H⟩:=H
       (try dsimp only at H)
       by_cases c6:t241=true
       · subst c6
         rw [if_pos rfl] at H
         have H':=z0 H
         clear H
         have p240:0≤(x3_1:Int):=of_decide_eq_true (by first|(with_reducible assumption)|assumption)
         have q240:x3_1<(l0.length:Int):=of_decide_eq_true (by first|(with_reducible assumption)|assumption)
         obtain ⟨ad240,e240,hx240_0,hx240_1⟩:=oL HR0.out x3_1 p240 q240
         cases e240
         replace hx240_0:=(HB.out.cell (World.block_lt_of_cell? w _ hx240_0)).trans hx240_0
         replace hx240_1:=(HB.out.cell (World.block_lt_of_cell? w _ hx240_1)).trans hx240_1
         replace p240:=eq_true p240
         replace q240:=eq_true q240
         go_wp2_with (first|(refine zc 19 rfl Tryz.func45 #[.string ((iU l0 x3_1).f0)] ?_;(with_reducible refine (dK.calls k1 ((iU l0 x3_1).f0) true _ A5.out).mono ?_);rintro e w7 ⟨rfl,hb⟩;refine ⟨_,rfl,?_⟩;have n0_:=z0 (ak zw hb);revert n0_;clear HB;intro HB;(try clear hb);(try clear hk);(try clear hi)))
         go_roundg k1
         case measure=>have:=HK1.out;omega
         case rel=>exact ⟨(wrap64 (x3_1+1)),zr,H',⟨by have:=HK1.out;omega⟩,⟨zw⟩⟩
       · replace c6:=Bool.eq_false_iff.mpr c6
         subst c6
         rw [if_neg nofun] at H
         obtain rfl:=Option.some.inj H
         have p240:0≤(x3_1:Int):=of_decide_eq_true (by first|(with_reducible assumption)|assumption)
         have q240:x3_1<(l0.length:Int):=of_decide_eq_true (by first|(with_reducible assumption)|assumption)
         obtain ⟨ad240,e240,hx240_0,hx240_1⟩:=oL HR0.out x3_1 p240 q240
         cases e240
         replace hx240_0:=(HB.out.cell (World.block_lt_of_cell? w _ hx240_0)).trans hx240_0
         replace hx240_1:=(HB.out.cell (World.block_lt_of_cell? w _ hx240_1)).trans hx240_1
         replace p240:=eq_true p240
         replace q240:=eq_true q240
         go_wp2_with (first|(refine zc 19 rfl Tryz.func45 #[.string ((iU l0 x3_1).f0)] ?_;(with_reducible refine (dK.calls k1 ((iU l0 x3_1).f0) false _ A5.out).mono ?_);rintro e w8 ⟨rfl,hb⟩;refine ⟨_,rfl,?_⟩;have n0_:=z0 (ak zw hb);revert n0_;clear HB;intro HB;(try clear hb);(try clear hk);(try clear hi)))
         go_ret
         exact ⟨zv,zw⟩
     · have H':=z0 H
       clear H
       go_wp2
       (try go_simp)
       go_loopg [4] k1 (fun kq v4 w'=>∃(x4_2:Int),v4= .int .i64 x4_2∧ah (bJ.l1 kq l0 x4_2=some r)∧ah (kq≤k1)∧ah (Below w.heap.size w w'))
       case atStart=>exact ⟨(0),zr,H',⟨Nat.le_refl _⟩,⟨zw⟩⟩
       case round=>
        clear H'
        obtain ⟨x4_2,rfl,HA,HK2,HB⟩:=hrel
        cases gk with
        |zero=>exact absurd HA.out (by simp [bJ.l1])
        |succ k2=>
         have H:=HA.out
         clear HA
         simp only [bJ.l1] at H
         replace H:=zd H
         rcases H with ⟨c9b0,H⟩|⟨c9b0,H⟩
         · replace H:=zdn H
           obtain ⟨c10b0,H⟩:=H
           replace H:=zo H
           obtain ⟨t243,A11,H⟩:=H
           (try dsimp only at H)
           replace H:=ze H
           rcases H with ⟨c12b0,c12b1,H⟩|⟨c12b0,c12b1,H⟩
           · have H':=z0 H
             clear H
             have p242:0≤(x4_2:Int):=of_decide_eq_true (by first|(with_reducible assumption)|assumption)
             have q242:x4_2<(l0.length:Int):=of_decide_eq_true (by first|(with_reducible assumption)|assumption)
             obtain ⟨ad242,e242,hx242_0,hx242_1⟩:=oL HR0.out x4_2 p242 q242
             cases e242
             replace hx242_0:=(HB.out.cell (World.block_lt_of_cell? w _ hx242_0)).trans hx242_0
             replace hx242_1:=(HB.out.cell (World.block_lt_of_cell? w _ hx242_1)).trans hx242_1
             replace p242:=eq_true p242
             replace q242:=eq_true q242
             go_wp2_with (first|(refine zc 33 rfl Tryz.func24 #[.slice (some ad242) l0.length c0,.string ((iU l0 x4_2).f0)] ?_;(with_reducible refine (aW.calls k2 _ _ l0 ((iU l0 x4_2).f0) t243 _ ?side1 ?side2 A11.out).mono ?_);(case side1=>repeat (first|exact (Kd.fC HR0.out HB.out)|(with_reducible refine Kd.C_alloc ?_ _)|(with_reducible refine Kd.lN ?_ _)|(with_reducible refine Kd.C_drew ?_)));(case side2=>exact HC0.out);rintro e w' ⟨rfl,⟨nd,rfl⟩⟩;refine ⟨_,rfl,?_⟩))
             go_roundg k2
             case measure=>have:=HK1.out;have:=HK2.out;omega
             case rel=>exact ⟨(wrap64 (x4_2+1)),zr,H',⟨by have:=HK1.out;have:=HK2.out;omega⟩,⟨zw⟩⟩
           · obtain rfl:=Option.some.inj H
             have p242:0≤(x4_2:Int):=of_decide_eq_true (by first|(with_reducible assumption)|assumption)
             have q242:x4_2<(l0.length:Int):=of_decide_eq_true (by first|(with_reducible assumption)|assumption)
             obtain ⟨ad242,e242,hx242_0,hx242_1⟩:=oL HR0.out x4_2 p242 q242
             cases e242
             replace hx242_0:=(HB.out.cell (World.block_lt_of_cell? w _ hx242_0)).trans hx242_0
             replace hx242_1:=(HB.out.cell (World.block_lt_of_cell? w _ hx242_1)).trans hx242_1
             replace p242:=eq_true p242
             replace q242:=eq_true q242
             go_wp2_with (first|(refine zc 33 rfl Tryz.func24 #[.slice (some ad242) l0.length c0,.string ((iU l0 x4_2).f0)] ?_;(with_reducible refine (aW.calls k2 _ _ l0 ((iU l0 x4_2).f0) t243 _ ?side1 ?side2 A11.out).mono ?_);(case side1=>repeat (first|exact (Kd.fC HR0.out HB.out)|(with_reducible refine Kd.C_alloc ?_ _)|(with_reducible refine Kd.lN ?_ _)|(with_reducible refine Kd.C_drew ?_)));(case side2=>exact HC0.out);rintro e w' ⟨rfl,⟨nd,rfl⟩⟩;refine ⟨_,rfl,?_⟩))
             go_ret
             exact ⟨zv,zw⟩
         · obtain rfl:=Option.some.inj H
           go_wp2
           go_ret
           exact ⟨zv,zw⟩
def cZ.l0:Nat→List ByteArray→List ByteArray→Int→Option (Bool)
 |0,_,_,_=>none
 |k+1,x0,x1,x5=>if x5<(x0.length:Int) then (if 0≤x5 then (if x5<(x1.length:Int) then (if (jv ByteArray.empty x0 x5).toList=(jv ByteArray.empty x1 x5).toList then (cZ.l0 k x0 x1 (wrap64 (x5+1))) else (some false)) else (none)) else (none)) else (some true)
def cZ.f (k:Nat)(l0:List ByteArray)(l1:List ByteArray):Option (Bool):=if (l0.length:Int)=(l1.length:Int) then (cZ.l0 k l0 l1 0) else (some false)
theorem cZ.calls (k:Nat)(A0:Option Addr)(c0:Nat)(l0:List ByteArray)(A1:Option Addr)(c1:Nat)(l1:List ByteArray)(r:Bool)(w:World)(hr0:Kd.C Kd.string w A0 l0.length l0)(hc0:l0.length≤c0)(hr1:Kd.C Kd.string w A1 l1.length l1)(hc1:l1.length≤c1)(h:cZ.f k l0 l1=some r):
 Calls Tryz.prog 13 #[.slice A0 l0.length c0,.slice A1 l1.length c1] w fun e w'=>e= .returned (.bool r)∧dM w w':=by
 have HR0:=z0 hr0
 have HC0:=z0 hc0
 clear hr0 hc0
 have HR1:=z0 hr1
 have HC1:=z0 hc1
 clear hr1 hc1
 have H:=h
 clear h
 unfold cZ.f at H
 by_cases c3:(l0.length:Int)=(l1.length:Int)
 · rw [if_pos c3] at H
   have c3b0:((l0.length:Int)==(l1.length:Int))=true:=beq_iff_eq.mpr c3
   have c3b1:((l0.length:Int) !=(l1.length:Int))=false:=bne_eq_false_iff_eq.mpr c3
   have c3b2:(l0.length==l1.length)=true:=by first|simpa using c3|(simp at c3 ⊢;omega)
   clear c3
   have H':=z0 H
   clear H
   go_enter Tryz.func13,Tryz.ntmps13
   go_wp2
   repeat (go_quiet (fail);try go_wp2)
   (try go_simp)
   go_loopg [5] k (fun kq v5 w'=>∃(x5_1:Int),v5= .int .i64 x5_1∧ah (cZ.l0 kq l0 l1 x5_1=some r)∧ah (kq≤k)∧dM w w')
   case atStart=>exact ⟨(0),zr,H',⟨Nat.le_refl _⟩,zq⟩
   case round=>
    clear H'
    obtain ⟨x5_1,rfl,HA,HK1,⟨m1,rfl⟩⟩:=hrel
    cases gk with
    |zero=>exact absurd HA.out (by simp [cZ.l0])
    |succ k1=>
     have H:=HA.out
     clear HA
     simp only [cZ.l0] at H
     replace H:=zd H
     rcases H with ⟨c4b0,H⟩|⟨c4b0,H⟩
     · replace H:=zdn H
       obtain ⟨c5b0,H⟩:=H
       replace H:=zdn H
       obtain ⟨c6b0,H⟩:=H
       replace H:=zE H
       rcases H with ⟨c7b0,c7b1,H⟩|⟨c7b0,c7b1,H⟩
       · have H':=z0 H
         clear H
         have p249:0≤(x5_1:Int):=of_decide_eq_true (by first|(with_reducible assumption)|assumption)
         have q249:x5_1<(l0.length:Int):=of_decide_eq_true (by first|(with_reducible assumption)|assumption)
         obtain ⟨ad249,e249,hx249_0⟩:=Kd.fF HR0.out x5_1 p249 q249
         cases e249
         replace p249:=eq_true p249
         replace q249:=eq_true q249
         have p250:0≤(x5_1:Int):=of_decide_eq_true (by first|(with_reducible assumption)|assumption)
         have q250:x5_1<(l1.length:Int):=of_decide_eq_true (by first|(with_reducible assumption)|assumption)
         obtain ⟨ad250,e250,hx250_0⟩:=Kd.fF HR1.out x5_1 p250 q250
         cases e250
         replace p250:=eq_true p250
         replace q250:=eq_true q250
         go_wp2
         repeat (go_quiet (fail);try go_wp2)
         go_roundg k1
         case measure=>have:=HK1.out;omega
         case rel=>exact ⟨(wrap64 (x5_1+1)),zr,H',⟨by have:=HK1.out;omega⟩,zq⟩
       · obtain rfl:=Option.some.inj H
         have p249:0≤(x5_1:Int):=of_decide_eq_true (by first|(with_reducible assumption)|assumption)
         have q249:x5_1<(l0.length:Int):=of_decide_eq_true (by first|(with_reducible assumption)|assumption)
         obtain ⟨ad249,e249,hx249_0⟩:=Kd.fF HR0.out x5_1 p249 q249
         cases e249
         replace p249:=eq_true p249
         replace q249:=eq_true q249
         have p250:0≤(x5_1:Int):=of_decide_eq_true (by first|(with_reducible assumption)|assumption)
         have q250:x5_1<(l1.length:Int):=of_decide_eq_true (by first|(with_reducible assumption)|assumption)
         obtain ⟨ad250,e250,hx250_0⟩:=Kd.fF HR1.out x5_1 p250 q250
         cases e250
         replace p250:=eq_true p250
         replace q250:=eq_true q250
         go_wp2
         repeat (go_quiet (fail);try go_wp2)
         go_ret
         exact ⟨zr,zq⟩
     · obtain rfl:=Option.some.inj H
       go_wp2
       repeat (go_quiet (fail);try go_wp2)
       go_ret
       exact ⟨zr,zq⟩
 · rw [if_neg c3] at H
   have c3b0:((l0.length:Int)==(l1.length:Int))=false:=beq_eq_false_iff_ne.mpr c3
   have c3b1:((l0.length:Int) !=(l1.length:Int))=true:=bne_iff_ne.mpr c3
   have c3b2:(l0.length==l1.length)=false:=by first|simpa using c3|(simp at c3 ⊢;omega)
   obtain rfl:=Option.some.inj H
   go_enter Tryz.func13,Tryz.ntmps13
   go_wp2
   repeat (go_quiet (fail);try go_wp2)
   go_ret
   exact ⟨zr,zq⟩
end Go.Proofs.YtolaiebjmhieiaaGreatDoor.ORef
end
section
namespace Go.Proofs.YtolaiebjmhieiaaGreatDoor.OScan
open Go.RowKit YtolaiebjmhieiaaGreatDoorW.PrintWords YtolaiebjmhieiaaGreatDoorW.PrintLast YtolaiebjmhieiaaGreatDoorW.PrintMore
theorem LU (c:UInt8):∀l:List UInt8,Lib.index l [c]=Lib.indexByte l c
 |[]=>rfl
 |b::l=>by
  rw [Lib.index,Lib.indexByte,LU c l]
  have:([c]:List UInt8).isPrefixOf (b::l)=(b==c):=by
   simp only [List.isPrefixOf,Bool.and_true]
   rw [Bool.eq_iff_iff,beq_iff_eq,beq_iff_eq];exact eq_comm
  rw [this]
def oC (s:ByteArray):Nat→Nat→Nat→List ByteArray
 |0,from_,i=>[s.extract from_ i]
 |d+1,from_,i=>if bt s (i:Int)=47 then s.extract from_ i::oC s d (i+1) (i+1) else oC s d from_ (i+1)
theorem J8 (s:ByteArray)(a b c:Nat)(h:a+c≤s.size):(s.extract a s.size).extract b c=s.extract (a+b) (a+c):=by
 apply Go.WideShapes.bytes_inj
 rw [Lib.extract_data,Lib.extract_to_end,Lib.extract_data,List.drop_drop,show c-b=a+c-(a+b) by omega]
theorem J9 (s:ByteArray)(a b:Nat):(s.extract a s.size).extract b (s.extract a s.size).size=s.extract (a+b) s.size:=by
 apply Go.WideShapes.bytes_inj
 rw [Lib.extract_to_end,Lib.extract_to_end,Lib.extract_to_end,List.drop_drop]
theorem wG (s:ByteArray):∀(d from_ i:Nat),from_≤i→i+d=s.size→(∀j,from_≤j→j<i→s.data.toList[j]?≠some 47)→
 oC s d from_ i=Lib.splitB ⟨#[47]⟩ 0 (Lib.countB (s.extract from_ s.size) ⟨#[47]⟩) (s.extract from_ s.size)
 |0,from_,i,h1,h2,hn=>by
  obtain rfl:i=s.size:=by omega
  have hm:Lib.indexB (s.extract from_ s.size) ⟨#[47]⟩= -1:=by
   show Lib.index _ [47]= -1
   rw [LU,Lib.extract_to_end]
   exact wZ (fun j hj=>by rw [List.getElem?_drop];rw [List.length_drop,iM] at hj;exact hn _ (by omega) (by omega))
  rw [Lib.splitB_miss _ _ _ _ hm]
  rfl
 |d+1,from_,i,h1,h2,hn=>by
  have hi:i<s.size:=by omega
  rw [oC]
  by_cases hb:bt s (i:Int)=47
  · have hc:=(ni s i hi 47).1 hb
    have hx:Lib.indexB (s.extract from_ s.size) ⟨#[47]⟩=((i-from_:Nat):Int):=by
     show Lib.index _ [47]=_
     rw [LU,Lib.extract_to_end]
     exact index_hit (fun j hj=>by rw [List.getElem?_drop];exact hn _ (by omega) (by omega)) (by rw [List.getElem?_drop,show from_+(i-from_)=i by omega];exact hc)
    have z1:(⟨#[47]⟩:ByteArray).size=1:=rfl
    rw [if_pos hb,Lib.countB_hit _ _ _ (by decide) hx,Nat.add_comm 1,Lib.splitB_hit _ _ _ _ _ hx,z1,J9,show i-from_+0=i-from_ from rfl,J8 s from_ 0 (i-from_) (by omega),show from_+0=from_ from rfl,show from_+(i-from_)=i by omega,show from_+(i-from_+1)=i+1 by omega]
    rw [wG s d (i+1) (i+1) (Nat.le_refl _) (by omega) (fun j h3 h4=>by omega)]
  · rw [if_neg hb]
    exact wG s d from_ (i+1) (by omega) (by omega) (fun j h3 h4 e=>by
     rcases Nat.lt_or_ge j i with h5|h5
     · exact hn j h3 h5 e
     · obtain rfl:j=i:=by omega
       exact hb ((ni s j hi 47).2 e))
theorem wF (s:ByteArray):oC s s.size 0 0=kV s:=by
 have:=wG s s.size 0 0 (Nat.le_refl _) (by omega) (fun j h1 h2=>by omega)
 rw [this]
 unfold kV
 rw [show s.extract 0 s.size=s from by simp]
theorem qP (s:ByteArray):∀(d from_ i:Nat),(oC s d from_ i).length≤d+1
 |0,_,_=>Nat.le_refl _
 |d+1,from_,i=>by
  rw [oC]
  split
  · have:=qP s d (i+1) (i+1);rw [List.length_cons];omega
  · have:=qP s d from_ (i+1);omega
theorem qK (s:ByteArray)(hs:s.size≤1000000):∀(d k from_ i:Nat) (out:List ByteArray),from_≤i→i+d=s.size→d+1<k→out.length≤i→ORef.bW.l0 k s out (from_:Int) (i:Int)=some (out++oC s d from_ i)
 |d,0,from_,i,out,_,_,hk,_=>by omega
 |0,k+1,from_,i,out,h1,h2,hk,hl=>by
  rw [ORef.bW.l0,if_pos (by omega),if_pos (by omega),if_pos (by omega),if_pos (by omega),if_pos (by omega)]
  obtain ⟨k,rfl⟩:∃k',k=k'+1:=⟨k-1,by omega⟩
  rw [ORef.bW.l0,wr (by omega) (by omega),if_neg (by omega)]
  rfl
 |d+1,k+1,from_,i,out,h1,h2,hk,hl=>by
  have hw:wrap64 ((i:Int)+1)=((i+1:Nat):Int):=(OScan.wr (by omega) (by omega)).trans (by omega)
  rw [ORef.bW.l0,if_pos (by omega),if_neg (by omega),if_pos (by omega),if_pos (by omega),hw,oC]
  by_cases hb:bt s (i:Int)=47
  · rw [if_pos hb,if_pos hb,if_pos (by omega),if_pos (by omega),if_pos (by omega),qK s hs d k (i+1) (i+1) _ (Nat.le_refl _) (by omega) (by omega) (by rw [List.length_append,List.length_singleton];omega),List.append_assoc]
    rfl
  · rw [if_neg hb,if_neg hb]
    exact qK s hs d k from_ (i+1) out (by omega) (by omega) (by omega) (by omega)
theorem JF (s:ByteArray)(hs:s.size≤1000000)(k:Nat)(hk:s.size+1<k):ORef.bW.f k s=some (kV s):=by
 have:=qK s hs s.size k 0 0 [] (Nat.le_refl _) (by omega) hk (by simp)
 rw [List.nil_append,wF] at this
 exact this
theorem wo (xs:List ByteArray)(hl:xs.length≤1000001):∀(d k i:Nat),i≤xs.length→xs.length-i≤d→d<k→ORef.dK.l0 k xs (i:Int)=some (!((xs.drop i).any D7))
 |d,0,i,_,_,hk=>by omega
 |d,k+1,i,h1,hd,hk=>by
  rw [ORef.dK.l0]
  by_cases h:i<xs.length
  · have hrd:jv ByteArray.empty xs (i:Int)=xs[i]:=by
     show xs.getD (i:Int).toNat ByteArray.empty=_
     rw [List.getD_eq_getElem?_getD,show (i:Int).toNat=i from rfl,List.getElem?_eq_getElem h];rfl
    rw [if_pos (by omega),if_pos (by omega),hrd,List.drop_eq_getElem_cons h,List.any_cons,show wrap64 ((i:Int)+1)=((i+1:Nat):Int) from (OScan.wr (by omega) (by omega)).trans (by omega),wo xs hl (d-1) k (i+1) (by omega) (by omega) (by omega)]
    unfold D7
    by_cases q1:xs[i].toList=([]:List UInt8)
    · rw [if_pos q1,q1];rfl
    · rw [if_neg q1,beq_eq_false_iff_ne.2 q1]
      by_cases q2:xs[i].toList=([46]:List UInt8)
      · rw [if_pos q2,q2];rfl
      · rw [if_neg q2,beq_eq_false_iff_ne.2 q2]
        by_cases q3:xs[i].toList=([46,46]:List UInt8)
        · rw [if_pos q3,q3];rfl
        · rw [if_neg q3,beq_eq_false_iff_ne.2 q3];rfl
  · rw [if_neg (by omega),List.drop_eq_nil_of_le (by omega)];rfl
theorem JI (s:ByteArray)(hs:s.size≤1000000)(k:Nat)(hk:s.size+2<k):ORef.dK.f k s=some (kC s):=by
 have hl:(kV s).length≤s.size+1:=by rw [←wF];exact qP s s.size 0 0
 unfold ORef.dK.f
 rw [JF s hs k (by omega),Option.bind_some]
 have:=wo (kV s) (by omega) (kV s).length k 0 (by omega) (by omega) (by omega)
 rw [List.drop_zero] at this
 exact this
theorem zI (files:List Fl)(name:ByteArray)(hl:files.length≤1000000):∀m,ORef.aW.f (files.length+1+m) (files.map jq) name=some (iQ files name)
 |0=>(qL files name hl).1
 |m+1=>ORef.aW.mono _ _ _ _ (zI files name hl m)
theorem uN:∀(files:List Fl) (m0:AL),jS m0 files=none→∃(i:Nat) (f:Fl),files[i]? =some f∧((eF m0 f.1).isSome=true∨∃(j:Nat) (g:Fl),j<i∧files[j]? =some g∧g.1=f.1)
 |[],m0,h=>by cases h
 |f::l,m0,h=>by
  unfold jS at h
  split at h
  · rename_i h0
    exact ⟨0,f,rfl,.inl h0⟩
  · obtain ⟨i,g,hi,h1⟩:=uN l _ h
    refine ⟨i+1,g,hi,?_⟩
    rcases h1 with h1|⟨j,g',h2,h3,h4⟩
    · rw [jH] at h1
      split at h1
      · rename_i he
        exact .inr ⟨0,f,by omega,rfl,((MapKept.bytes_beq _ _).1 he).symm⟩
      · exact .inl h1
    · exact .inr ⟨j+1,g',by omega,h3,h4⟩
theorem Na (files:List Fl)(i:Nat)(h:i<files.length):(ORef.iU (files.map jq) (i:Int)).f0=files[i].1:=by
 have:ORef.iU (files.map jq) (i:Int)=jq files[i]:=by
  show (files.map jq).getD (i:Int).toNat _=_
  rw [Int.toNat_natCast,List.getD_eq_getElem?_getD,List.getElem?_map,List.getElem?_eq_getElem h];rfl
 rw [this];rfl
theorem zA (files:List Fl)(hl:files.length≤1000000):∀(d k i:Nat),i≤files.length→files.length-i≤d→d+files.length+1<k→
 ∃r,ORef.bJ.l1 k (files.map jq) (i:Int)=some r∧((r=0∧∀(j:Nat) (f:Fl),i≤j→files[j]? =some f→iQ files f.1=j)∨(r=5∧∃(j:Nat) (f:Fl),files[j]? =some f∧iQ files f.1≠j))
 |d,0,i,_,_,hk=>by omega
 |d,k+1,i,h1,hd,hk=>by
  rw [ORef.bJ.l1]
  by_cases h:i<files.length
  · have hf:=zI files files[i].1 hl (k-(files.length+1))
    rw [show files.length+1+(k-(files.length+1))=k by omega] at hf
    rw [if_pos (by rw [List.length_map];omega),if_pos (by omega),Na files i h,hf,Option.bind_some,show wrap64 ((i:Int)+1)=((i+1:Nat):Int) from (OScan.wr (by omega) (by omega)).trans (by omega)]
    by_cases he:iQ files files[i].1=i
    · rw [if_pos he]
      obtain ⟨r,hr,h2⟩:=zA files hl (d-1) k (i+1) (by omega) (by omega) (by omega)
      refine ⟨r,hr,?_⟩
      rcases h2 with ⟨rfl,hh⟩|h2
      · refine .inl ⟨rfl,fun j f hj hjf=> ?_⟩
        rcases Nat.lt_or_ge i j with h3|h3
        · exact hh j f h3 hjf
        · obtain rfl:j=i:=by omega
          rw [List.getElem?_eq_getElem h] at hjf
          obtain rfl:=Option.some.inj hjf
          exact he
      · exact .inr h2
    · rw [if_neg he]
      exact ⟨5,rfl,.inr ⟨rfl,i,_,List.getElem?_eq_getElem h,he⟩⟩
  · rw [if_neg (by rw [List.length_map];omega)]
    exact ⟨0,rfl,.inl ⟨rfl,fun j f hj hjf=>by have:=(List.getElem?_eq_some_iff.1 hjf).1;omega⟩⟩
theorem zB (files:List Fl)(hl:files.length≤1000000)(hs:∀f∈files,f.1.size≤4000):∀(d k i:Nat),i≤files.length→files.length-i≤d→d+2*files.length+5000<k→
 ORef.bJ.l0 k (files.map jq) (i:Int)=if (files.drop i).any (fun f=> !kC f.1)=true then some 3 else ORef.bJ.l1 (k-(files.length-i)-1) (files.map jq) 0
 |d,0,i,_,_,hk=>by omega
 |d,k+1,i,h1,hd,hk=>by
  rw [ORef.bJ.l0]
  by_cases h:i<files.length
  · have hz:=hs files[i] (List.getElem_mem h)
    rw [if_pos (by rw [List.length_map];omega),if_pos (by omega),Na files i h,JI _ (by omega) k (by omega),Option.bind_some,show wrap64 ((i:Int)+1)=((i+1:Nat):Int) from (OScan.wr (by omega) (by omega)).trans (by omega),List.drop_eq_getElem_cons h,List.any_cons]
    by_cases hb:kC files[i].1=true
    · rw [if_pos hb,hb,zB files hl hs (d-1) k (i+1) (by omega) (by omega) (by omega),show k-(files.length-(i+1))-1=k+1-(files.length-i)-1 by omega]
      rfl
    · rw [if_neg hb,show kC files[i].1=false from by simpa using hb]
      rfl
  · rw [if_neg (by rw [List.length_map];omega),List.drop_eq_nil_of_le (by omega),show k+1-(files.length-i)-1=k by omega]
    rfl
theorem H7 (files:List Fl)(hl:files.length≤1000)(hs:∀f∈files,f.1.size≤4000):ORef.bJ.f 20000 (files.map jq)=some (eY files).1:=by
 unfold ORef.bJ.f eY
 by_cases h60:60<files.length
 · rw [if_pos (by rw [List.length_map];omega),if_pos h60]
 · rw [if_neg (by rw [List.length_map];omega),if_neg h60]
   have h0:=zB files (by omega) hs files.length 20000 0 (by omega) (by omega) (by omega)
   rw [List.drop_zero] at h0
   rw [show ((0:Nat):Int)=0 from rfl] at h0
   rw [h0]
   by_cases hb:files.any (fun f=> !kC f.1)=true
   · rw [if_pos hb,if_pos hb]
   · rw [if_neg hb,if_neg hb]
     obtain ⟨r,hr,h2⟩:=zA files (by omega) files.length (20000-(files.length-0)-1) 0 (by omega) (by omega) (by omega)
     rw [show ((0:Nat):Int)=0 from rfl] at hr
     rw [hr]
     cases hg:jS [] files with
     |none=>
      obtain ⟨i,f,hi,h3⟩:=uN files [] hg
      rcases h3 with h3|⟨j,g,hj,hjg,he⟩
      · cases h3
      · rcases h2 with ⟨_,hh⟩|⟨rfl,_⟩
        · have h4:=hh i f (by omega) hi
          have h5:=hh j g (by omega) hjg
          rw [he,h4] at h5
          omega
        · rfl
     |some m=>
      rcases h2 with ⟨rfl,_⟩|⟨_,j,f,hj,hne⟩
      · rfl
      · have hop:eY files=(0,some m):=by unfold eY;rw [if_neg h60,if_neg hb,hg]
        exact absurd (Ar hop hj) hne
theorem o8 {files:List Fl}{ps:List ByteArray}{A Ap:Option Addr}{c cp:Nat}{w:World}(H:iG w files ps A Ap c cp):
 Calls Tryz.prog 23 #[.slice A files.length c] w fun e w'=>e= .returned (.int .i64 (eY files).1)∧Below w.heap.size w w':=by
 have h:=ORef.bJ.calls 20000 A c (files.map jq) (eY files).1 w (by rw [List.length_map];exact Jk H.fc) (by rw [List.length_map];exact H.fl) (H7 files (by have:=H.nfl;omega) (fun f hf=>(H.fsz f hf).1))
 rwa [List.length_map] at h
theorem Af (files:List Fl)(name:ByteArray):((eY files).1≠0∧jB files name=((eY files).1,none))∨((eY files).1=0∧iQ files name<0∧jB files name=(4,none))∨∃(m:AL) (k:Nat) (f:Fl),eY files=(0,some m)∧iQ files name=k∧files[k]? =some f∧f.1=name∧jB files name=(0,some m):=by
 rcases nR files with ⟨h1,h2⟩|⟨m,hm⟩
 · have h3:eY files=((eY files).1,none):=by rw [←h1]
   exact .inl ⟨by omega,by unfold jB;rw [h3]⟩
 · have hl:=(jU hm).2
   by_cases h:(eF m name).isSome=true
   · have h0:=(nY hm name).1 h
     rcases (qL files name (by omega)).2 with ⟨e,_⟩|⟨j,g,e,hj,hg,_⟩
     · omega
     · exact .inr (.inr ⟨m,j,g,hm,e,hj,hg,by unfold jB;rw [hm];simp only;rw [if_pos h]⟩)
   · exact .inr (.inl ⟨by rw [hm],by have:¬0≤iQ files name:=fun e=>h ((nY hm name).2 e);omega,by unfold jB;rw [hm];simp only;rw [if_neg h]⟩)
def sS (files:List Fl)(ps:List ByteArray)(name:ByteArray)(er:Int)(l:List ByteArray):Prop:=
 (er≠0∧jB files name=(er,none)∧l=[])∨∃m met out,jB files name=(0,some m)∧Graph.Walk (erN m) (gR m ps) name [] [] er met out∧l=if er=0 then out else []
theorem sS.det {files:List Fl}{ps:List ByteArray}{name:ByteArray}{er er':Int}{l l':List ByteArray}(h:sS files ps name er l)(h':sS files ps name er' l'):er=er'∧l=l':=by
 rcases h with ⟨h1,h2,h3⟩|⟨m,met,out,h1,h2,h3⟩<;>rcases h' with ⟨k1,k2,k3⟩|⟨m',met',out',k1,k2,k3⟩
 · rw [h2] at k2
   obtain rfl:=(Prod.ext_iff.1 k2).1
   exact ⟨rfl,h3.trans k3.symm⟩
 · rw [h2] at k1;cases (Prod.ext_iff.1 k1).2
 · rw [h1] at k2;cases (Prod.ext_iff.1 k2).2
 · rw [h1] at k1
   obtain rfl:=Option.some.inj (Prod.ext_iff.1 k1).2
   obtain ⟨rfl,rfl,rfl⟩:=Graph.Gv h2 _ _ _ k2
   exact ⟨rfl,h3.trans k3.symm⟩
theorem Ib {files:List Fl}{ps:List ByteArray}{A Ap:Option Addr}{c cp:Nat}{w:World}(H:iG w files ps A Ap c cp)(hcp:ps.length≤cp)(name:ByteArray):
 Calls Tryz.prog 10 #[.slice A files.length c,.string name,.slice Ap ps.length cp] w fun e w'=>∃v er l,e= .returned (.tuple #[v,.int .i64 er])∧sS files ps name er l∧Kd.R Kd.string 9 w' w.heap.size (fun _=>True) v l∧Below w.heap.size w w':=by
 have H23:=o8 H
 have H24:ah (∀W:World,Below w.heap.size w W→Calls Tryz.prog 24 #[.slice A files.length c,.string name] W fun e w'=>e= .returned (.int .i64 (iQ files name))∧Below W.heap.size W w'):=⟨fun W hb=>pX files name W A c (Kd.fC H.fc hb) H.fl (by have:=H.nfl;omega)⟩
 rcases Af files name with ⟨h0,hw⟩|⟨h0,hf,hw⟩|⟨m,k,f,hm,hk,hf,rfl,hw⟩
 · obtain ⟨er,her⟩:∃er,er=(eY files).1:=⟨_,rfl⟩
   rw [←her] at H23 h0 hw
   have HA:ah (sS files ps name er []):=⟨.inl ⟨h0,hw,rfl⟩⟩
   have hb':(er !=0)=true:=bne_iff_ne.mpr h0
   obtain ⟨n,hn⟩:∃n,n=files.length:=⟨_,rfl⟩
   rw [←hn] at H23 ⊢
   obtain ⟨np,hnp⟩:∃np,np=ps.length:=⟨_,rfl⟩
   rw [←hnp]
   clear H hcp H24 hw her h0 hn hnp
   go_enter Tryz.func10,Tryz.ntmps10
   go_wp2_with (go_at_call 23;go_loud (refine H23.mono ?_;rintro e w5 ⟨rfl,hb5⟩;have HB5:=z0 hb5;clear hb5))
   go_ret2
   exact ⟨_,_,_,rfl,HA.out,Kd.gQ _ _ _ _ _,HB5.out⟩
 · have HA:ah (sS files ps name 4 []):=⟨.inl ⟨by decide,hw,rfl⟩⟩
   rw [h0] at H23
   obtain ⟨x,hx⟩:∃x,x=iQ files name:=⟨_,rfl⟩
   rw [←hx] at H24 hf
   have hlt:decide (x<0)=true:=decide_eq_true hf
   obtain ⟨n,hn⟩:∃n,n=files.length:=⟨_,rfl⟩
   rw [←hn] at H23 H24 ⊢
   obtain ⟨np,hnp⟩:∃np,np=ps.length:=⟨_,rfl⟩
   rw [←hnp]
   clear H hcp hw hx hf h0 hn hnp
   go_enter Tryz.func10,Tryz.ntmps10
   go_wp2_with (first|(go_at_call 23;go_loud (refine H23.mono ?_;rintro e w5 ⟨rfl,hb5⟩;have HB5:=z0 hb5;clear hb5))|(go_at_call 24;go_loud (refine (H24.out _ HB5.out).mono ?_;rintro e w6 ⟨rfl,hb6⟩;have HB6:=z0 (ak HB5.out hb6);clear hb6)))
   go_ret2
   exact ⟨_,_,_,rfl,HA.out,Kd.gQ _ _ _ _ _,HB6.out⟩
 · rw [hm] at H23
   rw [hk] at H24
   have H27:ah (∀(W:World) (SB cS:Nat),Below w.heap.size w W→Kd.R Kd.bool 4 W w.heap.size (fun _=>True) (.slice (some ⟨SB,0,none⟩) files.length cS) (List.replicate files.length false)→Calls Tryz.prog 27 #[.slice A files.length c,.int .i64 (k:Int),.slice Ap ps.length cp,.slice (some ⟨SB,0,none⟩) files.length cS,.slice none 0 0] W fun e w'=>∃v er l,e= .returned (.tuple #[v,.int .i64 er])∧sS files ps f.1 er l∧Kd.R Kd.string 9 w' w.heap.size (fun _=>True) v l∧Below w.heap.size w w'):=⟨fun W SB cS hb hS=>by
    have hle:=left_le (files.map (·.1)) ([]:List ByteArray)
    rw [List.length_map] at hle
    have hnf:=H.nfl
    refine (FX H hcp hm _ k f W SB cS _ (.slice none 0 0) [] [] hf (by simp) (Nat.le_refl _) (by simp only [List.length_nil];omega) ⟨hb,hS,fun i g hg=>⟨false,?_,by simp⟩,Kd.gQ _ _ _ _ _⟩).mono ?_
    · rw [List.getElem?_replicate,if_pos (List.getElem?_eq_some_iff.1 hg).1]
    · rintro e w' ⟨v',er',met',out',bl',rfl,h1,h2,h3,h4,_⟩
      refine ⟨v',er',if er'=0 then out' else [],rfl,.inr ⟨m,met',out',hw,h1,rfl⟩,?_,h4⟩
      by_cases e0:er'=0
      · rw [if_pos e0];exact (h2 e0).out
      · rw [if_neg e0,h3 e0];exact Kd.gQ _ _ _ _ _⟩
   have hlt:decide ((k:Int)<0)=false:=decide_eq_false (by omega)
   have hnl:=H.nfl
   obtain ⟨n,hn⟩:∃n,n=files.length:=⟨_,rfl⟩
   rw [←hn] at H23 H24 H27 hnl ⊢
   obtain ⟨np,hnp⟩:∃np,np=ps.length:=⟨_,rfl⟩
   rw [←hnp] at H27 ⊢
   obtain ⟨P,hP⟩:∃P:Int→List ByteArray→Prop,P=sS files ps f.1:=⟨_,rfl⟩
   rw [←hP] at H27 ⊢
   obtain ⟨name,hname⟩:∃name,name=f.1:=⟨_,rfl⟩
   rw [←hname] at H24 ⊢
   clear H hcp hw hm hk hf hn hnp hP hname
   go_enter Tryz.func10,Tryz.ntmps10
   go_wp2_with (first|(go_at_call 23;go_loud (refine H23.mono ?_;rintro e w5 ⟨rfl,hb5⟩;have HB5:=z0 hb5;clear hb5))|(go_at_call 24;go_loud (refine (H24.out _ HB5.out).mono ?_;rintro e w6 ⟨rfl,hb6⟩;have HB6:=z0 (ak HB5.out hb6);clear hb6))|(refine lC (.makeSlice 61 (.tmp 24) (.tmp 24)) rfl ?_;go_loud (refine Kd.Ed Kd.bool (w0:=w) w.heap.size 4 rfl (N:=25) rfl 61 (.tmp 24) (.tmp 24) rfl (n:Int) rfl rfl Tryz.underlying61 (.bool false) 1 (by kernel_rfl) rfl (by decide) (by omega) false (ok:=fun _=>True) (okp:=fun _=>False) rfl (fun _ h=>h.elim) trivial (by omega) (by simp;omega) HB6.out (aQ HB6.out) ?_;intro v7 w7 ho hb hg7 hat;rw [Int.toNat_natCast] at ho;obtain ⟨b7,hat,_⟩:=hat;obtain ⟨A7,c7,rfl⟩:=Kd.bF ho;rw [List.length_replicate] at ho;obtain ⟨g7,rfl⟩:∃g,A7=some ⟨g,0,none⟩:=(by cases A7 with|none=>simp [Value.ownBlock] at hat|some a=>obtain ⟨g,rfl⟩:=Kd.Ef ho;exact ⟨g,rfl⟩);have HR7:=z0 ho;have HB7:=z0 hb;clear ho hb hg7 hat))|(go_at_call 27;go_loud (refine (H27.out _ _ _ HB7.out HR7.out).mono ?_;rintro e w8 ⟨v8,e8,l8,rfl,h1,h2,h3⟩;obtain ⟨A8,c8,rfl⟩:=Kd.bF h2;have HX:=z0 (And.intro h1 (And.intro h2 h3));clear h1 h2 h3)))
   go_ret2
   exact ⟨_,_,_,rfl,HX.out.1,HX.out.2.1,HX.out.2.2⟩
end Go.Proofs.YtolaiebjmhieiaaGreatDoor.OScan
end
section
namespace Go.Proofs.YtolaiebjmhieiaaGreatDoor.OScan
open Go.RowKit YtolaiebjmhieiaaGreatDoorW.PrintWords YtolaiebjmhieiaaGreatDoorW.PrintLast YtolaiebjmhieiaaGreatDoorW.PrintMore
open Classical in noncomputable def aE (files:List Fl) (ps:List ByteArray) (n:ByteArray):Int:=if h:∃er l,sS files ps n er l then h.choose else 0
open Classical in noncomputable def aL (files:List Fl) (ps:List ByteArray) (n:ByteArray):List ByteArray:=if h:∃er l,sS files ps n er l then h.choose_spec.choose else []
theorem a_eq {files:List Fl}{ps:List ByteArray}{n:ByteArray}{er:Int}{l:List ByteArray}(h:sS files ps n er l):aE files ps n=er∧aL files ps n=l:=by
 have hx:∃er l,sS files ps n er l:=⟨er,l,h⟩
 have h2:=hx.choose_spec.choose_spec
 unfold aE aL
 rw [dif_pos hx,dif_pos hx]
 exact h2.det h
open Classical in
noncomputable def Ac (files:List Fl)(ps:List ByteArray)(name:ByteArray)(fs:List Fl):List ByteArray:=(fs.filter fun f=>decide (name∈aL files ps f.1)).map (·.1)
theorem yI (files:List Fl)(ps:List ByteArray)(name:ByteArray)(fs:List Fl)(f:Fl):(name∈aL files ps f.1→Ac files ps name (fs++[f])=Ac files ps name fs++[f.1])∧(¬name∈aL files ps f.1→Ac files ps name (fs++[f])=Ac files ps name fs):=by
 unfold Ac
 rw [List.filter_append,List.map_append]
 exact ⟨fun h=>by simp [h],fun h=>by simp [h]⟩
def ErrAt (files:List Fl)(ps:List ByteArray)(er:Int):Prop:=er≠0∧∃i f,files[i]? =some f∧(∀g∈files.take i,aE files ps g.1=0)∧aE files ps f.1=er
theorem ErrAt.det {files:List Fl}{ps:List ByteArray}{er er':Int}(h:ErrAt files ps er)(k:ErrAt files ps er'):er=er':=by
 obtain ⟨h0,i,f,h1,h2,h3⟩:=h
 obtain ⟨k0,j,g,k1,k2,k3⟩:=k
 rcases Nat.lt_trichotomy i j with q|q|q
 · exact absurd ((k2 f (List.mem_of_getElem? (by rw [List.getElem?_take,if_pos q];exact h1))).symm.trans h3) (Ne.symm h0)
 · subst q
   rw [h1] at k1
   cases k1
   exact h3.symm.trans k3
 · exact absurd ((h2 g (List.mem_of_getElem? (by rw [List.getElem?_take,if_pos q];exact k1))).symm.trans k3) (Ne.symm k0)
theorem ErrAt.not {files:List Fl}{ps:List ByteArray}{er:Int}(h:ErrAt files ps er)(hall:∀g∈files,aE files ps g.1=0):False:=by
 obtain ⟨h0,i,f,h1,h2,h3⟩:=h
 exact h0 (h3.symm.trans (hall f (List.mem_of_getElem? h1)))
def sK (files:List Fl)(ps:List ByteArray)(name:ByteArray)(er:Int)(xs:List ByteArray):Prop:=
 (er≠0∧jB files name=(er,none)∧xs=[])∨((jB files name).2.isSome=true∧((ErrAt files ps er∧xs=[])∨((∀g∈files,aE files ps g.1=0)∧er=0∧SU ltB (Ac files ps name files) xs)))
theorem sK.det {files:List Fl}{ps:List ByteArray}{name:ByteArray}{er er':Int}{l l':List ByteArray}(h:sK files ps name er l)(k:sK files ps name er' l'):er=er'∧l=l':=by
 rcases h with ⟨h1,h2,rfl⟩|⟨h1,⟨h2,rfl⟩|⟨h2,rfl,h3⟩⟩<;>rcases k with ⟨k1,k2,rfl⟩|⟨k1,⟨k2,rfl⟩|⟨k2,rfl,k3⟩⟩
 · rw [h2] at k2
   exact ⟨(Prod.ext_iff.1 k2).1,rfl⟩
 · rw [h2] at k1;cases k1
 · rw [h2] at k1;cases k1
 · rw [k2] at h1;cases h1
 · exact ⟨h2.det k2,rfl⟩
 · exact (h2.not k2).elim
 · rw [k2] at h1;cases h1
 · exact (k2.not h2).elim
 · exact ⟨rfl,h3.det mG k3⟩
theorem Cm {files:List Fl}{m:AL}(hm:eY files=(0,some m)):(files.map (·.1)).Nodup:=by
 rw [List.nodup_iff_pairwise_ne,List.pairwise_iff_getElem]
 intro i j hi hj hij e
 rw [List.getElem_map,List.getElem_map] at e
 have:=qc hm (List.getElem?_eq_getElem (by simpa using hi)) (List.getElem?_eq_getElem (by simpa using hj)) e
 omega
theorem DN {files:List Fl}{ps:List ByteArray}{name:ByteArray}{m:AL}(hm:eY files=(0,some m)):(Ac files ps name files).Nodup:=
 (Cm hm).sublist ((List.filter_sublist).map _)
section
variable {W:World}{files:List Fl}{ps:List ByteArray}{A Ap:Option Addr}{c cp:Nat}{m:AL}
theorem KU (H:iG W files ps A Ap c cp)(hm:eY files=(0,some m))(PB fm cm:Nat)(name:ByteArray)(hn:(eF m name).isSome=true)(w:World)(P:PS (usR m ps) (erN m) W m (.slice Ap ps.length cp) PB fm cm w):
 Calls Tryz.prog 26 #[.pointer (some ⟨PB,0,none⟩),.string name] w fun e w'=>∃(er:Int) (out:List ByteArray) (v:Value),e= .returned (.tuple #[v,.int .i64 er])∧(aE files ps name=er∧aL files ps name=out)∧Kd.R Kd.string 9 w' w.heap.size (fun _=>True) v out∧PS (usR m ps) (erN m) W m (.slice Ap ps.length cp) PB fm cm w'∧w.heap.size≤w'.heap.size∧(∀k,k<w.heap.size→k≠cm→w'.heap[k]? =w.heap[k]?)∧out.length≤1000:=by
 have E:=H.env hm PB fm cm
 refine (EX E name w hn P).mono ?_
 rintro e w' ⟨er',met',out',v',rfl,hw,hr,hps,hs,hk⟩
 have hwf:jB files name=(0,some m):=by unfold jB;rw [hm];simp only;rw [if_pos hn]
 have h1:=(Graph.nN (erN m) (fun n=>iw (usR m ps n)) E.in_ _ _ _ _ _ _ hw (E.nm name hn)).2
 have h2:=left_le (files.map (·.1)) []
 have h3:=E.small
 simp only [List.length_nil] at h1
 refine ⟨er',_,v',rfl,a_eq (.inr ⟨m,met',out',hwf,hw,rfl⟩),hr,hps,hs,hk,?_⟩
 split
 · omega
 · simp
theorem I9 (H:iG W files ps A Ap c cp)(name:ByteArray):
 Calls Tryz.prog 15 #[.slice A files.length c,.string name,.slice Ap ps.length cp] W fun e w'=>∃(v:Value) (er:Int) (xs:List ByteArray),e= .returned (.tuple #[v,.int .i64 er])∧sK files ps name er xs∧Kd.R Kd.string 9 w' W.heap.size (fun _=>True) v xs∧Below W.heap.size W w'∧xs.length≤1000:=by
 have H20:=Bj files name A c Ap ps.length cp W H.glob H.fc H.fl (by have:=H.nfl;omega) (fun f hf=>by have:=(H.fsz f hf).1;omega)
 rcases Bl files name with ⟨er,he,hw⟩|⟨m,hm,hsome,hw⟩
 · obtain ⟨P,hP⟩:∃P:Int→List ByteArray→Prop,P=sK files ps name:=⟨_,rfl⟩
   have HA:ah (P er []):=⟨by rw [hP];exact .inl ⟨he,hw,rfl⟩⟩
   obtain ⟨n,hn⟩:∃n,n=files.length:=⟨_,rfl⟩
   obtain ⟨np,hnp⟩:∃np,np=ps.length:=⟨_,rfl⟩
   rw [hw,←hn,←hnp] at H20
   rw [←hn,←hnp,←hP]
   have er0:(er !=0)=true:=by simpa using he
   clear H hw hn hnp he hP
   go_enter Tryz.func15,Tryz.ntmps15
   go_wp2_with (go_at_call 20;go_loud (refine H20.mono ?_;rintro e w5 ⟨rfl,hb5⟩;have HB5:=z0 hb5;clear hb5))
   go_ret2
   exact ⟨_,er,[],rfl,HA.out,Kd.gQ _ _ _ _ _,HB5.out,by simp⟩
 rw [hw] at H20
 have HGET:=z0 (nP hm).2
 have HALL:=z0 (fun (PB fm cm:Nat) (n:ByteArray) (hn:(eF m n).isSome=true) (w:World) P=>KU H hm PB fm cm n hn w P)
 have HPN:=z0 (fun (PB fm cm:Nat) (W':World) hP hb=>tu (W:=W) (ps:=ps) (Ap:=Ap) (cp:=cp) (m:=m) (PB:=PB) (fm:=fm) (cm:=cm) (W':=W') hP hb)
 have HFC:=z0 H.fc
 have HNF:=z0 H.nfl
 have HW:ah ((jB files name).2.isSome=true):=⟨by rw [hw];rfl⟩
 have HND:=z0 (DN (ps:=ps) (name:=name) hm)
 obtain ⟨n,hn⟩:∃n,n=files.length:=⟨_,rfl⟩
 obtain ⟨np,hnp⟩:∃np,np=ps.length:=⟨_,rfl⟩
 rw [←hn,←hnp] at H20
 rw [←hn] at HFC HNF
 rw [←hnp] at HALL HPN
 rw [←hn,←hnp]
 have HN:=z0 hn
 obtain ⟨F,hF⟩:∃F:ByteArray→Int,F=aE files ps:=⟨_,rfl⟩
 obtain ⟨G,hG⟩:∃G:List Fl→List ByteArray,G=Ac files ps name:=⟨_,rfl⟩
 obtain ⟨GL,hGL⟩:∃GL:ByteArray→List ByteArray,GL=aL files ps:=⟨_,rfl⟩
 have HERR:ah (∀(i:Nat) (f:Fl) (er:Int),files[i]? =some f→(∀g∈files.take i,F g.1=0)→F f.1=er→er≠0→sK files ps name er []):=⟨fun i f er h1 h2 h3 h4=> .inr ⟨HW.out,.inl ⟨⟨h4,i,f,h1,fun g hg=>by rw [←hF];exact h2 g hg,by rw [←hF];exact h3⟩,rfl⟩⟩⟩
 have HOK:ah (∀ys:List ByteArray,(∀g∈files,F g.1=0)→ys.Perm (G files)→(ys.Pairwise fun a b=>a.data.toList≤b.data.toList)→sK files ps name 0 ys):=⟨fun ys h1 h2 h3=> .inr ⟨HW.out,.inr ⟨fun g hg=>by rw [←hF];exact h1 g hg,rfl,Dz (by rw [←hG];exact h2) HND.out h3⟩⟩⟩
 have HSN:ah (∀(fs:List Fl) (f:Fl),(name∈GL f.1→G (fs++[f])=G fs++[f.1])∧(¬name∈GL f.1→G (fs++[f])=G fs)):=⟨fun fs f=>by rw [hG,hGL];exact yI files ps name fs f⟩
 have HGN:ah (G []=[]):=⟨by rw [hG];rfl⟩
 rw [←hF,←hGL] at HALL
 obtain ⟨P,hP⟩:∃P:Int→List ByteArray→Prop,P=sK files ps name:=⟨_,rfl⟩
 rw [←hP] at HERR HOK ⊢
 clear H hw hn hnp hm hsome HND HW hF hG hGL hP
 have hn61:=HNF.out
 go_enter Tryz.func15,Tryz.ntmps15
 go_wp2_with (go_at_call 20;go_loud (refine H20.mono ?_;rintro e w5 ⟨⟨PB,fm,cm,rfl,hP⟩,hb5⟩;have HP5:=z0 (HPN.out PB fm cm w5 hP hb5);clear hP hb5))
 have hb5:=HP5.out.below
 go_loopg [10,27] n (fun kq v10 v27 w'=>∃(i:Nat) (xs:List ByteArray),v27= .int .i64 i∧ah (kq+i=n)∧ah (xs.length≤i)∧ah (Kd.R Kd.string 9 w' W.heap.size (fun _=>True) v10 xs)∧ah (PS (usR m ps) (erN m) W m (.slice Ap np cp) PB fm cm w')∧ah ((∀f∈files.take i,F f.1=0)∧xs=G (files.take i)))
 case atStart=>exact ⟨0,[],rfl,⟨rfl⟩,⟨Nat.le_refl _⟩,⟨Kd.gQ _ _ _ _ _⟩,HP5,⟨fun f hf=>by simp at hf,by rw [List.take_zero,HGN.out]⟩⟩
 case round=>
  clear hb5
  obtain ⟨i,xs,rfl,hki,hxl,hR,hP,hX⟩:=hrel
  have hki':=hki.out
  cases gk with
  |zero=>
   have hlt:decide ((i:Int)<(n:Int))=false:=decide_eq_false (by omega)
   have H29:=Jw xs W.heap.size u10 wr hR.out (by have:=hxl.out;omega)
   go_wp2_with (go_at_call 29;go_loud (refine H29.mono ?_;rintro e w9 ⟨rfl,ys,hp9,hr9,hs9,hk9,ho9,ht9,hu9⟩;have HQ:=z0 (And.intro hp9 (And.intro hr9 (And.intro hs9 (And.intro hk9 (And.intro ho9 (And.intro ht9 hu9))))));clear hp9 hr9 hs9 hk9 ho9 ht9 hu9))
   obtain ⟨q1,q2,q3,q4,q5,q6,q7⟩:=HQ.out
   obtain ⟨A10,c10,rfl⟩:=Kd.bF hR.out
   have htf:files.take i=files:=List.take_of_length_le (by rw [←HN.out];omega)
   have hx2:=hX.out
   rw [htf] at hx2
   go_ret2
   exact ⟨_,0,ys,rfl,HOK.out ys hx2.1 (by rw [←hx2.2];exact q1.1) q1.2,q2,Gj hP.out.below hR.out q3 q4 q5 q6 q7,by rw [q1.1.length_eq];have:=hxl.out;omega⟩
  |succ g1=>
   have hlt:decide ((i:Int)<(n:Int))=true:=decide_eq_true (by omega)
   have hii:(0:Int)≤(i:Int):=by omega
   obtain ⟨x,hx⟩:∃x,files[i]? =some x:=⟨_,List.getElem?_eq_getElem (by rw [←HN.out];omega)⟩
   obtain ⟨ad,hAd,hx0,hx1⟩:=oP (Kd.fC HFC.out hP.out.below) i (by omega) x hx
   obtain rfl:=hAd
   have htk:=take_snoc files i x hx
   have hxm:=List.mem_of_getElem? hx
   obtain ⟨f1,f2⟩:=x
   simp only at hx0 hx1
   have hB4:=aA (Below.refl wr.heap.size wr) (Obj.cells #[Value.string f1,Value.string f2] 46)
   have H26:=HALL.out PB fm cm f1 (HGET.out _ hxm) _ (hP.out.step hB4)
   have HTK:=z0 htk
   have HX:=z0 hx
   have HB4:=z0 hB4
   have HNW:ah ((wr.alloc (Obj.cells #[Value.string f1,Value.string f2] 46)).heap[wr.heap.size]? =some (.cells #[Value.string f1,Value.string f2] 46 (0,0))):=⟨dh _ _⟩
   have HNC:ah (wr.heap.size≠cm):=⟨by obtain ⟨c',hP',_⟩:=hP.out.prj;have:=hP'.hc.lt;omega⟩
   clear hx htk hxm hB4
   go_wp2_with (first|(go_at_call 26;go_loud (refine H26.mono ?_;rintro e w6 ⟨er6,out6,v6,rfl,hf6,hr6,hp6,hs6,hk6,hl6⟩;obtain ⟨A6,c6,rfl⟩:=Kd.bF hr6;obtain ⟨bb,hbb,hbi⟩:=mg out6 name (out6.length+1) (by omega) (by omega);have hr6':=Kd.aZ hr6;have H28:=OCond.dA.calls (out6.length+1) A6 c6 out6 name bb w6 hr6'.2.2 hr6'.2.1 hbb;have HQ6:=z0 (And.intro hf6 (And.intro hp6 (And.intro hs6 (And.intro hk6 hbi))));have HBL6:=z0 (And.intro (ak (ak hP.out.below HB4.out) (Below.refl _ _)) hp6.below);clear hf6 hr6 hp6 hs6 hk6 hbi hbb hr6'))|(go_at_call 28;go_loud (refine H28.mono ?_;rintro e w7 ⟨rfl,hd7⟩;have hb7:=hd7.below;obtain ⟨q1,q2,q3,q4,q5⟩:=HQ6.out;have hn7:=(hb7.block wr.heap.size (Nat.lt_of_lt_of_le (aT HNW.out) q3)).trans ((q4 wr.heap.size (aT HNW.out) HNC.out).trans HNW.out);have hc7:w7.cell? ⟨wr.heap.size,0,none⟩=some (.string f1):=(by have:=cell_of_row _ _ 0 _ _ _ hn7;simpa using this);have HR7:=z0 (Kd.dn (AZ (Kd.dn hR.out HB4.out) (fun k cs hk=>q4 k (aT hk) ((hP.out.step HB4.out).sG hk (by decide)).2.2)) hb7);have HP7:=z0 (q2.step hb7);have HF6:=z0 (And.intro q1 q5);clear hd7 hb7 q1 q2 q3 q4 q5 hn7))|(at_builtin;go_loud (refine Kd.fH Kd.string (w0:=W) (W:=w7) W.heap.size rfl (.tmp 44) (.tmp 47) 23 9 (.string ⟨#[]⟩) 16 rfl Tryz.underlying23 info9 rfl (by decide) (by omega) u10 xs f1 [.string f1] (fun _=>True) (fun _=>False) rfl rfl rfl (fun _ hk=>hk.elim) (fun _ _=>trivial) HR7.out HP7.out.below HP7.out.below.size ?aL ?_;(case aL=>have:=hxl.out;omega);intro v1 w8 ho hb8 hg8 hat8;have HO8:=z0 ho;have HG8:=z0 (And.intro hb8 (And.intro hg8 hat8));clear ho hb8 hg8 hat8)))
   · rename_i her
     have he:er6≠0:=by simpa using her
     go_ret2
     exact ⟨_,er6,[],rfl,HERR.out i _ er6 HX.out hX.out.1 HQ6.out.1.1 he,Kd.gQ _ _ _ _ _,HBL6.out.2,by simp⟩
   · rename_i her hbt
     have he:er6=0:=by simpa using her
     go_roundg g1
     case measure=>omega
     case rel=>
      obtain ⟨q1,q2,q3⟩:=HG8.out
      refine ⟨i+1,xs++[f1],by (try simp),⟨by omega⟩,⟨by rw [List.length_append,List.length_singleton];have:=hxl.out;omega⟩,HO8,⟨HP7.out.LV HR7.out q1 (fun k hk hne=>q2.block k hk hne)⟩,⟨fun f hf=> ?_,?_⟩⟩
      · rw [HTK.out] at hf
        rcases List.mem_append.1 hf with hf|hf
        · exact hX.out.1 f hf
        · obtain rfl:=List.mem_singleton.1 hf
          exact HF6.out.1.1.trans he
      · rw [HTK.out,(HSN.out _ (f1,f2)).1 (by show name∈GL f1;rw [HF6.out.1.2];exact HF6.out.2.1 hbt),hX.out.2]
   · rename_i her hbt
     have he:er6=0:=by simpa using her
     go_roundg g1
     case measure=>omega
     case rel=>
      refine ⟨i+1,xs,by (try simp),⟨by omega⟩,⟨by have:=hxl.out;omega⟩,HR7,HP7,⟨fun f hf=> ?_,?_⟩⟩
      · rw [HTK.out] at hf
        rcases List.mem_append.1 hf with hf|hf
        · exact hX.out.1 f hf
        · obtain rfl:=List.mem_singleton.1 hf
          exact HF6.out.1.1.trans he
      · rw [HTK.out,(HSN.out _ (f1,f2)).2 (by
         intro hm
         have hm2:name∈GL f1:=hm
         rw [HF6.out.1.2] at hm2
         rw [HF6.out.2.2 hm2] at hbt
         exact absurd hbt (by decide)),hX.out.2]
end
end Go.Proofs.YtolaiebjmhieiaaGreatDoor.OScan
end
