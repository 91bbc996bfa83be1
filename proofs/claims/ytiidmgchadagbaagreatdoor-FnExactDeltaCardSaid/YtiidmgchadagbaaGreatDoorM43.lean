/- Of the proof of FnExactDelta: RouI. -/
import Derived.Deep.CutBlock
import Derived.Test.YtiidmgchadagbaaGreatDoorM42
set_option linter.unusedVariables false
set_option maxHeartbeats 4000000
set_option maxRecDepth 100000
namespace Go.Proofs.YtiidmgchadagbaaGreatDoor
open Go.RowKit D
attribute [local go_sem ↓] Go.wp_at_zero Go.wp_at_succ
theorem D.Vz (w:World):(Instr.makeChan 158 (.int .i64 301)).run Tryz.prog w=.ok (.chan (some w.heap.size)) (w.alloc (.chan 301 #[] false 0 0 false)):=by
 obtain ⟨i,hi,hb⟩:∃ i,Tryz.prog.info? 68=some i∧i.bytes=40:=by
  obtain ⟨i,hi,_,_,h2⟩:=info_parts Oz;exact ⟨i,hi,h2⟩
 simpa using Go.Conc.run_makeChan (P:=Tryz.prog) (w:=w) Tryz.underlying158 hi .i64 301 (by omega) (by rw [hb]; omega)
def D.Hu (B sb mu mp:Nat) (Fb:Nat→Prop) (fr:List Nat) (fs:List A) (rn:List Nat) (next:List Ru) (nr B0:Nat) (w:World) (e:Ending) (w':World):Prop:=
 Below B0 w w'∧((∃ new mc n L f,e=.returned (.tuple #[.map (some mc),.bool true])∧new.Nodup∧(∀ t ∈ new,aX t)∧(∀ t,t ∈ new ↔ t ∉ fs∧∃ q ∈ next,lg fs q t)∧fs.length+new.length≤300∧
   jy B sb mu mp Fb fr (fs ++ new) (rn ++ List.replicate new.length nr) w'∧(∀ x ∈ fr,w'.heap[x]? = w.heap[x]?)∧iG mc n L f w'∧w.heap.size≤mc∧(∀ s,s ∈ L ↔ ∃ t ∈ new,t.name=s)∧∀ s ∈ L,1≤f s∧f s≤1000000) ∨
  (e=.returned (.tuple #[.map none,.bool false])∧∃ new:List A,new.Nodup∧(∀ t ∈ new,t ∉ fs∧∃ q ∈ next,lg fs q t)∧300 < fs.length+new.length))
structure D.Uu (x:qE) (fs:List A) (bst:List Nat) (next:List Ru) (w:World) (k:Nat) (wr:World):Prop where
 ex:∃ told fb,ni x w.heap.size fs bst wr told fb∧∀ t,t ∈ told ↔ ∃ r ∈ next.take k,lg fs r t
 bel:Below w.heap.size w wr
theorem VA {x:VJ} (X:KW x) {w:World} {k:Nat} (hk:k < x.new.length) {c:Value} {ba:List Nat} {wr:World} (h:rO x w k x.new[k] c ba wr):
  Calls Tryz.prog 75 #[.pointer (some ⟨x.sb,0,none⟩),.agg #[.string x.new[k].name,c],.int .i64 x.nr] (wr.alloc (.cells #[.string x.new[k].name,c] 68)) fun e w5=>e=.returned (.tuple #[])∧Below x.B0 wr w5∧
   jy x.B x.sb x.mu x.mp x.Fb x.f2 (x.fs ++ x.new.take k ++ [x.new[k]]) (x.rn ++ List.replicate k x.nr ++ [x.nr]) w5∧(∀ j ∈ x.f2,w5.heap[j]? = wr.heap[j]?)∧w5.heap[wr.heap.size]? = some (.cells #[.string x.new[k].name,c] 68 (0,0)):=by
 have hA:Below wr.heap.size wr (wr.alloc (.cells #[.string x.new[k].name,c] 68)):=(Below.refl _ _).alloc (Nat.le_refl _) _;have h1:=h.later X hA;have hs:=h.rY.more hA [wr.heap.size] (fun j hj=>by simp at hj; subst hj; exact ⟨Nat.le_refl _,by simp⟩);have hlt:=h.rY.lt;have hfew:=X.few;have hmem:x.new[k] ∈ x.new:=List.getElem_mem hk;have hnd:=X.nd;refine (Vr (fr:=x.f2 ++ [wr.heap.size]) hs h1.at' (fun j hj=>List.mem_append_left _ (h1.bas j hj).1) (fun j hj=>(h1.bas j hj).2) (fun f hf=>?_) (X.nok _ hmem) (fun hm=>?_) ?_ ?_ x.nr x.B0 X.b0).mono ?_
 ·rcases List.mem_append.1 hf with hf | hf
  ·exact X.fok f hf
  ·exact X.nok f (List.mem_of_mem_take hf)
 ·rcases List.mem_append.1 hm with hm | hm
  ·exact X.no _ hmem hm
  ·obtain ⟨i,hi,e⟩:=List.getElem_of_mem hm
   rw [List.length_take] at hi;rw [List.getElem_take] at e;have:=(List.getElem_inj hnd).1 e;omega
 ·rw [List.length_append,List.length_take]; omega
 ·have:=X.rfew
  rw [List.length_append,List.length_replicate]; omega
 ·rintro e w5 ⟨rfl,hb,hS,hf⟩
  refine ⟨rfl,?_,hS.sub fun j hj=>List.mem_append_left _ hj,fun j hj=>(hf j (List.mem_append_left _ hj)).trans (hA.block j (hlt.2.2 j hj)),(hf _ (List.mem_append_right _ (List.mem_singleton.2 rfl))).trans (heap_alloc_new _ _)⟩;have:=X.b0;exact (hA.mono (by omega)).trans hb
theorem QK (B sb mu mp:Nat) (Fb:Nat→Prop) (hFb:∀ x,B≤x→Fb x) (fr:List Nat) (fs:List A) (rn:List Nat) (next:List Ru) (v:Value) (bn:List Nat) (nr B0:Nat) (w:World) (S:jy B sb mu mp Fb fr fs rn w) (h:dO w [v] next bn)
  (hfs:∀ f ∈ fs,aX f) (hfl:fs.length≤300) (hrl:rn.length≤300) (hR:∀ r ∈ next,kL r) (hB0:B0≤sb∧B0≤mu∧B0≤mp∧B0≤B):
  Calls Tryz.prog 71 #[.pointer (some ⟨sb,0,none⟩),v,.int .i64 nr] w (Hu B sb mu mp Fb fr fs rn next nr B0 w):=by
 obtain ⟨Ad,cap,rfl,hlc,hlm⟩:=af h;have hlmm:=au (Nat.le_trans hlc hlm);have HH:=η h;have HS:=η S;clear h S hlc hlm;have hmm:=@run_makeMap Tryz.prog;have hmc:=Vz
 go_enter Tryz.func71,Tryz.ntmps71
 go_wp2;obtain ⟨bst,hst⟩:=HS.out.view;have HI0:Hid (Uu (rx w.heap.size sb nr) fs bst next w 0 (rW w sb nr)):=η ⟨⟨[],_,QF w sb nr fs rn bst hst hfl,fun t=>by simp⟩,KU w sb nr⟩;have eW:(((((((w.alloc (.cells #[.pointer (some ⟨sb,0,none⟩)] 80)).alloc (.cells #[.int .i64 nr] 3)).alloc (.chan 301 #[] false 0 0 false)).alloc (.cells #[.chan (some (w.heap.size+1+1))] 158)).alloc (.map #[] 0)).alloc (.cells #[.map (some (w.heap.size+1+1+1+1))] 85)).alloc (.cells #[.bool true] 4))=rW w sb nr:=rfl;rw [eW];have HBS:Hid (∀ x ∈ bst,x < w.heap.size):=η hst.lt;generalize rW w sb nr=W at *;clear eW hst
 go_loopw [19] (fun i wr=>∃ k:Nat,k≤next.length∧i=.int .i64 k∧Uu (rx w.heap.size sb nr) fs bst next w k wr) (fun i _=>next.length - (intOf i).toNat)
 case atStart=>exact ⟨0,Nat.zero_le _,rfl,HI0.out⟩
 case round=>
  obtain ⟨k,hk,rfl,hI⟩:=hrel;clear HI0;by_cases hlt:k < next.length
  ·have hk0:(0:Int)≤(k:Int):=by omega
   have hk1:(k:Int) < (next.length:Int):=by omega
   obtain ⟨⟨told,fb,hF,htold⟩,hbel⟩:=hI;obtain ⟨bq,oq,Ae,ce,Af,cf,bk,rfl,_,f0,f1,f2,hrk,hsub⟩:=gq (aC.below HH.out hbel) hlt;have hA:Below wr.heap.size wr (wr.alloc (.cells #[.string next[k].head.name,.slice Ae next[k].head.args.length ce,.slice Af next[k].body.length cf] 71)):=(Below.refl _ _).alloc (Nat.le_refl _) _;have hFA:=hF.keep (fun x hx=>hA.block x (hF.lt x hx)) hA.size;obtain ⟨rn',hS'⟩:=hFA.st
   have hcall:=NV sb fs rn' bst next[k] (.string next[k].head.name) (.slice Ae next[k].head.args.length ce) (.slice Af next[k].body.length cf) bk (QC (rx w.heap.size sb nr) w.heap.size fs bst hfs) told fb _ hS' hfs (by omega) (dY.below hrk hA) (hR _ (List.getElem_mem hlt)) hFA (fun x hx e=>(hF.rY x hx).2 (by rcases e with rfl | rfl | rfl <;> simp [qE.own])) (fun x hx e=>by
    have h1:=aC.lt HH.out x (hsub x hx)
    rcases e with rfl | rfl | rfl <;> (simp only [rx] at h1; omega))
   have HN:Hid (∀ w9 ts fb' more,Ur (rx w.heap.size sb nr) w.heap.size fs bst more w9 (told ++ ts) fb'→gW (rx w.heap.size sb nr).K (wr.alloc (.cells #[.string next[k].head.name,.slice Ae next[k].head.args.length ce,.slice Af next[k].body.length cf] 71)) w9→(∀ t ∈ ts,lg fs next[k] t)→(more=true→∀ t,lg fs next[k] t→t ∈ ts)→(more=false→Uk fs (told ++ ts)=false)→
     w9.cell? ⟨w.heap.size+1+1+1+1+1+1,0,none⟩=some (.bool more)∧(more=true→Uu (rx w.heap.size sb nr) fs bst next w (k+1) w9)∧(more=false→Hu B sb mu mp Fb fr fs rn next nr B0 w (.returned (.tuple #[.map none,.bool false])) w9)):=η fun w9 ts fb' more q1 q3 q4 q5 q6=>by
    have hz:=hbel.size;have hB9:Below w.heap.size w w9:=⟨q3.os.trans (hA.os.trans hbel.os),q3.tape.trans (hA.tape.trans hbel.tape),q3.output.trans (hA.output.trans hbel.output),Nat.le_trans hz (Nat.le_trans hA.size q3.size),fun x hx=>(q3.block x (by have:=hA.size; omega) (fun e=>by rcases e with e | e | e <;> (simp only [rx] at e; omega))).trans ((hA.block x (by omega)).trans (hbel.block x hx))⟩;refine ⟨?_,fun hm=>?_,fun hm=>?_⟩
    ·cases more with
     | true=>exact ak (ni.cF q1)
     | false=>exact ak (rM.cF q1)
    ·subst hm
     refine ⟨⟨told ++ ts,fb',q1,fun t=>?_⟩,hB9⟩;rw [List.mem_append,htold,Us hlt];exact or_congr Iff.rfl ⟨q4 t,q5 rfl t⟩
    ·subst hm
     have hg:=Qy (q6 rfl);have hn:=qA fs (told ++ ts);refine ⟨hB9.mono (by have:=HS.out.lt; omega),.inr ⟨rfl,newL fs (told ++ ts),hn.1,fun t ht=>?_,hg⟩⟩;obtain ⟨h1,h2⟩:=(hn.2 t).1 ht;refine ⟨h2,?_⟩
     rcases List.mem_append.1 h1 with h1 | h1
     ·obtain ⟨r,hr,hf⟩:=(htold t).1 h1
      exact ⟨r,List.mem_of_mem_take hr,hf⟩
     ·exact ⟨next[k],List.getElem_mem hlt,q4 t h1⟩
   have y0:wr.cell? ⟨w.heap.size,0,none⟩=some (.pointer (some ⟨sb,0,none⟩)):=ak hF.cS;have hz0:w.heap.size < wr.heap.size:=hF.lt _ (hF.ow _ (by show _ ∈ [_,_,_,_,_,_,_]; simp [rx]));have HLT:=η hlt;clear hF htold hFA hS' hbel hA hrk hsub hk;generalize next[k]=r at *;obtain ⟨⟨rn0,ra⟩,rb⟩:=r;dsimp only at *;clear hlt;unfold rx qE.vG at hcall
   go_wp2_with fail
   refine hcall.mono ?_;rintro e w9 ⟨rfl,ts,fb',more,q1,q2,q3,q4,q5,q6⟩;obtain ⟨y1,hI9,hP9⟩:=HN.out w9 ts fb' more q1 q3 q4 q5 q6;have HI9:=η hI9;have HP9:=η hP9;clear hcall HN q1 q2 q3 q4 q5 q6 hI9 hP9
   cases more with
   | false=>
    have HP:=η (HP9.out rfl);clear HI9 HP9;go_wp2;go_ret2;exact HP.out
   | true=>
    have HI:=η (HI9.out rfl);clear HI9 HP9;go_wp2;go_roundw
    case rel=>exact ⟨k+1,HLT.out,by go_num,HI.out⟩
    case measure=>have:=HLT.out; simp [intOf]; omega
  ·have he:k=next.length:=by omega
   have hk1:¬ (k:Int) < (next.length:Int):=by omega
   obtain ⟨⟨told,fb,hF,htold⟩,hbel⟩:=hI;rw [List.take_of_length_le (Nat.le_of_eq he.symm)] at htold;obtain ⟨vs,sd,bb,hch,hfq,hbb⟩:=hF.cH;have hz1:w.heap.size < wr.heap.size:=hF.lt _ (hF.ow _ (by show _ ∈ [_,_,_,_,_,_,_]; simp [rx]));have y0:wr.cell? ⟨w.heap.size+1+1+1,0,none⟩=some (.chan (some (w.heap.size+1+1))):=ak hF.cC;have HF0:Hid (∀ t,t ∈ newL fs told ↔ t ∉ fs∧∃ q ∈ next,lg fs q t):=η fun t=>by rw [(qA fs told).2,htold]; exact And.comm
   have HX:=η (WA (sd:=sd) (B0:=B0) (bb:=bb) HS.out hF hz1 rfl hB0 hfs hrl);have HI:=η (QG (sd:=sd) hFb HS.out hF hbel hB0 hch hfq hbb);have hcl:∀ ats ty,(Builtin.close_ ats ty #[.chan (some (w.heap.size+1+1))]).run Tryz.prog wr=.ok (.tuple #[]) (wr.setChan (w.heap.size+1+1) 301 ⟨vs⟩ true sd 0 false):=fun ats ty=>run_close_open ats ty hch
   have hsz:(wr.setChan (w.heap.size+1+1) 301 ⟨vs⟩ true sd 0 false).heap.size=wr.heap.size:=by simp [World.setChan]
   have hmm1:=hmm 85 (wr.setChan (w.heap.size+1+1) 301 ⟨vs⟩ true sd 0 false);rw [hsz] at hmm1;have hl3:w.heap.size+1+1+1 < wr.heap.size:=lt_of_cell y0
   have y1:((wr.setChan (w.heap.size+1+1) 301 ⟨vs⟩ true sd 0 false).alloc (.map #[] 0)).cell? ⟨w.heap.size+1+1+1,0,none⟩=some (.chan (some (w.heap.size+1+1))):=by
    refine (World.cell?_of_block ?_).trans y0;show (World.alloc _ _).heap[w.heap.size+1+1+1]? = _;rw [Below.heap_alloc _ _ _ (by rw [hsz]; exact hl3)];simp only [World.setChan];rw [Array.getElem?_setIfInBounds_ne (by omega)]
   have hbelz:w.heap.size≤wr.heap.size:=hbel.size;clear hF htold hfq hbb hch hmm hmc hbel HBS;go_wp2;clear hcl y0 hsz hl3;generalize (wr.setChan (w.heap.size+1+1) 301 ⟨vs⟩ true sd 0 false).alloc (.map #[] 0)=W2 at *;clear hmm1;have hMC:=η hbelz;generalize wr.heap.size=mc at *;clear hz1
   go_loopg [34] (newL fs told).length (fun gg _ wr2=>∃ kk:Nat,kk≤(newL fs told).length∧(newL fs told).length - kk≤gg∧Aside (DK (rcv B sb mu mp nr B0 w.heap.size mc sd Fb fr bb fs rn (newL fs told)) w kk wr2))
   case atStart=>exact ⟨0,Nat.zero_le _,by omega,HI.out⟩
   case round=>
    obtain ⟨kk,hkk,hg,hI⟩:=hrel;clear HI y1;by_cases hlt:kk < (newL fs told).length
    ·obtain ⟨c,vs2,ba,hch,hM⟩:=DK.recv HX.out hI.out hlt
     have hch2:wr.heap[w.heap.size+1+1]? = some (.chan 301 ⟨.agg #[.string (newL fs told)[kk].name,c] :: vs2⟩ true sd kk false):=hch;have hM2:rO (rcv B sb mu mp nr B0 w.heap.size mc sd Fb fr bb fs rn (newL fs told)) w kk (newL fs told)[kk] c ba (wr.setChan (w.heap.size+1+1) 301 ⟨vs2⟩ true sd (kk+1) false):=hM;have hex:(⟨.agg #[.string (newL fs told)[kk].name,c] :: vs2⟩:Array Value).extract 1 (⟨.agg #[.string (newL fs told)[kk].name,c] :: vs2⟩:Array Value).size=⟨vs2⟩:=by simp
     clear hM hch
     go_upto_region 14 with fail
     refine vV ?_;refine Rx (i:=0) (w':=wr) (ok:=true) (z:=.agg #[.string ⟨#[]⟩,.slice none 0 0]) (by rfl) (by rfl) (by go_simp; rfl) hch2 (by simp) ?_;rw [hex];refine uJ (i:=1) (by rfl) (by rfl) (v:=.bool true) (w':=wr.setChan (w.heap.size+1+1) 301 ⟨vs2⟩ true sd (kk+1) false) (by simp [Go.Conc.got]; go_simp) ?_;refine Gl (show Exit.then _ _ Exit.normal _ _ from ?_);generalize wr.setChan (w.heap.size+1+1) 301 ⟨vs2⟩ true sd (kk+1) false=W3 at *;clear hex hch2;obtain ⟨Ae,ce,_,rfl⟩:=bJ hM2.at';have z0:W3.cell? ⟨w.heap.size,0,none⟩=some (.pointer (some ⟨sb,0,none⟩)):=ak hM2.cS;have z1:W3.cell? ⟨w.heap.size+1,0,none⟩=some (.int .i64 nr):=ak hM2.cN;have lz0:=lt_of_cell z0;have lz1:=lt_of_cell z1;have hcall:=VA HX.out hlt hM2;have HM2:=η hM2;clear hM2;simp only [Go.Conc.got,if_true]
     go_wp2_with fail
     refine hcall.mono ?_;rintro e w5 ⟨rfl,q1,q2,q3,q4⟩;obtain ⟨n,L,f,m1,m2,m3,m4⟩:=HM2.out.cam;have HM5:Hid (iG mc n L f w5):=η (m1.same (q3 _ HX.out.mM));obtain ⟨v,hv⟩:∃ v,(if (newL fs told)[kk].name ∈ L then f (newL fs told)[kk].name else 0)=v:=⟨_,rfl⟩;have hfew:=HX.out.few;have hk3:kk≤300:=by have:fs.length+(newL fs told).length≤300:=hfew; omega
     have hv0:0≤v:=by
      rw [← hv]
      split
      ·rename_i hm; have:=m4 _ hm; omega
      ·omega
     have hv1:v≤300:=by
      rw [← hv]
      split
      ·rename_i hm; have:=m4 _ hm; omega
      ·omega
     have HDN:Hid (∀ w6,iG mc (n+1) (gQ L (newL fs told)[kk].name) (fun t=>if t=(newL fs told)[kk].name then v+1 else f t) w6→w5.grownBy w6 (some mc)→DK (rcv B sb mu mp nr B0 w.heap.size mc sd Fb fr bb fs rn (newL fs told)) w (kk+1) w6):=η fun w6 h6 hg6=>rO.done HX.out hlt HM2.out q1 q2 q3 (by rw [← hv] at h6; exact h6) hg6 m2 m3 m4
     have HS5:Hid ((newL fs told)[kk].name.size≤maxLen):=η (by obtain ⟨_,_,hs,_⟩:=HM2.out.at'; exact hs);have z5:w5.cell? ⟨W3.heap.size,0,none⟩=some (.string (newL fs told)[kk].name):=ak q4;have lz5:=lt_of_cell z5;have HV:=η hv;have HLT:=η hlt;have hnl:n < maxLen:=by unfold maxLen; omega
     clear q1 q2 q3 q4 m1 m2 m3 m4 hcall HM2 hfew hv z0 z1 lz0 lz1 hI;generalize (newL fs told)[kk]=a at *;clear hlt
     go_wp2_with (first | (at_lookup; refine tu _ rfl _ _ _ rfl Tryz.underlying85 _ _ L _ rfl HM5.out a.name rfl HS5.out v HV.out ?_) | (at_mapUpdate; refine kK _ rfl _ _ _ _ rfl Tryz.underlying85 _ _ L _ rfl HM5.out a.name rfl HS5.out (v+1) rfl hnl (by omega) ?_; intro w6 hM6 hg6))
     have HR6:=η (HDN.out w6 hM6 hg6);clear hM6 hg6 HDN
     go_roundg ((newL fs told).length - (kk+1))
     case measure=>have:=HLT.out; omega
     case rel=>exact ⟨kk+1,HLT.out,Nat.le_refl _,HR6.out⟩
    ·have hkl:kk=(newL fs told).length:=by omega
     obtain ⟨vs3,b3,hch,hfq,_⟩:=hI.out.chn;have hfq3:Ia wr vs3 ((newL fs told).drop kk) b3:=hfq;rw [List.drop_of_length_le (by omega)] at hfq3
     have hvs:vs3 = []:=by
      cases vs3 with
      | nil=>rfl
      | cons v vs=>exact hfq3.elim
     subst hvs;have hch2:wr.heap[w.heap.size+1+1]? = some (.chan 301 #[] true sd kk false):=hch
     have HP:Hid (Hu B sb mu mp Fb fr fs rn next nr B0 w (.returned (.tuple #[.map (some mc),.bool true])) wr):=η (by
      have h:=hI.out;have hX:=HX.out;have hn:=qA fs told;obtain ⟨n,L,f,m1,m2,m3,m4⟩:=h.cam;have et:(newL fs told).take kk=newL fs told:=List.take_of_length_le (by omega);have hs:jy B sb mu mp (fun k=>Fb k∧k ≠ w.heap.size+2∧k ≠ mc) (fr ++ ([w.heap.size,w.heap.size+1,w.heap.size+2,mc] ++ bb)) (fs ++ (newL fs told).take kk) (rn ++ List.replicate kk nr) wr:=h.rY;have hm3:∀ s,s ∈ L ↔ ∃ t ∈ (newL fs told).take kk,t.name=s:=m3;have hfew:fs.length+(newL fs told).length≤300:=hX.few;rw [et] at hs hm3;rw [hkl] at hs;refine ⟨h.bel,.inl ⟨newL fs told,mc,n,L,f,rfl,hn.1,fun t ht=>hX.nok t ht,HF0.out,hfew,(hs.mono fun x hx _=>hx.1).sub fun x hx=>List.mem_append_left _ hx,h.kep,m1,hMC.out,hm3,fun s hs'=>?_⟩⟩;have:=m4 s hs'
      omega)
     clear hI hfq hfq3 hch HX HF0
     go_upto_region 14 with fail
     refine vV ?_;refine Ry (i:=0) (w':=wr) (ok:=true) (z:=.agg #[.string ⟨#[]⟩,.slice none 0 0]) (by rfl) (by rfl) (by go_simp; rfl) hch2 ?_;refine uJ (i:=1) (by rfl) (by rfl) (v:=.bool false) (w':=wr) (by simp [Go.Conc.got]; go_simp) ?_;refine Gl (show Exit.then _ _ Exit.normal _ _ from ?_);simp only [Go.Conc.got,if_true];clear hch2;go_wp2;go_ret2;exact HP.out
end Go.Proofs.YtiidmgchadagbaaGreatDoor
