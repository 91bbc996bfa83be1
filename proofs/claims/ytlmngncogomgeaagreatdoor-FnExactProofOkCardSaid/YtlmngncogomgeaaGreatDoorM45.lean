/- Of the proof of FnExactProofOk: RouI, PrvI, PrvJ, StAl, EvI, PfS, PfI, LwProofOk. -/
import Derived.Deep.CutBlock
import Derived.Test.YtlmngncogomgeaaGreatDoorM43
import Derived.Test.YtlmngncogomgeaaGreatDoorM44
import Derived.Test.YtlmngncogomgeaaGreatDoorM23
import Derived.Test.YtlmngncogomgeaaGreatDoorM35
import Derived.Test.YtlmngncogomgeaaGreatDoorM16
set_option linter.unusedVariables false
set_option maxHeartbeats 4000000
set_option maxRecDepth 100000
namespace Go.Proofs.YtlmngncogomgeaaGreatDoor
section
open Go.RowKit D
attribute [local go_sem ↓] Go.wp_at_zero Go.wp_at_succ
theorem D.UX (w:World):(Instr.makeChan 249 (.int .i64 301)).run Tryz.prog w=.ok (.chan (some w.heap.size)) (w.alloc (.chan 301 #[] false 0 0 false)):=by
 obtain ⟨i,hi,y⟩:∃ i,Tryz.prog.info? 40=some i∧i.bytes=40:=by
  obtain ⟨i,hi,_,_,I⟩:=info_parts NG;exact ⟨i,hi,I⟩
 simpa using Go.Conc.run_makeChan (P:=Tryz.prog) (w:=w) Tryz.underlying249 hi .i64 301 (by omega) (by rw [y]; omega)
def D.GH (B sb mu mp:Nat) (Fb:Nat→Prop) (fr:List Nat) (fs:List A) (rn:List Nat) (next:List Ru) (nr B0:Nat) (w:World) (e:Ending) (w':World):Prop:=
 Below B0 w w'∧((∃ new mc n L f,e=.returned (.tuple #[.map (some mc),.bool true])∧new.Nodup∧(∀ t ∈ new,aT t)∧(∀ t,t ∈ new ↔ t ∉ fs∧∃ q ∈ next,kE fs q t)∧fs.length+new.length≤300∧
   je B sb mu mp Fb fr (fs ++ new) (rn ++ List.replicate new.length nr) w'∧(∀ x ∈ fr,w'.heap[x]? = w.heap[x]?)∧gQ mc n L f w'∧w.heap.size≤mc∧(∀ s,s ∈ L ↔ ∃ t ∈ new,t.name=s)∧∀ s ∈ L,1≤f s∧f s≤1000000) ∨
  (e=.returned (.tuple #[.map none,.bool false])∧∃ new:List A,new.Nodup∧(∀ t ∈ new,t ∉ fs∧∃ q ∈ next,kE fs q t)∧300 < fs.length+new.length))
structure D.Tz (x:pI) (fs:List A) (bst:List Nat) (next:List Ru) (w:World) (k:Nat) (wr:World):Prop where
 ex:∃ told fb,lN x w.heap.size fs bst wr told fb∧∀ t,t ∈ told ↔ ∃ r ∈ next.take k,kE fs r t
 bel:Below w.heap.size w wr
theorem UY {x:U7} (X:J7 x) {w:World} {k:Nat} (hk:k < x.new.length) {c:Value} {ba:List Nat} {wr:World} (h:qF x w k x.new[k] c ba wr):
  Calls Tryz.prog 115 #[.pointer (some ⟨x.sb,0,none⟩),.agg #[.string x.new[k].name,c],.int .i64 x.nr] (wr.alloc (.cells #[.string x.new[k].name,c] 40)) fun e J=>e=.returned (.tuple #[])∧Below x.B0 wr J∧
   je x.B x.sb x.mu x.mp x.Fb x.f2 (x.fs ++ x.new.take k ++ [x.new[k]]) (x.rn ++ List.replicate k x.nr ++ [x.nr]) J∧(∀ j ∈ x.f2,J.heap[j]? = wr.heap[j]?)∧J.heap[wr.heap.size]? = some (.cells #[.string x.new[k].name,c] 40 (0,0)):=by
 have U:Below wr.heap.size wr (wr.alloc (.cells #[.string x.new[k].name,c] 40)):=ζ;have h1:=h.later X U;have hs:=h.qM.more U [wr.heap.size] (fun j y=>by simp at y; subst y; exact ⟨ν,by simp⟩);have a0:=h.qM.lt;have a2:=X.few;have I:x.new[k] ∈ x.new:=δ hk;have a1:=X.nd;refine (UI (fr:=x.f2 ++ [wr.heap.size]) hs h1.at' (fun j y=>Ξ _ (h1.bas j y).1) (fun j y=>(h1.bas j y).2) (fun f hf=>?_) (X.nok _ I) (fun hm=>?_) ?_ ?_ x.nr x.B0 X.b0).mono ?_
 ·rcases μ.1 hf with hf | hf
  ·exact X.fok f hf
  ·exact X.nok f (List.mem_of_mem_take hf)
 ·rcases μ.1 hm with hm | hm
  ·exact X.no _ I hm
  ·obtain ⟨i,hi,e⟩:=List.getElem_of_mem hm
   rw [List.length_take] at hi;rw [List.getElem_take] at e;have:=(List.getElem_inj a1).1 e;omega
 ·rw [χ,List.length_take]; omega
 ·have:=X.rfew
  rw [χ,List.length_replicate]; omega
 ·rintro e J ⟨rfl,hb,hS,hf⟩
  refine ⟨rfl,?_,hS.sub fun j y=>Ξ _ y,fun j y=>(hf j (Ξ _ y)).trans (U.block j (a0.2.2 j y)),(hf _ (Ω _ (ώ.2 rfl))).trans (ω _ _)⟩;have:=X.b0;exact (U.mono (by omega)).trans hb
theorem PV (B sb mu mp:Nat) (Fb:Nat→Prop) (bo:∀ x,B≤x→Fb x) (fr:List Nat) (fs:List A) (rn:List Nat) (next:List Ru) (v:Value) (bn:List Nat) (nr B0:Nat) (w:World) (S:je B sb mu mp Fb fr fs rn w) (h:dD w [v] next bn)
  (ag:∀ f ∈ fs,aT f) (bp:fs.length≤300) (br:rn.length≤300) (hR:∀ r ∈ next,jr r) (aD:B0≤sb∧B0≤mu∧B0≤mp∧B0≤B):
  Calls Tryz.prog 109 #[.pointer (some ⟨sb,0,none⟩),v,.int .i64 nr] w (GH B sb mu mp Fb fr fs rn next nr B0 w):=by
 obtain ⟨Ad,cap,rfl,aE,aL⟩:=ai h;have c0:=ay (τ aE aL);have HH:=η h;have HS:=η S;clear h S aE aL;have aM:=@run_makeMap Tryz.prog;have bs:=UX
 go_enter Tryz.func109,Tryz.ntmps109
 go_wp2;obtain ⟨a2,am⟩:=HS.out.view;have aR:Hid (Tz (rx w.heap.size sb nr) fs a2 next w 0 (rW w sb nr)):=η ⟨⟨[],_,PK w sb nr fs rn a2 am bp,fun t=>by simp⟩,J6 w sb nr⟩;have eW:(((((((w.alloc (.cells #[.pointer (some ⟨sb,0,none⟩)] 103)).alloc (.cells #[.int .i64 nr] 3)).alloc (.chan 301 #[] false 0 0 false)).alloc (.cells #[.chan (some (w.heap.size+1+1))] 249)).alloc (.map #[] 0)).alloc (.cells #[.map (some (w.heap.size+1+1+1+1))] 112)).alloc (.cells #[.bool true] 4))=rW w sb nr:=rfl;rw [eW];have bt:Hid (∀ x ∈ a2,x < w.heap.size):=η am.lt;generalize rW w sb nr=W at *;clear eW am
 go_loopw [19] (fun i wr=>∃ k:Nat,k≤next.length∧i=.int .i64 k∧Tz (rx w.heap.size sb nr) fs a2 next w k wr) (fun i _=>next.length - (intOf i).toNat)
 case atStart=>exact ⟨0,ε,rfl,aR.out⟩
 case round=>
  obtain ⟨k,hk,rfl,hI⟩:=hrel;clear aR;by_cases a0:k < next.length
  ·have c3:(0:Int)≤(k:Int):=by omega
   have bu:(k:Int) < (next.length:Int):=by omega
   obtain ⟨⟨told,fb,hF,J⟩,y⟩:=hI;obtain ⟨bq,oq,Ae,ce,Af,cf,bk,rfl,_,f0,f1,f2,b1,ae⟩:=eF (aI.below HH.out y) a0;have hA:Below wr.heap.size wr (wr.alloc (.cells #[.string next[k].head.name,.slice Ae next[k].head.args.length ce,.slice Af next[k].body.length cf] 77)):=ζ;have ao:=hF.keep (fun x hx=>hA.block x (hF.lt x hx)) hA.size;obtain ⟨bv,b4⟩:=ao.st
   have U:=MV sb fs bv a2 next[k] (.string next[k].head.name) (.slice Ae next[k].head.args.length ce) (.slice Af next[k].body.length cf) bk (PE (rx w.heap.size sb nr) w.heap.size fs a2 ag) told fb _ b4 ag (by omega) (dL.below b1 hA) (hR _ (δ a0)) ao (fun x hx e=>(hF.qM x hx).2 (by rcases e with rfl | rfl | rfl <;> simp [pI.own])) (fun x hx e=>by
    have h1:=aI.lt HH.out x (ae x hx)
    rcases e with rfl | rfl | rfl <;> (simp only [rx] at h1; omega))
   have HN:Hid (∀ w9 ts a7 more,Tn (rx w.heap.size sb nr) w.heap.size fs a2 more w9 (told ++ ts) a7→fV (rx w.heap.size sb nr).K (wr.alloc (.cells #[.string next[k].head.name,.slice Ae next[k].head.args.length ce,.slice Af next[k].body.length cf] 77)) w9→(∀ t ∈ ts,kE fs next[k] t)→(more=true→∀ t,kE fs next[k] t→t ∈ ts)→(more=false→SY fs (told ++ ts)=false)→
     w9.cell? ⟨w.heap.size+1+1+1+1+1+1,0,none⟩=some (.bool more)∧(more=true→Tz (rx w.heap.size sb nr) fs a2 next w (k+1) w9)∧(more=false→GH B sb mu mp Fb fr fs rn next nr B0 w (.returned (.tuple #[.map none,.bool false])) w9)):=η fun w9 ts a7 more q1 q3 q4 q5 q6=>by
    have hz:=y.size;have b5:Below w.heap.size w w9:=⟨q3.os.trans (hA.os.trans y.os),q3.tape.trans (hA.tape.trans y.tape),q3.output.trans (hA.output.trans y.output),τ hz (τ hA.size q3.size),fun x hx=>(q3.block x (by have:=hA.size; omega) (fun e=>by rcases e with e | e | e <;> (simp only [rx] at e; omega))).trans ((hA.block x (by omega)).trans (y.block x hx))⟩;refine ⟨?_,fun hm=>?_,fun hm=>?_⟩
    ·cases more with
     | true=>exact aj (lN.cF q1)
     | false=>exact aj (qE.cF q1)
    ·subst hm
     refine ⟨⟨told ++ ts,a7,q1,fun t=>?_⟩,b5⟩;rw [μ,J,Tq a0];exact or_congr Iff.rfl ⟨q4 t,q5 rfl t⟩
    ·subst hm
     have hg:=Po (q6 rfl);have hn:=pq fs (told ++ ts);refine ⟨b5.mono (by have:=HS.out.lt; omega),.inr ⟨rfl,newL fs (told ++ ts),hn.1,fun t ht=>?_,hg⟩⟩;obtain ⟨h1,h2⟩:=(hn.2 t).1 ht;refine ⟨h2,?_⟩
     rcases μ.1 h1 with h1 | h1
     ·obtain ⟨r,hr,hf⟩:=(J t).1 h1
      exact ⟨r,List.mem_of_mem_take hr,hf⟩
     ·exact ⟨next[k],δ a0,q4 t h1⟩
   have y0:wr.cell? ⟨w.heap.size,0,none⟩=some (.pointer (some ⟨sb,0,none⟩)):=aj hF.cS;have c4:w.heap.size < wr.heap.size:=hF.lt _ (hF.ow _ (by show _ ∈ [_,_,_,_,_,_,_]; simp [rx]));have a8:=η a0;clear hF J ao b4 y hA b1 ae hk;generalize next[k]=r at *;obtain ⟨⟨c5,ra⟩,rb⟩:=r;dsimp only at *;clear a0;unfold rx pI.tN at U
   go_wp2_with fail
   refine U.mono ?_;rintro e w9 ⟨rfl,ts,a7,more,q1,q2,q3,q4,q5,q6⟩;obtain ⟨y1,b6,b7⟩:=HN.out w9 ts a7 more q1 q3 q4 q5 q6;have ap:=η b6;have aq:=η b7;clear U HN q1 q2 q3 q4 q5 q6 b6 b7
   cases more with
   | false=>
    have HP:=η (aq.out rfl);clear ap aq;go_wp2;go_ret2;exact HP.out
   | true=>
    have HI:=η (ap.out rfl);clear ap aq;go_wp2;go_roundw
    case rel=>exact ⟨k+1,a8.out,by go_num,HI.out⟩
    case measure=>have:=a8.out; simp [intOf]; omega
  ·have he:k=next.length:=by omega
   have bu:¬ (k:Int) < (next.length:Int):=by omega
   obtain ⟨⟨told,fb,hF,J⟩,y⟩:=hI;rw [ϕ (Nat.le_of_eq he.symm)] at J;obtain ⟨vs,sd,bb,a1,a9,b8⟩:=hF.cH;have b9:w.heap.size < wr.heap.size:=hF.lt _ (hF.ow _ (by show _ ∈ [_,_,_,_,_,_,_]; simp [rx]));have y0:wr.cell? ⟨w.heap.size+1+1+1,0,none⟩=some (.chan (some (w.heap.size+1+1))):=aj hF.cC;have bc:Hid (∀ t,t ∈ newL fs told ↔ t ∉ fs∧∃ q ∈ next,kE fs q t):=η fun t=>by rw [(pq fs told).2,J]; exact And.comm
   have HX:=η (VE (sd:=sd) (B0:=B0) (bb:=bb) HS.out hF b9 rfl aD ag br);have HI:=η (PL (sd:=sd) bo HS.out hF y aD a1 a9 b8);have bw:∀ ar ty,(Builtin.close_ ar ty #[.chan (some (w.heap.size+1+1))]).run Tryz.prog wr=.ok (.tuple #[]) (wr.setChan (w.heap.size+1+1) 301 ⟨vs⟩ true sd 0 false):=fun ar ty=>run_close_open ar ty a1
   have av:(wr.setChan (w.heap.size+1+1) 301 ⟨vs⟩ true sd 0 false).heap.size=wr.heap.size:=by simp [World.setChan]
   have af:=aM 112 (wr.setChan (w.heap.size+1+1) 301 ⟨vs⟩ true sd 0 false);rw [av] at af;have bf:w.heap.size+1+1+1 < wr.heap.size:=lt_of_cell y0
   have y1:((wr.setChan (w.heap.size+1+1) 301 ⟨vs⟩ true sd 0 false).alloc (.map #[] 0)).cell? ⟨w.heap.size+1+1+1,0,none⟩=some (.chan (some (w.heap.size+1+1))):=by
    refine (World.cell?_of_block ?_).trans y0;show (World.alloc _ _).heap[w.heap.size+1+1+1]? = _;rw [Below.heap_alloc _ _ _ (by rw [av]; exact bf)];simp only [World.setChan];rw [Array.getElem?_setIfInBounds_ne (by omega)]
   have aw:w.heap.size≤wr.heap.size:=y.size;clear hF J a9 b8 a1 aM bs y bt;go_wp2;clear bw y0 av bf;generalize (wr.setChan (w.heap.size+1+1) 301 ⟨vs⟩ true sd 0 false).alloc (.map #[] 0)=W2 at *;clear af;have bx:=η aw;generalize wr.heap.size=mc at *;clear b9
   go_loopg [34] (newL fs told).length (fun gg _ bz=>∃ I:Nat,I≤(newL fs told).length∧(newL fs told).length - I≤gg∧Aside (Dv (rcv B sb mu mp nr B0 w.heap.size mc sd Fb fr bb fs rn (newL fs told)) w I bz))
   case atStart=>exact ⟨0,ε,by omega,HI.out⟩
   case round=>
    obtain ⟨I,c6,hg,hI⟩:=hrel;clear HI y1;by_cases a0:I < (newL fs told).length
    ·obtain ⟨c,a4,ba,a1,hM⟩:=Dv.recv HX.out hI.out a0
     have a3:wr.heap[w.heap.size+1+1]? = some (.chan 301 ⟨.agg #[.string (newL fs told)[I].name,c] :: a4⟩ true sd I false):=a1;have a6:qF (rcv B sb mu mp nr B0 w.heap.size mc sd Fb fr bb fs rn (newL fs told)) w I (newL fs told)[I] c ba (wr.setChan (w.heap.size+1+1) 301 ⟨a4⟩ true sd (I+1) false):=hM;have hex:(⟨.agg #[.string (newL fs told)[I].name,c] :: a4⟩:Array Value).extract 1 (⟨.agg #[.string (newL fs told)[I].name,c] :: a4⟩:Array Value).size=⟨a4⟩:=by simp
     clear hM a1
     go_upto_region 14 with fail
     refine uU ?_;refine Qw (i:=0) (w':=wr) (ok:=true) (z:=.agg #[.string ⟨#[]⟩,.slice none 0 0]) (by rfl) (by rfl) (by go_simp; rfl) a3 (by simp) ?_;rw [hex];refine sF (i:=1) (by rfl) (by rfl) (v:=.bool true) (w':=wr.setChan (w.heap.size+1+1) 301 ⟨a4⟩ true sd (I+1) false) (by simp [Go.Conc.got]; go_simp) ?_;refine FC (show Exit.then _ _ Exit.normal _ _ from ?_);generalize wr.setChan (w.heap.size+1+1) 301 ⟨a4⟩ true sd (I+1) false=W3 at *;clear hex a3;obtain ⟨Ae,ce,_,rfl⟩:=bK a6.at';have z0:W3.cell? ⟨w.heap.size,0,none⟩=some (.pointer (some ⟨sb,0,none⟩)):=aj a6.cS;have z1:W3.cell? ⟨w.heap.size+1,0,none⟩=some (.int .i64 nr):=aj a6.cN;have bA:=lt_of_cell z0;have bB:=lt_of_cell z1;have U:=UY HX.out a0 a6;have ab:=η a6;clear a6;simp only [Go.Conc.got,if_true]
     go_wp2_with fail
     refine U.mono ?_;rintro e w5 ⟨rfl,q1,q2,q3,q4⟩;obtain ⟨n,L,f,m1,m2,m3,m4⟩:=ab.out.cam;have bg:Hid (gQ mc n L f w5):=η (m1.same (q3 _ HX.out.mM));obtain ⟨v,hv⟩:∃ v,(if (newL fs told)[I].name ∈ L then f (newL fs told)[I].name else 0)=v:=⟨_,rfl⟩;have a5:=HX.out.few;have c7:I≤300:=by have:fs.length+(newL fs told).length≤300:=a5; omega
     have c8:0≤v:=by
      rw [← hv]
      split
      ·rename_i hm; have:=m4 _ hm; omega
      ·omega
     have c9:v≤300:=by
      rw [← hv]
      split
      ·rename_i hm; have:=m4 _ hm; omega
      ·omega
     have bh:Hid (∀ w6,gQ mc (n+1) (fO L (newL fs told)[I].name) (fun t=>if t=(newL fs told)[I].name then v+1 else f t) w6→w5.grownBy w6 (some mc)→Dv (rcv B sb mu mp nr B0 w.heap.size mc sd Fb fr bb fs rn (newL fs told)) w (I+1) w6):=η fun w6 h6 ac=>qF.done HX.out a0 ab.out q1 q2 q3 (by rw [← hv] at h6; exact h6) ac m2 m3 m4
     have bi:Hid ((newL fs told)[I].name.size≤maxLen):=η (by obtain ⟨_,_,hs,_⟩:=ab.out.at'; exact hs);have z5:w5.cell? ⟨W3.heap.size,0,none⟩=some (.string (newL fs told)[I].name):=aj q4;have ca:=lt_of_cell z5;have HV:=η hv;have a8:=η a0;have bE:n < maxLen:=by unfold maxLen; omega
     clear q1 q2 q3 q4 m1 m2 m3 m4 U ab a5 hv z0 z1 bA bB hI;generalize (newL fs told)[I]=a at *;clear a0
     go_wp2_with (first | (at_lookup; refine rC _ rfl _ _ _ rfl Tryz.underlying112 _ _ L _ rfl bg.out a.name rfl bi.out v HV.out ?_) | (at_mapUpdate; refine jT _ rfl _ _ _ _ rfl Tryz.underlying112 _ _ L _ rfl bg.out a.name rfl bi.out (v+1) rfl bE (by omega) ?_; intro w6 bj ac))
     have bL:=η (bh.out w6 bj ac);clear bj ac bh
     go_roundg ((newL fs told).length - (I+1))
     case measure=>have:=a8.out; omega
     case rel=>exact ⟨I+1,a8.out,ν,bL.out⟩
    ·have bO:I=(newL fs told).length:=by omega
     obtain ⟨az,b3,a1,a9,_⟩:=hI.out.chn;have aa:GN wr az ((newL fs told).drop I) b3:=a9;rw [List.drop_of_length_le (by omega)] at aa
     have bR:az = []:=by
      cases az with
      | nil=>rfl
      | cons v vs=>exact aa.elim
     subst bR;have a3:wr.heap[w.heap.size+1+1]? = some (.chan 301 #[] true sd I false):=a1
     have HP:Hid (GH B sb mu mp Fb fr fs rn next nr B0 w (.returned (.tuple #[.map (some mc),.bool true])) wr):=η (by
      have h:=hI.out;have hX:=HX.out;have hn:=pq fs told;obtain ⟨n,L,f,m1,m2,m3,m4⟩:=h.cam;have et:(newL fs told).take I=newL fs told:=ϕ (by omega);have hs:je B sb mu mp (fun k=>Fb k∧k ≠ w.heap.size+2∧k ≠ mc) (fr ++ ([w.heap.size,w.heap.size+1,w.heap.size+2,mc] ++ bb)) (fs ++ (newL fs told).take I) (rn ++ List.replicate I nr) wr:=h.qM;have bl:∀ s,s ∈ L ↔ ∃ t ∈ (newL fs told).take I,t.name=s:=m3;have a5:fs.length+(newL fs told).length≤300:=hX.few;rw [et] at hs bl;rw [bO] at hs;refine ⟨h.bel,.inl ⟨newL fs told,mc,n,L,f,rfl,hn.1,fun t ht=>hX.nok t ht,bc.out,a5,(hs.mono fun x hx _=>hx.1).sub fun x hx=>Ξ _ hx,h.kep,m1,bx.out,bl,fun s bX=>?_⟩⟩;have:=m4 s bX
      omega)
     clear hI a9 aa a1 HX bc
     go_upto_region 14 with fail
     refine uU ?_;refine Qx (i:=0) (w':=wr) (ok:=true) (z:=.agg #[.string ⟨#[]⟩,.slice none 0 0]) (by rfl) (by rfl) (by go_simp; rfl) a3 ?_;refine sF (i:=1) (by rfl) (by rfl) (v:=.bool false) (w':=wr) (by simp [Go.Conc.got]; go_simp) ?_;refine FC (show Exit.then _ _ Exit.normal _ _ from ?_);simp only [Go.Conc.got,if_true];clear a3;go_wp2;go_ret2;exact HP.out
theorem D.cO.cell {blk o:Nat} {w w':World} {a:Addr} {v:Value} (h:cO blk o w w') (hc:w.cell? a=some v) (y:a.block ≠ blk):w'.cell? a=some v:=by
 rw [World.cell?_of_block (h.block (World.block_lt_of_cell? _ _ hc) y)];exact hc
theorem D.cO.lower {blk o B:Nat} {w w':World} (h:cO blk o w w') (hB:B≤blk) (y:B≤w.heap.size):Below B w w':=
 ⟨h.grow.os,h.grow.tape,h.grow.output,h.grow.size,fun k hk=>h.block (by omega) (by omega)⟩
theorem D.iW.none (vars:List ByteArray):iW vars []:=⟨fun _ h=>by simp at h,by simp,fun _ h=>by simp at h,fun _ h=>by simp at h⟩
def D.UZ:Array Value:=#[.string ⟨#[]⟩,.string ⟨#[]⟩,.string ⟨#[]⟩,.string ⟨#[]⟩,.string ⟨#[]⟩,.string ⟨#[]⟩,.string ⟨#[]⟩,.string ⟨#[]⟩,.string ⟨#[]⟩,.string ⟨#[]⟩,.string ⟨#[]⟩,.string ⟨#[]⟩,
 .int .i64 0,.int .i64 0,.int .i64 0,.int .i64 0,.int .i64 0,.int .i64 0,.int .i64 0,.int .i64 0,.int .i64 0,.int .i64 0,.int .i64 0,.int .i64 0,.int .i64 0]
theorem D.VG {vars:List ByteArray} {w:World} {b:Nat} {t:TypeId} (h:w.heap[b]? = some (.cells UZ t (0,0))):fQ vars [] b 0 w:=by
 have c:=fun o=>aj h (o:=o)
 refine ⟨fun i hi=>?_,fun i hi=>⟨0,?_,fun h=>by simp at h⟩,c 24,fun i _=>aB h⟩
 ·rw [c]
  have e:Ey vars [] i=⟨#[]⟩:=by unfold Ey; split <;> rfl
  rw [e];have:i=0∨i=1∨i=2∨i=3∨i=4∨i=5∨i=6∨i=7∨i=8∨i=9∨i=10∨i=11:=by omega
  rcases this with rfl | rfl | rfl | rfl | rfl | rfl | rfl | rfl | rfl | rfl | rfl | rfl <;> rfl
 ·rw [c]
  have:i=0∨i=1∨i=2∨i=3∨i=4∨i=5∨i=6∨i=7∨i=8∨i=9∨i=10∨i=11:=by omega
  rcases this with rfl | rfl | rfl | rfl | rfl | rfl | rfl | rfl | rfl | rfl | rfl | rfl <;> rfl
theorem J8 (rs:List Ru) (xs ys:List A) (dk:iF ys=true) (dl:∀ y ∈ ys,aT y) (ew:ys.length≤300) (n:Nat) (p:Pf) (c0 c1 c2 c3 vr vx vy:Value) (bs br bx b3:List Nat) (w:World)
  (ih:∀ (p:Pf) (c0 c1 c2 c3:Value) (bs:List Nat) (w':World),Below w.heap.size w w'→dP n w' [c0,c1,c2,c3] p bs→aK p≤16777216→Calls Tryz.prog 43 #[vr,vx,vy,.agg #[c0,c1,c2,c3]] w' fun e w2=>e=.returned (.bool (jw rs xs ys p))∧Below w'.heap.size w' w2)
  (h:dP (n+1) w [c0,c1,c2,c3] p bs) (hR:dD w [vr] rs br) (hX:aQ w [vx] xs bx) (hY:aQ w [vy] ys b3) (hs:aK p≤16777216) (i:Nat) (hi:p.rule=i) (c9:i < rs.length) (bu:aW p.fact=true) (R:jr rs[i]):
  Calls Tryz.prog 43 #[vr,vx,vy,.agg #[c0,c1,c2,c3]] w fun e w'=>e=.returned (.bool (jw rs xs ys p))∧Below w.heap.size w w':=by
 obtain ⟨Ad,cap,Ae,J,b1,b2,rfl,rfl,rfl,rfl,rfl,dp,ca,hq⟩:=gV h;have ds:=hR;obtain ⟨Ar,cr,rfl,cp,cq⟩:=ai hR;have ep:=ay (τ cp cq);have a1:p.kids.length≤16777216:=by have:=AA p; omega
 have hA:Below w.heap.size w (w.alloc (.cells #[.string p.fact.name,.slice Ad p.fact.args.length cap,.int .i64 p.rule,.slice Ae p.kids.length J] 43)):=(Below.refl w.heap.size w).alloc ν _;obtain ⟨rb,ro,Rh,dt,Rb,du,bk,rfl,-,g0,g1,g2,hrel,cv⟩:=eF hR c9;obtain ⟨bh,bb,dv,b4,ag⟩:=dX hrel;have hV:=Gw R;have HK:=η (J3 (rs:=rs) (xs:=xs) (ys:=ys) hi c9);have cw:=η ca;have HQ:=η hq;have HS:=η hs;have dx:=η a1;have dy:=η ih;have HY:=η hY;have dz:=η b4;have dC:=η (lt_of_cell g0);have aw:=η ag;have bv:=η R;have bw:=η hV;have dE:=η (sS.1 (EN bu));rw [bu,Bool.true_and] at HK;have HF:=η (fun w' (hb:Below w.heap.size w w')=>ql p.fact _ _ b1 w' (ak.below ca hb));rw [bu] at HF;have dT:=η (fun w' (hb:Below w.heap.size w w')=>zL rs[i].body (.slice Rb rs[i].body.length du) bb w' (aU.below ag hb) (by have:=R.few; omega) (fun q hq=>by have:=jo (R.pok q hq); omega));have HA:=η hA;have ey:(0:Int)≤(i:Int):=by omega
 have ez:¬ (i:Int) < 0:=by omega
 have eA:¬ (rs.length:Int)≤(i:Int):=by omega
 have eB:(i:Int) < (rs.length:Int):=by omega
 have eC:¬ (i:Int) = -1:=by omega
 clear hA ca hq hs a1 ih hY b4 ag R hV h hR hX hrel cp cq cv dv ds;generalize hOUT:jw rs xs ys p=OUT at *;clear hOUT;generalize hru:p.rule=ru at *;subst hi;clear dp hru bu;generalize rs[i]=q at *;clear c9;have e0:(w.alloc (.cells #[.string p.fact.name,.slice Ad p.fact.args.length cap,.int .i64 i,.slice Ae p.kids.length J] 43)).cell? ⟨w.heap.size,0,none⟩=some (.string p.fact.name):=by go_simp
 have e1:(w.alloc (.cells #[.string p.fact.name,.slice Ad p.fact.args.length cap,.int .i64 i,.slice Ae p.kids.length J] 43)).cell? ⟨w.heap.size,1,none⟩=some (.slice Ad p.fact.args.length cap):=by go_simp
 have e2:(w.alloc (.cells #[.string p.fact.name,.slice Ad p.fact.args.length cap,.int .i64 i,.slice Ae p.kids.length J] 43)).cell? ⟨w.heap.size,2,none⟩=some (.int .i64 i):=by go_simp
 have e3:(w.alloc (.cells #[.string p.fact.name,.slice Ad p.fact.args.length cap,.int .i64 i,.slice Ae p.kids.length J] 43)).cell? ⟨w.heap.size,3,none⟩=some (.slice Ae p.kids.length J):=by go_simp
 go_enter Tryz.func43,Tryz.ntmps43
 go_wp2_with (first
  | (go_at_call 64; refine (HF.out _ HA.out).mono ?_; rintro e w1 ⟨rfl,az⟩; have am:=HA.out.trans (az.mono HA.out.size); replace e0:=ξ az e0; replace e1:=ξ az e1; replace e2:=ξ az e2; replace e3:=ξ az e3; replace g0:=ξ am g0; replace g1:=ξ am g1; replace g2:=ξ am g2; clear az)
  | (go_at_call 84; refine (dT.out _ am).mono ?_; rintro e w2 ⟨A1,n1,q1,A2,n2,q2,A3,q3,bq,rfl,a7,e4,cx⟩; have bz:=am.trans (a7.mono am.size); replace e0:=ξ a7 e0; replace e1:=ξ a7 e1; replace e2:=ξ a7 e2; replace e3:=ξ a7 e3; replace g0:=ξ a7 g0; replace g1:=ξ a7 g1; replace g2:=ξ a7 g2; clear a7))
 obtain ⟨v1,v2,v3,bA,aD,e5,he,rfl,bB,bE,cy⟩:=e4;simp only [List.cons.injEq,and_true] at he;obtain ⟨rfl,rfl,rfl⟩:=he;obtain ⟨_,_,cz,_⟩:=ai bB;obtain ⟨_,_,cA,_⟩:=ai bE;simp only [Value.slice.injEq] at cz cA;obtain ⟨-,rfl,-⟩:=cz;obtain ⟨-,rfl,-⟩:=cA;obtain ⟨W,hW⟩:∃ W,W=((w2.alloc (.cells #[.slice A1 (bW q.body).length q1,.slice A2 (bH q.body).length q2,.slice A3 (ax q.body).length q3] 134)).alloc (.cells UZ 139)):=⟨_,rfl⟩;have hC:Below w2.heap.size w2 W:=by rw [hW]; exact (ζ).alloc (by simp) _
 have HC:=η hC;have cb:Hid (W.heap.size=w2.heap.size+2):=η (by rw [hW]; simp);have aa:=η (bz.trans (hC.mono bz.size));have bL:Hid (w.heap.size < w2.heap.size):=η (lt_of_cell e0)
 have cB:Hid (fQ (ax q.body) [] (w2.heap.size+1) 0 W):=η (VG (by
  rw [hW];have:=ω (w2.alloc (.cells #[.slice A1 (bW q.body).length q1,.slice A2 (bH q.body).length q2,.slice A3 (ax q.body).length q3] 134)) (.cells UZ 139)
  simpa using this))
 have bO:W.heap[w2.heap.size]? = some (.cells #[.slice A1 (bW q.body).length q1,.slice A2 (bH q.body).length q2,.slice A3 (ax q.body).length q3] 134 (0,0)):=by
  rw [hW,Below.heap_alloc _ _ _ (by simp)];exact ω _ _
 have u0:W.cell? ⟨w2.heap.size,0,none⟩=some (.slice A1 (bW q.body).length q1):=aj bO;have u1:W.cell? ⟨w2.heap.size,1,none⟩=some (.slice A2 (bH q.body).length q2):=aj bO;have u2:W.cell? ⟨w2.heap.size,2,none⟩=some (.slice A3 (ax q.body).length q3):=aj bO;replace e0:=ξ hC e0;replace e1:=ξ hC e1;replace e2:=ξ hC e2;replace e3:=ξ hC e3;replace g0:=ξ hC g0;replace g1:=ξ hC g1;have b5:Hid ((∀ c ∈ bA,c < w2.heap.size)∧∀ c ∈ aD,c < w2.heap.size):=η ⟨fun c hc=>(aX _).lt bB c hc,fun c hc=>(aX _).lt bE c hc⟩;have cc:=η (ι ((aX _).below bB hC) (ι ((aX _).below bE hC) (ι (bV.below cy hC) cx)));have eD:=η bz;clear bB bE cy cx hC bO g2 am bz;change Code.wp _ _ _ _ ((w2.alloc (.cells #[.slice A1 (bW q.body).length q1,.slice A2 (bH q.body).length q2,.slice A3 (ax q.body).length q3] 134)).alloc (.cells UZ 139));rw [← hW];clear hW;by_cases hlen:p.kids.length=(bW q.body).length
 ·have e6:((p.kids.length:Int) != ((bW q.body).length:Int))=false:=by rw [hlen]; simp
  have b6:=η hlen;have a8:=η (AO (fs:=[]) bv.out (by simp) (by simp) (wt:=fun i=>Gv (ax q.body) q.head (bH q.body) i) (fun _ _=>rfl));have e7:=η (fun (w':World) (hb:Below W.heap.size W w')=>rG (ax q.body) q.head A1 A2 (bW q.body).length q1 (bH q.body).length q2 (.slice A3 (ax q.body).length q3) _ _ e5 bh w' (bV.below cc.out.2.2.1 hb) (qo q.body) (by have:=bw.out.few; omega) (ak.below dz.out (aa.out.trans (hb.mono aa.out.size))) a8.out.hin (by have:=jo bv.out.hok; omega))
  have e8:=η (fun (w':World) (hb:Below W.heap.size W w') (Ah:Option Addr) (ch:Nat) (bp:List Nat) (a3:jG (ax q.body) w' [.slice Ah q.head.args.length ch] q.head.args bp) (hn:∀ c ∈ bp,W.heap.size≤c)=>vN (ax q.body) bw.out [] (iW.none _) q.head p.fact Ah Ad ch cap bp b1 (w2.heap.size+1) 0 w' (cB.out.keep (hb.block _ (by rw [cb.out]; omega))) a3 (dK (ak.below cw.out (aa.out.trans (hb.mono aa.out.size)))) a8.out.hin (sQ bv.out.hok) (fun h=>by have:=hn _ h; rw [cb.out] at this; omega) (fun h=>by have h9:=ak.lt cw.out _ h; have:=bL.out; omega) (by have:=jo bv.out.hok; omega));have a2:Hid (w.heap.size < w2.heap.size∧rb < w.heap.size):=η ⟨bL.out,dC.out⟩;have B0:=Below.refl W.heap.size W;clear hlen
  go_region_held3 (fun w'=>w'.cell? ⟨w.heap.size,0,none⟩=some (.string p.fact.name)∧w'.cell? ⟨w.heap.size,1,none⟩=some (.slice Ad p.fact.args.length cap)∧w'.cell? ⟨w.heap.size,2,none⟩=some (.int .i64 i)∧w'.cell? ⟨w.heap.size,3,none⟩=some (.slice Ae p.kids.length J)∧w'.cell? ⟨rb,ro+i * 3,none⟩=some (.string q.head.name)∧w'.cell? ⟨rb,ro+i * 3+1,none⟩=some (.slice Rh q.head.args.length dt)∧w'.cell? ⟨w2.heap.size,0,none⟩=some (.slice A1 (bW q.body).length q1)∧w'.cell? ⟨w2.heap.size,1,none⟩=some (.slice A2 (bH q.body).length q2)∧w'.cell? ⟨w2.heap.size,2,none⟩=some (.slice A3 (ax q.body).length q3)) (first | go_keep | exact ⟨e0,e1,e2,e3,g0,g1,u0,u1,u2⟩)
   (first
    | (go_at_call 86; (with_reducible refine Calls.mono (e7.out _ B0.drew) ?_); rintro e w3 ⟨vp,bp,rfl,a4,aE,a3,cD⟩; obtain ⟨Ah,ch,rfl,_⟩:=ai a3; have B3:=B0.drew.trans (a4.mono (Below.size B0.drew)); replace e0:=ξ a4 e0; replace e1:=ξ a4 e1; replace e2:=ξ a4 e2; replace e3:=ξ a4 e3; replace g0:=ξ a4 g0; replace g1:=ξ a4 g1; replace u0:=ξ a4 u0; replace u1:=ξ a4 u1; replace u2:=ξ a4 u2; clear a4)
    | (go_at_call 85; (with_reducible refine Calls.mono (e8.out _ B3 _ _ _ a3 (fun c hc=>τ (Below.size B0.drew) (cD.own c hc).1)) ?_); rintro e w4 ⟨bo,r,rfl,I,b7,bR⟩; replace e0:=I.kept.cell e0 (by have:=a2.out; dsimp only; omega); replace e1:=I.kept.cell e1 (by have:=a2.out; dsimp only; omega); replace e2:=I.kept.cell e2 (by have:=a2.out; dsimp only; omega); replace e3:=I.kept.cell e3 (by have:=a2.out; dsimp only; omega); replace g0:=I.kept.cell g0 (by have:=a2.out; dsimp only; omega); replace g1:=I.kept.cell g1 (by have:=a2.out; dsimp only; omega); replace u0:=I.kept.cell u0 (by have:=a2.out; dsimp only; omega); replace u1:=I.kept.cell u1 (by have:=a2.out; dsimp only; omega); replace u2:=I.kept.cell u2 (by have:=a2.out; dsimp only; omega)))
  have cd:=η (b7 dE.out);have cE:=η (aa.out.trans ((B3.mono aa.out.size).trans ((I.kept.lower (B:=w.heap.size) (by have:=a2.out; omega) (τ aa.out.size B3.size)).mono ν)));have ea:=η (ι I.at_ I.ok)
  have eb:=η (show kK (ax q.body) w4 [.slice A1 (bW q.body).length q1] (bW q.body) bA∧kK (ax q.body) w4 [.slice A2 (bH q.body).length q2] (bH q.body) aD from
   ⟨I.kept.keep (aX _) ((aX _).below cc.out.1 B3) (fun h=>by have h1:=b5.out.1 _ h; omega),I.kept.keep (aX _) ((aX _).below cc.out.2.1 B3) (fun h=>by have h1:=b5.out.2 _ h; omega)⟩)
  have cG:=I.kept.grow.size;clear b7 bR I a3 cD aE;cases r
  ·have HZ:Hid (OUT=false):=η (by
    rw [HK.out];unfold iV;rw [cd.out]
    simp)
   go_wp2;go_ret;exact ⟨aA HZ.out.symm,cE.out⟩
  ·have cI:Hid (w2.heap.size+2≤w4.heap.size):=η (by have:=cb.out; have:=B3.size; have:=cG; omega)
   clear cG;go_wp2
   go_loopw [8,11,12,77] (fun _ _ _ iv wr=>∃ (k:Nat) (b:Bd),k≤(bW q.body).length∧iv=.int .i64 k∧Hid (ng (bW q.body) (p.kids.map Pf.fact) bo k b)∧Hid ((p.kids.take k).all (fun x=>xY x.fact)=true)∧Hid (fQ (ax q.body) b (w2.heap.size+1) 0 wr∧iW (ax q.body) b)∧Hid (Below w.heap.size w wr)∧
    Hid (kK (ax q.body) wr [.slice A1 (bW q.body).length q1] (bW q.body) bA∧kK (ax q.body) wr [.slice A2 (bH q.body).length q2] (bH q.body) aD)∧Hid (w2.heap.size+2≤wr.heap.size)∧wr.cell? ⟨w.heap.size,3,none⟩=some (.slice Ae p.kids.length J)∧wr.cell? ⟨w2.heap.size,1,none⟩=some (.slice A2 (bH q.body).length q2)) (fun _ _ _ i _=>(bW q.body).length - (intOf i).toNat)
   case atStart=>exact ⟨0,bo,ε,rfl,η (ng.start _ _ _),η rfl,η ea.out,cE,eb,cI,e3,u1⟩
   case round=>
    obtain ⟨k,b,hk,rfl,HL,cJ,aw,HB,b8,aL,z3,z1⟩:=hrel;by_cases a1:k < (bW q.body).length
    ·have cK:(0:Int)≤(k:Int):=by omega
     have bc:(k:Int) < ((bW q.body).length:Int):=by omega
     have a5:k < p.kids.length:=by rw [b6.out]; exact a1
     obtain ⟨pb,po,Ag,cg,ec,rfl,-,f0,f1,⟨vv,bf,aE,a3⟩,bX⟩:=qj b8.out.1 a1;obtain ⟨kb,ko,cL,cP,Ai,ci,eE,rfl,-,d0,d1,d2,d3,bg,c6⟩:=jJ ((dm n).below HQ.out HB.out) a5;simp only [List.cons.injEq,and_true,true_and] at bf;subst bf;obtain ⟨ed,cQ,cT⟩:=BK bg;have bi:Below wr.heap.size wr (wr.alloc (.cells #[.string (bW q.body)[k].name,.slice Ag (bW q.body)[k].args.length cg] 143)):=ζ;have cU:=aL.out;have cV:=η (vN (ax q.body) bw.out b aw.out.2 (bW q.body)[k] p.kids[k].fact Ag cL cg cP ec ed (w2.heap.size+1) 0 (wr.alloc (.cells #[.string (bW q.body)[k].name,.slice Ag (bW q.body)[k].args.length cg] 143)).drew ((aw.out.1.keep (bi.block _ (by omega))).keep rfl) ((bU _).below a3 bi.drew) (dK (ak.below cQ bi.drew)) (a8.out.pin _ (δ a1)) (sQ (a8.out.pok _ (δ a1))) (fun h=>by have h1:=b5.out.1 _ (bX _ h); omega) (fun h=>by have h1:=(dm n).lt HQ.out _ (c6 _ (cT _ h)); have:=bL.out; omega) (by have:=jo (a8.out.pok _ (δ a1)); omega))
     have ao:Hid (∀ b2,aC (bW q.body)[k] p.kids[k].fact b=(b2,true)→ng (bW q.body) (p.kids.map Pf.fact) bo (k+1) b2):=η fun b2 hm=>HL.out.step a1 (by rw [List.length_map]; exact a5) (by rw [List.getElem_map]; exact hm)
     have a6:Hid (∀ b2,aC (bW q.body)[k] p.kids[k].fact b=(b2,false)→OUT=false):=η fun b2 hm=>by
      have h9:=HL.out.bad a1 (by rw [List.length_map]; exact a5) (by rw [List.getElem_map]; exact hm);rw [HK.out];unfold iV;rw [cd.out];dsimp only;rw [h9];simp
     have ee:Hid (¬ mY p.kids[k].fact.args→OUT=false):=η fun hn=>by
      rw [HK.out];have h9:(p.kids.all fun x=>xY x.fact)=false:=List.all_eq_false.2 ⟨_,δ a5,fun h=>hn (sS.1 h)⟩;rw [h9];simp
     have eg:Hid (mY p.kids[k].fact.args→((p.kids.take (k+1)).all fun x=>xY x.fact)=true):=η fun hp=>by
      rw [ρ a5,List.all_append,cJ.out,List.all_cons,List.all_nil,sS.2 hp];rfl
     have a9:=η bi;have bj:=η a1
     have cW:Hid (kb < w2.heap.size):=η (by
      obtain ⟨b9,_,_,_,e9,h9,_⟩:=gW HQ.out a5;simp only [Option.some.injEq,Addr.mk.injEq] at e9;have:=(dm n).lt HQ.out _ h9;have:=bL.out
      omega)
     have eI:(k:Int) < (p.kids.length:Int):=by omega
     clear cQ cT bg c6 a3 aE bX d2 d3 bi;generalize (bW q.body)[k]=a at *;generalize p.kids[k]=kid at *;clear a1 a5 hk;have t0:(wr.alloc (.cells #[.string a.name,.slice Ag a.args.length cg] 143)).cell? ⟨wr.heap.size,0,none⟩=some (.string a.name):=by go_simp
     have t1:(wr.alloc (.cells #[.string a.name,.slice Ag a.args.length cg] 143)).cell? ⟨wr.heap.size,1,none⟩=some (.slice Ag a.args.length cg):=by go_simp
     replace z3:=ξ a9.out z3;replace z1:=ξ a9.out z1;replace d0:=ξ a9.out d0;replace d1:=ξ a9.out d1;clear cU;go_wp2;generalize wr.alloc (.cells #[.string a.name,.slice Ag a.args.length cg] 143)=W1 at *
     go_region_held3 (fun w'=>w'.cell? ⟨w.heap.size,3,none⟩=some (.slice (some ⟨kb,ko,none⟩) p.kids.length J)∧w'.cell? ⟨wr.heap.size,0,none⟩=some (.string a.name)∧w'.cell? ⟨wr.heap.size,1,none⟩=some (.slice Ag a.args.length cg)∧w'.cell? ⟨kb,ko+k * 4,none⟩=some (.string kid.fact.name)∧w'.cell? ⟨kb,ko+k * 4+1,none⟩=some (.slice cL kid.fact.args.length cP)) (first | go_keep | exact ⟨z3,t0,t1,d0,d1⟩)
      (first
       | (go_at_call 85; (with_reducible refine Calls.mono cV.out ?_); rintro e w5 ⟨c4,r2,rfl,I,b7,bR⟩; replace z3:=I.kept.cell z3 (by have:=aL.out; have:=a2.out; dsimp only; omega); replace z1:=I.kept.cell z1 (by have:=aL.out; dsimp only; omega); replace t0:=I.kept.cell t0 (by have:=aL.out; dsimp only; omega); replace t1:=I.kept.cell t1 (by have:=aL.out; dsimp only; omega); replace d0:=I.kept.cell d0 (by have:=cW.out; dsimp only; omega); replace d1:=I.kept.cell d1 (by have:=cW.out; dsimp only; omega)))
     have cX:Hid (mY kid.fact.args→aC a kid.fact b=(c4,r2)):=η b7;have eh:Hid (¬ mY kid.fact.args→r2=false):=η bR;have c7:=η (HB.out.trans ((a9.out.drew.mono HB.out.size).trans ((I.kept.lower (B:=w.heap.size) (by have:=a2.out; omega) (τ HB.out.size a9.out.drew.size)).mono ν)));have cY:Hid (fQ (ax q.body) c4 (w2.heap.size+1) 0 w5∧iW (ax q.body) c4):=η ⟨I.at_,I.ok⟩
     have ei:Hid (kK (ax q.body) w5 [.slice (some ⟨pb,po,none⟩) (bW q.body).length q1] (bW q.body) bA∧kK (ax q.body) w5 [.slice A2 (bH q.body).length q2] (bH q.body) aD):=η
      ⟨I.kept.keep (aX _) ((aX _).below b8.out.1 a9.out.drew) (fun h=>by have h1:=b5.out.1 _ h; omega),I.kept.keep (aX _) ((aX _).below b8.out.2 a9.out.drew) (fun h=>by have h1:=b5.out.2 _ h; omega)⟩
     have d4:Hid (w2.heap.size+2≤w5.heap.size):=η (by have h1:=aL.out; have h2:=a9.out.size; have h3:=I.kept.grow.size; change W1.heap.size≤_ at h3; omega);have eJ:(bW q.body).length≤4:=a8.out.p4;have eK:=bj.out;clear b7 bR I cV b8 aw t0 t1 d0 d1;cases r2
     ·have HZ:Hid (OUT=false):=η (by
       by_cases hp:mY kid.fact.args
       ·exact a6.out _ (cX.out hp)
       ·exact ee.out hp)
      go_wp2;go_ret;exact ⟨aA HZ.out.symm,c7.out⟩
     ·have c8:Hid (mY kid.fact.args):=η (Classical.byContradiction fun h=>by cases eh.out h)
      go_wp2;go_roundw
      case rel=>exact ⟨_,_,_,_,_,_,_,_,_,_,_,_,_,_,_,_,_,_,⟨k+1,c4,bj.out,by go_num,η (ao.out _ (cX.out c8.out)),η (eg.out c8.out),cY,c7,ei,d4,z3,z1⟩,rfl⟩
      case measure=>have:=bj.out; simp [intOf]; omega
    ·have bc:¬ (k:Int) < ((bW q.body).length:Int):=by omega
     have ej:k=(bW q.body).length:=by omega
     have ek:Hid (oI (bW q.body) (p.kids.map Pf.fact) bo=(b,true)):=η (HL.out.full (by omega))
     have d5:Hid (iV q p.fact (p.kids.map Pf.fact) ys=dW ys q.body b):=η (by
      unfold iV;rw [List.length_map,decide_eq_true b6.out,cd.out];dsimp only;rw [ek.out]
      rfl)
     have el:Hid ((p.kids.all fun x=>xY x.fact)=true):=η (by
      have h9:=cJ.out;rw [ϕ (by rw [b6.out]; omega)] at h9
      exact h9)
     clear hk a1 ej;go_wp2
     go_loopw [8,14,95] (fun _ _ jv w5=>∃ j:Nat,j≤(bH q.body).length∧jv=.int .i64 j∧Hid (((bH q.body).take j).all (fun a=>!hasB ys (aY a b))=true)∧Hid (fQ (ax q.body) b (w2.heap.size+1) 0 w5)∧Hid (Below w.heap.size w w5)∧Hid (kK (ax q.body) w5 [.slice A2 (bH q.body).length q2] (bH q.body) aD)∧w5.cell? ⟨w.heap.size,3,none⟩=some (.slice Ae p.kids.length J)) (fun _ _ j _=>(bH q.body).length - (intOf j).toNat)
     case atStart=>exact ⟨0,ε,rfl,η rfl,η aw.out.1,HB,η b8.out.2,z3⟩
     case round=>
      obtain ⟨j,hj,rfl,d6,ab,ce,d7,y3⟩:=hrel;by_cases ap:j < (bH q.body).length
      ·obtain ⟨nb,no,An,cn,bn,rfl,-,f0,f1,⟨vv,bf,aE,a3⟩,bX⟩:=qj d7.out ap
       simp only [List.cons.injEq,and_true,true_and] at bf;subst bf;have cK:(0:Int)≤(j:Int):=by omega
       have bc:(j:Int) < ((bH q.body).length:Int):=by omega
       have eL:(bH q.body).length≤1000000:=a8.out.nl;have ac:Below wr.heap.size wr (wr.alloc (.cells #[.string (bH q.body)[j].name,.slice An (bH q.body)[j].args.length cn] 143)):=ζ;have HF:=η (Dk (ax q.body) bw.out b aw.out.2 (bH q.body)[j] An cn bn (w2.heap.size+1) 0 (wr.alloc (.cells #[.string (bH q.body)[j].name,.slice An (bH q.body)[j].args.length cn] 143)) (ab.out.keep (ac.block _ ab.out.lt)) aE ((bU _).below a3 ac) (a8.out.nin _ (δ ap)) (by have:=jo (a8.out.nok _ (δ ap)); omega))
       have HH:Hid (∀ (d0 d1:Value) (b9:List Nat) (w':World),Below w.heap.size w w'→aP w' [d0,d1] (aY (bH q.body)[j] b) b9→Calls Tryz.prog 83 #[vy,.agg #[d0,d1]] w' fun e em=>e=.returned (.bool (hasB ys (aY (bH q.body)[j] b)))∧Below w'.heap.size w' em):=η fun d0 d1 b9 w' hb h2=>by
        have h9:=ND ys (aY (bH q.body)[j] b) vy d0 d1 b3 b9 w' (au.below HY.out hb) h2 dk (by omega)
        rwa [Tf dl] at h9
       have ae:=η (ce.out.trans (ac.mono ce.out.size))
       have ao:Hid (hasB ys (aY (bH q.body)[j] b)=false→((bH q.body).take (j+1)).all (fun a=>!hasB ys (aY a b))=true):=η fun hr=>by
        rw [ρ ap,List.all_append,d6.out,List.all_cons,List.all_nil,hr];rfl
       have a6:Hid (hasB ys (aY (bH q.body)[j] b)=true→OUT=false):=η fun hr=>by
        rw [HK.out,d5.out,J4];have h9:((bH q.body).all fun a=>!hasB ys (aY a b))=false:=List.all_eq_false.2 ⟨_,δ ap,by rw [hr]; simp⟩;rw [h9];rfl
       have d8:=η (fun w' (hb:Below _ (wr.alloc (.cells #[.string (bH q.body)[j].name,.slice An (bH q.body)[j].args.length cn] 143)) w')=>ab.out.keep ((hb.block _ (κ ab.out.lt ac.size)).trans (ac.block _ ab.out.lt)));have d9:=η (fun w' (hb:Below _ (wr.alloc (.cells #[.string (bH q.body)[j].name,.slice An (bH q.body)[j].args.length cn] 143)) w')=>(aX _).below ((aX _).below d7.out ac) hb);have HJ:=η ap;replace y3:=ξ ac y3;clear aE a3 bX ac hj;generalize (bH q.body)[j]=a at *;clear ap;generalize hr:hasB ys (aY a b)=r at *;have HR:=η hr;clear hr;cases r
       ·go_wp2_with (first
          | (go_at_call 87; refine HF.out.mono ?_; rintro e w6 ⟨v9,b9,rfl,a0,bl,cj⟩; have aq:=η a0; replace y3:=ξ a0 y3; have bt:=η (HH.out _ _ b9 w6 (ae.out.trans (a0.mono ae.out.size)) bl); clear a0 bl cj)
          | (go_at_call 83; refine bt.out.mono ?_; rintro e w7 ⟨rfl,ar⟩; have av:=η (aq.out.trans (ar.mono aq.out.size)); replace y3:=ξ ar y3; clear ar))
        have ck:=η (ae.out.trans (av.out.mono ae.out.size));have da:Hid (fQ (ax q.body) b (w2.heap.size+1) 0 w7):=η (d8.out w7 av.out);have db:Hid (kK (ax q.body) w7 [.slice (some ⟨nb,no,none⟩) (bH q.body).length q2] (bH q.body) aD):=η (d9.out w7 av.out);clear HF HH aq av bt;go_roundw
        case rel=>exact ⟨j+1,HJ.out,by go_num,η (ao.out (by trivial)),da,ck,db,y3⟩
        case measure=>have:=HJ.out; simp [intOf]; omega
       ·go_wp2_with (first
          | (go_at_call 87; refine HF.out.mono ?_; rintro e w6 ⟨v9,b9,rfl,a0,bl,cj⟩; have aq:=η a0; replace y3:=ξ a0 y3; have bt:=η (HH.out _ _ b9 w6 (ae.out.trans (a0.mono ae.out.size)) bl); clear a0 bl cj)
          | (go_at_call 83; refine bt.out.mono ?_; rintro e w7 ⟨rfl,ar⟩; have av:=η (aq.out.trans (ar.mono aq.out.size)); replace y3:=ξ ar y3; clear ar))
        have ck:=η (ae.out.trans (av.out.mono ae.out.size));clear HF HH aq av bt;go_ret;exact ⟨aA (a6.out (by trivial)).symm,ck.out⟩
      ·have bc:¬ (j:Int) < ((bH q.body).length:Int):=by omega
       have dc:Hid (OUT=p.kids.all (jw rs xs ys)):=η (by
        have h9:=d6.out;rw [ϕ (by omega)] at h9;rw [HK.out,d5.out,J4,h9,el.out]
        rfl)
       clear hj;go_wp2
       go_loopw [8,16,107] (fun _ _ jv en=>∃ m:Nat,m≤p.kids.length∧jv=.int .i64 m∧Hid ((p.kids.take m).all (jw rs xs ys)=true)∧Hid (Below w.heap.size w en)) (fun _ _ j _=>p.kids.length - (intOf j).toNat)
       case atStart=>exact ⟨0,ε,rfl,η rfl,ce⟩
       case round=>
        obtain ⟨m,hm,rfl,de,af⟩:=hrel;by_cases aM:m < p.kids.length
        ·obtain ⟨kb,ko,Af,cf,Ag,cg,eo,rfl,-,d0,d1,d2,d3,bg,-⟩:=jJ ((dm n).below HQ.out af.out) aM
         have dg:aK p.kids[m]≤16777216:=τ (Tv p (δ aM)) HS.out;have di:Below wr.heap.size wr (wr.alloc (.cells #[.string p.kids[m].fact.name,.slice Af p.kids[m].fact.args.length cf,.int .i64 p.kids[m].rule,.slice Ag p.kids[m].kids.length cg] 43)):=ζ;have c5:=η (fun w' (hb:Below wr.heap.size wr w')=>dy.out p.kids[m] _ _ _ _ eo w' (af.out.trans (hb.mono af.out.size)) ((cZ n).below bg hb) dg);have aR:=η di;have cK:(0:Int)≤(m:Int):=by omega
         have bc:(m:Int) < (p.kids.length:Int):=by omega
         have et:=dx.out;have cl:Hid (jw rs xs ys p.kids[m]=true→(p.kids.take (m+1)).all (jw rs xs ys)=true):=η fun e=>by rw [ρ aM,List.all_append,de.out,List.all_cons,e]; rfl
         have a6:Hid (jw rs xs ys p.kids[m]=false→OUT=false):=η fun e=>by rw [dc.out,List.all_eq_false]; exact ⟨_,δ aM,by rw [e]; simp⟩
         have dj:=η aM;clear bg dg hm di;generalize jw rs xs ys p.kids[m]=O at *;generalize p.kids[m]=kid at *;clear aM;cases O
         ·have HZ:=η (a6.out (by trivial))
          clear a6 cl
          go_wp2_with (go_at_call 43; refine (c5.out _ aR.out).mono ?_; rintro e w9 ⟨rfl,a0⟩; have cm:=η (af.out.trans ((aR.out.trans (a0.mono aR.out.size)).mono af.out.size)); clear c5 a0)
          go_wp2;go_ret;exact ⟨aA HZ.out.symm,cm.out⟩
         ·have HZ:=η (cl.out rfl)
          clear a6 cl
          go_wp2_with (go_at_call 43; refine (c5.out _ aR.out).mono ?_; rintro e w9 ⟨rfl,a0⟩; have cm:=η (af.out.trans ((aR.out.trans (a0.mono aR.out.size)).mono af.out.size)); clear c5 a0)
          go_roundw
          case rel=>exact ⟨m+1,dj.out,by go_num,HZ,cm⟩
          case measure=>have:=dj.out; simp [intOf]; omega
        ·have bc:¬ (m:Int) < (p.kids.length:Int):=by omega
         have HZ:Hid (OUT=true):=η (by
          rw [dc.out];have h9:=de.out
          rwa [ϕ (by omega)] at h9)
         clear hm;go_wp2;go_ret;exact ⟨aA HZ.out.symm,af.out⟩
 ·have e6:((p.kids.length:Int) != ((bW q.body).length:Int))=true:=by rw [bne_iff_ne]; omega
  have HZ:Hid (OUT=false):=η (by
   rw [HK.out];unfold iV
   rw [List.length_map,decide_eq_false hlen]; rfl)
  clear hlen;refine wp_region_held_drew (S:=(fun w'=>w'.cell? ⟨w.heap.size,3,none⟩=some (.slice Ae p.kids.length J)∧w'.cell? ⟨w2.heap.size,0,none⟩=some (.slice A1 (bW q.body).length q1))) (by kernel_rfl) ?_ (fun co=>?_)
  ·go_keep
  try simp only [Act.put,List.setIfInBounds_toArray,List.set_cons_zero,List.set_cons_succ]
  refine dB 0 (v:=?_) rfl (by kernel_rfl) (fun _ _ _ h=>h) ?_ (by assumption) ?_
  rotate_left
  ·(intro w U; (try dsimp only at U); go_simp); (first | done | with_reducible rfl)
  try simp only [Act.put,List.setIfInBounds_toArray,List.set_cons_zero,List.set_cons_succ]
  try simp only [Act.put,List.setIfInBounds_toArray,List.set_cons_zero,List.set_cons_succ]
  refine dB 1 (v:=?_) rfl (by kernel_rfl) (fun _ _ _ h=>h) ?_ (by assumption) ?_
  rotate_left
  ·(intro w U; (try dsimp only at U); go_simp); (first | done | with_reducible rfl)
  try simp only [Act.put,List.setIfInBounds_toArray,List.set_cons_zero,List.set_cons_succ]
  try simp only [Act.put,List.setIfInBounds_toArray,List.set_cons_zero,List.set_cons_succ]
  refine dB 2 (v:=?_) rfl (by kernel_rfl) (fun _ _ _ h=>h) ?_ (by assumption) ?_
  rotate_left
  ·(intro w U; (try dsimp only at U); go_simp); (first | done | with_reducible rfl)
  try simp only [Act.put,List.setIfInBounds_toArray,List.set_cons_zero,List.set_cons_succ]
  try simp only [Act.put,List.setIfInBounds_toArray,List.set_cons_zero,List.set_cons_succ]
  refine dB 3 (v:=?_) rfl (by kernel_rfl) (fun _ _ _ h=>h) ?_ (by assumption) ?_
  rotate_left
  ·(intro w U; (try dsimp only at U); go_simp); (first | done | with_reducible rfl)
  try simp only [Act.put,List.setIfInBounds_toArray,List.set_cons_zero,List.set_cons_succ]
  try simp only [Act.put,List.setIfInBounds_toArray,List.set_cons_zero,List.set_cons_succ]
  refine dB 4 (v:=?_) rfl (by kernel_rfl) (fun _ _ _ h=>h) ?_ (by assumption) ?_
  rotate_left
  ·(intro w U; (try dsimp only at U); go_simp); (first | done | with_reducible rfl)
  try simp only [Act.put,List.setIfInBounds_toArray,List.set_cons_zero,List.set_cons_succ]
  try simp only [Act.put,List.setIfInBounds_toArray,List.set_cons_zero,List.set_cons_succ]
  refine dB 5 (v:=?_) rfl (by kernel_rfl) (fun _ _ _ h=>h) ?_ (by assumption) ?_
  rotate_left
  ·(intro w U; (try dsimp only at U); go_simp); (first | done | with_reducible rfl)
  try simp only [Act.put,List.setIfInBounds_toArray,List.set_cons_zero,List.set_cons_succ]
  try simp only [Act.put,List.setIfInBounds_toArray,List.set_cons_zero,List.set_cons_succ]
  refine dB 6 (v:=?_) rfl (by kernel_rfl) (fun _ _ _ h=>h) ?_ (by assumption) ?_
  rotate_left
  ·(intro w U; (try dsimp only at U); go_simp); (first | done | with_reducible rfl)
  try simp only [Act.put,List.setIfInBounds_toArray,List.set_cons_zero,List.set_cons_succ]
  try simp only [Act.put,List.setIfInBounds_toArray,List.set_cons_zero,List.set_cons_succ]
  refine dB 7 (v:=?_) rfl (by kernel_rfl) (fun _ _ _ h=>h) ?_ (by assumption) ?_
  rotate_left
  ·(intro w U; (try dsimp only at U); go_simp); (first | done | with_reducible rfl)
  try simp only [Act.put,List.setIfInBounds_toArray,List.set_cons_zero,List.set_cons_succ]
  refine bP 8 rfl (by kernel_rfl) (fun _ _ _ h=>h) (by assumption) ?_;refine bP 9 rfl (by kernel_rfl) (fun _ _ _ h=>h) (by assumption) ?_;refine bP 10 rfl (by kernel_rfl) (fun _ _ _ h=>h) (by assumption) ?_;refine bP 11 rfl (by kernel_rfl) (fun _ _ _ h=>h) (by assumption) ?_;refine bP 12 rfl (by kernel_rfl) (fun _ _ _ h=>h) (by assumption) ?_;refine bP 13 rfl (by kernel_rfl) (fun _ _ _ h=>h) (by assumption) ?_;refine bP 14 rfl (by kernel_rfl) (fun _ _ _ h=>h) (by assumption) ?_;refine bP 15 rfl (by kernel_rfl) (fun _ _ _ h=>h) (by assumption) ?_;refine bP 16 rfl (by kernel_rfl) (fun _ _ _ h=>h) (by assumption) ?_;refine bP 17 rfl (by kernel_rfl) (fun _ _ _ h=>h) (by assumption) ?_;refine bP 18 rfl (by kernel_rfl) (fun _ _ _ h=>h) (by assumption) ?_;refine bP 19 rfl (by kernel_rfl) (fun _ _ _ h=>h) (by assumption) ?_
  try simp only [Act.put,List.setIfInBounds_toArray,List.set_cons_zero,List.set_cons_succ]
  refine dB 20 (v:=?_) rfl (by kernel_rfl) (fun _ _ _ h=>h) ?_ (by assumption) ?_
  rotate_left
  ·(intro w U; (try dsimp only at U); go_simp); (first | done | with_reducible rfl)
  try simp only [Act.put,List.setIfInBounds_toArray,List.set_cons_zero,List.set_cons_succ]
  clear co;refine wpAnyH_done (by kernel_rfl) ?_ _;go_wp2;go_ret;exact ⟨aA HZ.out.symm,aa.out.drew⟩
end
section
open Go.RowKit D
theorem Nb (rs:List Ru) (xs ys:List A) (a1:∀ r ∈ rs,jr r) (a2:iF xs=true) (a3:xs.length≤16777216) (a4:iF ys=true) (a5:∀ y ∈ ys,aT y) (a6:ys.length≤300):
  ∀ (n:Nat) (p:Pf) (c0 c1 c2 c3 J U vy:Value) (bs br bx b3:List Nat) (w:World),dP n w [c0,c1,c2,c3] p bs→dD w [J] rs br→aQ w [U] xs bx→aQ w [vy] ys b3→aK p≤16777216→
   Calls Tryz.prog 43 #[J,U,vy,.agg #[c0,c1,c2,c3]] w fun e w'=>e=.returned (.bool (jw rs xs ys p))∧Below w.heap.size w w':=by
 intro n
 induction n with
 | zero=>exact fun p c0 c1 c2 c3 J U vy bs br bx b3 w h=>h.elim
 | succ n ih=>
  intro p c0 c1 c2 c3 J U vy bs br bx b3 w h hR hX hY hs;by_cases I:p.rule = -1∨¬ (0≤p.rule∧p.rule < (rs.length:Int))∨aW p.fact=false
  ·exact MZ rs xs ys a2 a3 (n+1) p c0 c1 c2 c3 J U vy bs br bx w h hR hX hs I
  ·have h1:0≤p.rule∧p.rule < (rs.length:Int):=Classical.byContradiction fun h=>I (.inr (.inl h))
   have h2:aW p.fact=true:=by
    cases hf:aW p.fact
    ·exact absurd (.inr (.inr hf)) I
    ·rfl
   have a0:p.rule.toNat < rs.length:=by omega
   exact J8 rs xs ys a4 a5 a6 n p c0 c1 c2 c3 J U vy bs br bx b3 w
    (fun p' d0 d1 d2 d3 bs' w' hb a7 a8=>ih p' d0 d1 d2 d3 J U vy bs' br bx b3 w' a7 (aI.below hR hb) (au.below hX hb) (au.below hY hb) a8)
    h hR hX hY hs p.rule.toNat (by omega) a0 h2 (a1 _ (δ a0))
end
section
open Go.RowKit D
attribute [local go_sem ↓] Go.wp_at_zero Go.wp_at_succ
theorem D.VH (rs:List Ru) (xs:List A):gB rs xs=(decide (xs.length≤40) && jg rs xs):=by
 unfold gB jg okB lT;by_cases h1:xs.length≤40
 ·have y:xs.length≤300:=by omega
  rw [decide_eq_true h1,decide_eq_true y];simp
 ·rw [decide_eq_false h1]
  simp
theorem Dw (rs:List Ru) (xs:List A) (I J:Value) (b1 b2:List Nat) (w:World) (h:dD w [I] rs b1) (U:aQ w [J] xs b2) (hg:oV w):
  Calls Tryz.prog 106 #[I,J] w fun e w'=>e=.returned (.bool (gB rs xs))∧Below w.heap.size w w':=by
 have c1:=DR rs xs I J b1 b2 w h U hg;have HE:=η (VH rs xs);obtain ⟨a1,cap2,rfl,_,_⟩:=ai U;clear h U hg;generalize jg rs xs=q at *;by_cases hl:(xs.length:Int)≤40
 ·have y:Hid (q=gB rs xs):=η (by rw [HE.out,decide_eq_true (by omega)]; simp)
  go_enter Tryz.func106,Tryz.ntmps106
  go_wp2_with (go_at_call 164; refine c1.mono ?_; rintro e w1 ⟨rfl,a0⟩)
  go_ret;exact ⟨aA y.out,a0⟩
 ·have y:Hid (false=gB rs xs):=η (by rw [HE.out,decide_eq_false (by omega)]; simp)
  go_enter Tryz.func106,Tryz.ntmps106
  go_wp2;go_ret;exact ⟨aA y.out,(Below.refl w.heap.size w)⟩
structure D.yZ (w:World) (b1:List Nat) (v:Value) (L:List Value) (xs:List Ru) (wr:World):Prop where
 coll:∃ bs,cu 3 jk (w.heap.size+1) 77 wr v L xs bs∧∀ b ∈ bs,b ∈ b1
 bel:Below w.heap.size w wr
theorem D.yZ.below {w wr w':World} {y:List Nat} {v:Value} {L:List Value} {xs:List Ru} (h:yZ w y v L xs wr) (I:Below wr.heap.size wr w'):yZ w y v L xs w':=
 ⟨by obtain ⟨J,hc,h1⟩:=h.coll; exact ⟨J,hc.below dL I,h1⟩,h.bel.trans (I.mono h.bel.size)⟩
def D.TA (rs:List Ru) (L:Nat):List Ru:=rs.filter fun r=>decide (iq rs r.head.name=L)
theorem D.TB (rs:List Ru) (L:Nat):OwnAt rs L (TA rs L):=fun r=>by unfold TA; rw [List.mem_filter,decide_eq_true_iff]
theorem D.U0 {rs:List Ru} (H:xX rs) {k:Nat} (hk:k < rs.length) (y:k < (aF rs).length):(aF rs)[k]=iq rs rs[k].head.name:=by
 have I:=(mJ H.cyc).2 k hk;have J:dI rs k=rs[k]:=by unfold dI; simp [List.getD,hk]
 have U:iw (aF rs) k=(aF rs)[k]:=by unfold iw; simp [List.getD,y]
 rw [← U,I,J]
structure D.U1 (rs:List Ru) (xs:List A) (L z:Nat) (own:List Ru) (fr:List Nat) (w W:World) (next:List Ru) (fs:List A) (rn:List Nat) (number:Nat) (wr:World):Prop where
 mid:pG rs xs L own next fs rn number
 sub:∀ q ∈ next,q ∈ own
 qM:je (z+3) (z+2) z (z+1) (fun _=>True) fr fs rn wr
 bel:Below w.heap.size w wr
 kep:∀ x ∈ fr,wr.heap[x]? = W.heap[x]?
theorem D.TD {own:List Ru} {new:List A} {y:List ByteArray} (h:∀ s,s ∈ y ↔ ∃ t ∈ new,t.name=s):(own.filter fun r=>r.body.any (kN y))=MW own new:=by
 classical
 unfold MW;refine List.filter_congr fun q _=>?_
 refine congrArg (fun f=>q.body.any f) (funext fun p=>?_);unfold kN;rw [decide_eq_decide.2 (h p.atom.name)]
theorem D.Dx {own:List Ru} {y:List ByteArray} (h:y = []):(own.filter fun r=>r.body.any (kN y)) = []:=by
 subst h;rw [List.filter_eq_nil_iff];intro q _ hq;obtain ⟨p,_,I⟩:=List.any_eq_true.1 hq;unfold kN at I;simp at I
def D.AP (rs:List Ru) (xs:List A) (w:World) (e:Ending) (w':World):Prop:=
 Below w.heap.size w w'∧((gB rs xs=true∧(iy rs xs).2=true∧∃ z fr fs rn,w.heap.size≤z∧e=.returned (.tuple #[.pointer (some ⟨z+2,0,none⟩),.bool true])∧je (z+3) (z+2) z (z+1) (fun _=>True) fr fs rn w'∧U6 fs rn (iy rs xs).1∧(∀ x ∈ fs,aT x)∧fs.length≤300) ∨
  ((gB rs xs=true→(iy rs xs).2=false)∧e=.returned (.tuple #[.pointer none,.bool false])))
theorem GI (rs:List Ru) (xs:List A) (v1 v2:Value) (b1 b2:List Nat) (w:World) (h:dD w [v1] rs b1) (h2:aQ w [v2] xs b2) (hg:oV w):
  Calls Tryz.prog 63 #[v1,v2] w (AP rs xs w):=by
 have c1:=Dw rs xs v1 v2 b1 b2 w h h2 hg;obtain ⟨Ad,cap,rfl,cb,cc⟩:=ai h;obtain ⟨e0,cap2,rfl,_,_⟩:=ai h2;have dz:=ay (τ cb cc);have HH:=η (ι h h2);obtain ⟨i0,hi,cK,cL,cP⟩:=info_parts EF;clear h h2 hg cb cc
 cases hf:gB rs xs with
 | false=>
  have HP:Hid (∀ w',Below w.heap.size w w'→AP rs xs w (.returned (.tuple #[.pointer none,.bool false])) w'):=η fun w' hb=>⟨hb,.inr ⟨Φ hf,rfl⟩⟩
  rw [hf] at c1;clear hf
  go_enter Tryz.func63,Tryz.ntmps63
  go_wp2_with fail
  refine c1.mono ?_;rintro e w1 ⟨rfl,az⟩;have HB:=η az;clear c1 az;go_wp2;go_ret2;exact HP.out _ HB.out
 | true=>
  have hK:=qB hf;have HF:=η hf;rw [hf] at c1;clear hf
  go_enter Tryz.func63,Tryz.ntmps63
  go_wp2_with fail
  refine c1.mono ?_;rintro e w1 ⟨rfl,az⟩;have ao:=η az;clear c1 az;have hR:=U5 ((oP rs).2 hK.fine);have aD:∀ f ∈ xs,aT f:=fun f hf=>yU (hK.facts f hf)
  have c2:=JL xs _ b2 w1 (au.below HH.out.2 ao.out) aD (jY hK.iF) (by have:=hK.n; omega)
  go_wp2_with fail
  refine c2.mono ?_;rintro e w2 ⟨rfl,hS⟩;obtain ⟨cd,cg⟩:=hS.qM (fun x hx=>κ (au.lt HH.out.2 x hx) ao.out.size);have bo:=η (ao.out.trans (cd.mono ao.out.size));have ci:=η cg;clear hS cg cd c2;have c3:=xH rs _ b1 w2 (aI.below HH.out.1 bo.out) hK.m hK.ok
  go_wp2_with fail
  refine c3.mono ?_;rintro e w3 ⟨bA,a9⟩;clear c3
  rcases a9 with ⟨bw,_⟩ | ⟨_,v5,b5,rfl,aE,aL⟩
  ·have:=hK.fine.no
   rw [this] at bw; cases bw
  ·obtain ⟨A5,c5,rfl,_,_⟩:=ai aE
   have a1:je (w1.heap.size+3) (w1.heap.size+2) w1.heap.size (w1.heap.size+1) (fun _=>True) b5 xs (List.replicate xs.length 0) w3:=by
    have:=(ci.out.mono (Fb':=fun _=>True) fun _ _ _=>trivial).more bA b5 fun x hx=>⟨(aL.own x hx).1,aL.lt hx⟩
    simpa using this
   have cj:Hid (pF rs xs 0 xs (List.replicate xs.length 0) 0):=η (all_start hK.iF aD (by have:=hK.n; omega));have ck:=η a1;have cl:=η (bo.out.trans (bA.mono bo.out.size));have cm:=η aE;have cQ:Hid ((aF rs).length=rs.length):=η (fF rs);clear a1 aE aL bA ci;have ap:=η hR;have HK:=η hK;have cn:=η ao.out.size;have cT:rs.length≤8:=hK.m;clear aD hR hK;go_wp2;generalize w1.heap.size=z at *;clear ao bo
   go_loopw [9,30] (fun v9 i wr=>∃ (L:Nat) (fs:List A) (rn:List Nat) (number:Nat),L≤rs.length∧i=.int .i64 L∧v9=.int .i64 number∧pF rs xs L fs rn number∧je (z+3) (z+2) z (z+1) (fun _=>True) b5 fs rn wr∧Below w.heap.size w wr∧∀ x ∈ b5,wr.heap[x]? = w3.heap[x]?) (fun _ i _=>rs.length - (intOf i).toNat)
   case atStart=>exact ⟨0,xs,_,0,ε,rfl,rfl,cj.out,ck.out,cl.out,fun x _=>rfl⟩
   case round=>
    obtain ⟨L,fs,rn,number,hL,rfl,rfl,a6,a1,af,aM⟩:=hrel;clear cj ck cl;have cU:=η a6;have aR:=η a1;have b3:=η af;have bx:=η aM;by_cases a7:L < rs.length
    ·have co:Hid (yZ wr b1 (.slice none 0 0) [] [] wr):=η ⟨⟨[],cu.nil _,fun b hb=>by simp at hb⟩,ϑ⟩
     have e1:(0:Int)≤(L:Int):=by omega
     have cV:(L:Int) < (rs.length:Int):=by omega
     have b4:=η a7;clear a6 a1 af aM;obtain ⟨W0,cW⟩:∃ W0,W0=wr:=⟨_,rfl⟩;subst cW;go_wp2
     go_loopw [11,35] (fun v i cX=>∃ (k:Nat) (Av:Option Addr) (cp:Nat) (M:List Value) (ys:List Ru),k≤rs.length∧i=.int .i64 k∧v=.slice Av ys.length cp∧ys=(rs.take k).filter (fun r=>decide (iq rs r.head.name=L))∧yZ W0 b1 (.slice Av ys.length cp) M ys cX) (fun _ i _=>rs.length - (intOf i).toNat)
     case atStart=>exact ⟨0,none,0,[],[],ε,rfl,rfl,rfl,co.out⟩
     case round=>
      obtain ⟨k,Av,cp,M,ys,hk,rfl,rfl,bB,hV⟩:=hrel;clear co;have HY:=η bB
      have bE:Hid (ys.length≤1000000):=η (by
       rw [bB];refine τ (List.length_filter_le _ _) ?_
       rw [List.length_take]; omega)
      clear bB;have hB:=b3.out.trans (hV.bel.mono b3.out.size);by_cases a7:k < rs.length
      ·obtain ⟨b,o,Ae,ce,Af,cf,bk,rfl,_,d0,d1,d2,bL,bz⟩:=eF HH.out.1 a7
       replace d0:=ξ hB d0;replace d1:=ξ hB d1;replace d2:=ξ hB d2;have aa:k < (aF rs).length:=by rw [cQ.out]; exact a7
       obtain ⟨b7,o7,rfl,cq,e7⟩:=oQ cm.out aa;have e8:wr.cell? ⟨b7,o7+k,none⟩=some (.int .i64 ((aF rs)[k]:Nat)):=(World.cell?_of_block ((hV.bel.block b7 (aR.out.lt.2.2 _ cq)).trans (bx.out _ cq))).trans e7;have e2:(0:Int)≤(k:Int):=by omega
       have cY:(k:Int) < (rs.length:Int):=by omega
       have e3:(k:Int) < ((aF rs).length:Int):=by omega
       have bp:=U0 ap.out a7 aa;have hA:Below wr.heap.size wr (wr.alloc (.cells #[.string rs[k].head.name,.slice Ae rs[k].head.args.length ce,.slice Af rs[k].body.length cf] 77)):=ζ;have bO:=η (hV.below hA);have d3:=η (dL.below (dL.below bL hB) hA);have cr:=η (zK (fun r:Ru=>decide (iq rs r.head.name=L)) rs k a7);have d4:Hid (∀ c ∈ bk,c < W0.heap.size):=η fun c hc=>κ (dL.lt bL c hc) b3.out.size
       have cv:=η bz;have e4:W0.heap.size≤wr.heap.size:=hV.bel.size;have e5:=lt_of_cell e8;clear bL bz hV hA hB e7;generalize (aF rs)[k]=lv at *;generalize rs[k]=r at *;obtain ⟨⟨nm,args⟩,body⟩:=r;dsimp only at *;have ag:=η a7;clear a7 aa;by_cases hq:lv=L
       ·have d5:((lv:Int) == (L:Int))=true:=beq_iff_eq.2 (by omega)
        have HQ:Hid ((rs.take (k+1)).filter (fun r=>decide (iq rs r.head.name=L))=ys ++ [(⟨⟨nm,args⟩,body⟩:Ru)]):=η (by rw [cr.out,HY.out,if_pos (by simp [← bp,hq])]);have bq:Below (wr.alloc (.cells #[.string nm,.slice Ae args.length ce,.slice Af body.length cf] 77)).heap.size (wr.alloc (.cells #[.string nm,.slice Ae args.length ce,.slice Af body.length cf] 77)) ((wr.alloc (.cells #[.string nm,.slice Ae args.length ce,.slice Af body.length cf] 77)).alloc (.cells #[.string nm,.slice Ae args.length ce,.slice Af body.length cf] 77)):=ζ;obtain ⟨d6,aq,b8⟩:=(bO.out.below bq).coll;have HC:=η aq;have d7:=η b8;have HB:=η (bO.out.below bq).bel;have HR:Hid (aV 3 jk ((wr.alloc (.cells #[.string nm,.slice Ae args.length ce,.slice Af body.length cf] 77)).alloc (.cells #[.string nm,.slice Ae args.length ce,.slice Af body.length cf] 77)) [.string nm,.slice Ae args.length ce,.slice Af body.length cf] [(⟨⟨nm,args⟩,body⟩:Ru)] bk):=η (aV.dY Bf (dL.below d3.out bq))
        have HL:Hid (Lies ((wr.alloc (.cells #[.string nm,.slice Ae args.length ce,.slice Af body.length cf] 77)).alloc (.cells #[.string nm,.slice Ae args.length ce,.slice Af body.length cf] 77)) (some ⟨wr.heap.size+1,0,none⟩) [.string nm,.slice Ae args.length ce,.slice Af body.length cf]):=η (by
         have:=aS (ω (wr.alloc (.cells #[.string nm,.slice Ae args.length ce,.slice Af body.length cf] 77)) (.cells #[.string nm,.slice Ae args.length ce,.slice Af body.length cf] 77))
         simpa using this)
        have HF:Hid (∀ c,c < W0.heap.size+1→(Value.slice Av ys.length cp).ownBlock ≠ some c):=η fun c hc=>aO aq.own hc
        have b9:W0.heap.size+1≤((wr.alloc (.cells #[.string nm,.slice Ae args.length ce,.slice Af body.length cf] 77)).alloc (.cells #[.string nm,.slice Ae args.length ce,.slice Af body.length cf] 77)).heap.size:=by simp; omega
        have d8:=η b9;clear aq b8 bq b9 bp hq
        go_wp2_with (at_builtin; refine gU rfl _ _ _ rfl (W0.heap.size+1) 77 i0 (.agg #[.string ⟨#[]⟩,.slice none 0 0,.slice none 0 0]) 3 64 Tryz.underlying34 hi cK cL cP rfl (by omega) dL (.slice Av ys.length cp) ys.length _ _ _ rfl HC.out rfl (some ⟨wr.heap.size+1,0,none⟩) 1 1 _ [⟨⟨nm,args⟩,body⟩] _ rfl HR.out rfl HL.out (fun c hc=>HF.out c (by have:=d4.out c hc; omega)) (by have:=bE.out; unfold maxLen; omega) (by have:=bE.out; omega) W0 W0.heap.size HB.out (Nat.le_succ _) d8.out ?_; intro A9 d9 w9 cw cx da db)
        have dc:Hid (yZ W0 b1 (.slice A9 (ys ++ [(⟨⟨nm,args⟩,body⟩:Ru)]).length d9) (M ++ [.string nm,.slice Ae args.length ce,.slice Af body.length cf]) (ys ++ [(⟨⟨nm,args⟩,body⟩:Ru)]) w9):=η ⟨⟨_,by rw [χ]; exact cw,fun b hb=>(μ.1 hb).elim (d7.out b) (cv.out b)⟩,cx⟩;have cy:ys.length+1=(ys ++ [(⟨⟨nm,args⟩,body⟩:Ru)]).length:=by simp
        rw [cy];clear cw cx da db HC HB HR HL HF cy;go_roundw
        case rel=>exact ⟨k+1,_,_,_,_,ag.out,by go_num,rfl,HQ.out.symm,dc.out⟩
        case measure=>have:=ag.out; simp [intOf]; omega
       ·have d5:((lv:Int) == (L:Int))=false:=by
         rw [beq_eq_false_iff_ne]; omega
        have HQ:Hid ((rs.take (k+1)).filter (fun r=>decide (iq rs r.head.name=L))=ys):=η (by rw [cr.out,HY.out,if_neg (by simp [← bp,hq])]);clear bp hq;go_wp2;go_roundw
        case rel=>exact ⟨k+1,_,_,_,_,ag.out,by go_num,rfl,HQ.out.symm,bO.out⟩
        case measure=>have:=ag.out; simp [intOf]; omega
      ·have de:k=rs.length:=by omega
       have cY:¬ (k:Int) < (rs.length:Int):=by omega
       have cz:Hid (ys=TA rs L):=η (by rw [HY.out,ϕ (Nat.le_of_eq de.symm)]; rfl);obtain ⟨d6,aq,b8⟩:=hV.coll;obtain ⟨b6,br,y⟩:=aq.slice;obtain ⟨a0,bs⟩:∃ a0,a0=b5 ++ b6.filter (fun b=>decide (W0.heap.size≤b)):=⟨_,rfl⟩
       have bc:je (z+3) (z+2) z (z+1) (fun _=>True) a0 fs rn wr:=bs ▸ aR.out.more hV.bel _ fun x hx=>by
        obtain ⟨h1,h2⟩:=List.mem_filter.1 hx;exact ⟨of_decide_eq_true h2,aI.lt br x h1⟩
       have cA:Hid (∀ w',Below w.heap.size w w'→(∀ x ∈ a0,w'.heap[x]? = wr.heap[x]?)→dD w' [.slice Av ys.length cp] ys b6):=η fun w' h1 h2=>aI.keep br fun b hb=>by
        by_cases dg:W0.heap.size≤b
        ·exact h2 b (bs ▸ Ω _ (List.mem_filter.2 ⟨hb,decide_eq_true dg⟩))
        ·rcases y b hb with h3 | h3
         ·omega
         ·have h4:=aI.lt HH.out.1 b (b8 b h3)
          exact (h1.block b h4).trans (hB.block b h4).symm
       have cB:Hid (∀ x ∈ b5,x ∈ a0):=η fun x hx=>bs ▸ Ξ _ hx
       have di:Hid (∀ x ∈ b5,wr.heap[x]? = w3.heap[x]?):=η fun x hx=>(hV.bel.block x (aR.out.lt.2.2 x hx)).trans (bx.out x hx)
       have e6:=η hB;have a2:pG rs xs L ys ys fs rn number:=cU.out.enter;have cD:Hid (U1 rs xs L z ys a0 w wr ys fs rn number wr):=η ⟨a2,fun q hq=>hq,bc,hB,fun x _=>rfl⟩;have cE:Hid (dD wr [.slice Av ys.length cp] ys b6):=η br;clear hV aq br y bs bc hB a2 HY b8;obtain ⟨W9,dj⟩:∃ W9,W9=wr:=⟨_,rfl⟩;subst dj;go_wp2
       go_loopg [9,14] 1000 (fun gg v9 dk cG=>∃ (next:List Ru) (bR:Option Addr) (bX:Nat) (c0:List Nat) (I:List A) (a4:List Nat) (J:Nat),v9=.int .i64 J∧dk=.slice bR next.length bX∧2 * (300 - I.length)+(if next = [] then 0 else 1)≤gg∧Aside (U1 rs xs L z ys a0 w W9 next I a4 J cG)∧Aside (dD cG [.slice bR next.length bX] next c0))
       case atStart=>exact ⟨ys,Av,cp,b6,fs,rn,number,rfl,rfl,by split <;> omega,cD.out,cE.out⟩
       case round=>
        obtain ⟨next,bR,bX,c0,I,a4,J,rfl,rfl,bt,a5,c4⟩:=hrel;clear cD cE;by_cases bf:next = []
        ·subst bf
         have HD:Hid (pF rs xs (L+1) I a4 J∧je (z+3) (z+2) z (z+1) (fun _=>True) b5 I a4 wr∧Below w.heap.size w wr∧∀ x ∈ b5,wr.heap[x]? = w3.heap[x]?):=η ⟨a5.out.mid.done ap.out (Nat.le_of_lt b4.out) (cz.out ▸ TB rs L),a5.out.qM.sub cB.out,a5.out.bel,fun x hx=>(a5.out.kep x (cB.out x hx)).trans (di.out x hx)⟩;clear a5 c4 bt;go_wp2;go_roundw
         case rel=>exact ⟨L+1,I,a4,J,b4.out,by go_num,rfl,HD.out⟩
         case measure=>have:=b4.out; simp [intOf]; omega
        ·have dC:0 < next.length:=List.length_pos_iff.2 bf
         rw [if_neg bf] at bt;have e9:(0:Int) < (next.length:Int):=by omega
         obtain ⟨c6,dl,ea,am⟩:=a5.out.mid.few;have ab:OwnAt rs L ys:=cz.out ▸ TB rs L;have ac:=PV (z+3) (z+2) z (z+1) (fun _=>True) (fun _ _=>trivial) a0 I a4 next _ c0 (J+1) w.heap.size wr a5.out.qM c4.out am c6 (by omega) (fun r hr=>ap.out.fol r ((ab r).1 (a5.out.sub r hr)).1) (by have:=cn.out; omega);have dE:(0:Int)≤(J:Int):=by omega
         have dT:(J:Int)≤300:=by omega
         have bg:((J+1:Nat):Int)=(J:Int)+1:=by omega
         rw [bg] at ac;clear bg;have HG:=η bt;have cI:=η bf;have bh:=η a5.out;have cJ:=η ab;clear bt bf a5 c4 am ab dl
         go_wp2_with fail
         refine ac.mono ?_;rintro e w5 ⟨bi,a9⟩;clear ac
         rcases a9 with ⟨new,mc,n,Lm,fm,rfl,ar,bj,av,c7,aw,aa,bu,eb,bl,c8⟩ | ⟨rfl,new,ar,bj,av⟩
         ·have U:=bh.out.bel.trans bi
          have a3:∀ x ∈ a0,w5.heap[x]? = W9.heap[x]?:=fun x hx=>(aa x hx).trans (bh.out.kep x hx)
          have a2:=bh.out.mid.round ap.out (Nat.le_of_lt b4.out) cJ.out cI.out ar av c7;have HT:=η (Jl mc n Lm fm ys (.slice Av ys.length cp) b6 w5 (cA.out w5 U a3) bu c8 bE.out);have bv:=η bu;by_cases hz:new = []
          ·have ae:Lm = []:=List.eq_nil_iff_forall_not_mem.2 fun s hs=>by
            obtain ⟨t,ht,_⟩:=(bl s).1 hs;rw [hz] at ht; simp at ht
           have bn:je (z+3) (z+2) z (z+1) (fun _=>True) a0 I a4 w5:=by
            rw [hz] at aw; simpa using aw
           have HN:Hid ((ys.filter fun r=>r.body.any (kN Lm)) = []∧∀ w6,Below w5.heap.size w5 w6→U1 rs xs L z ys a0 w W9 (ys.filter fun r=>r.body.any (kN Lm)) I a4 J w6):=η ⟨Dx ae,fun w6 y=>by
            rw [Dx ae]
            exact ⟨a2.1 hz,fun q hq=>by simp at hq,bn.later y,U.trans (y.mono U.size),fun x hx=>(y.block x (bn.lt.2.2 x hx)).trans (a3 x hx)⟩⟩
           have dp:(Lm.length:Int)=0:=by rw [ae]; rfl
           clear bi aw bn aa bu bl c8 U a3 a2 ae ar bj av c7
           go_wp2_with (at_len; refine gy _ rfl _ _ rfl Tryz.underlying112 _ _ Lm _ rfl bv.out ?_)
           go_wp2_with fail
           refine HT.out.mono ?_;rintro e w6 ⟨y,ds,dt,du,rfl,a8⟩;have c9:=η (HN.out.2 w6 y);have ca:=η a8;have dv:=η HN.out.1;clear y a8 HT HN bv;go_wp2
           go_roundg (2 * (300 - I.length))
           case measure=>have:=HG.out; omega
           case rel=>exact ⟨_,_,_,_,I,a4,J,rfl,rfl,by rw [if_pos dv.out]; omega,c9.out,ca.out⟩
          ·have ec:0 < new.length:=List.length_pos_iff.2 hz
           have ae:Lm ≠ []:=fun e=>by
            obtain ⟨t,ht⟩:=List.exists_mem_of_ne_nil _ hz;have:=(bl t.name).2 ⟨t,ht,rfl⟩;rw [e] at this; simp at this
           have dp:(0:Int) < (Lm.length:Int):=by have:=List.length_pos_iff.2 ae; omega
           have HN:Hid (∀ w6,Below w5.heap.size w5 w6→U1 rs xs L z ys a0 w W9 (ys.filter fun r=>r.body.any (kN Lm)) (I ++ new) (a4 ++ List.replicate new.length (J+1)) (J+1) w6):=η fun w6 y=>by
            have h1:=a2.2 hz;rw [← TD bl] at h1;exact ⟨h1,fun q hq=>(List.mem_filter.1 hq).1,aw.later y,U.trans (y.mono U.size),fun x hx=>(y.block x (aw.lt.2.2 x hx)).trans (a3 x hx)⟩
           have dx:Hid (2 * (300 - (I ++ new).length)+1 < 2 * (300 - I.length)+1):=η (by rw [χ]; omega);clear bi aw aa bu bl c8 U a3 a2 ae ar bj av c7
           go_wp2_with (at_len; refine gy _ rfl _ _ rfl Tryz.underlying112 _ _ Lm _ rfl bv.out ?_)
           go_wp2_with fail
           refine HT.out.mono ?_;rintro e w6 ⟨y,ds,dt,du,rfl,a8⟩;have c9:=η (HN.out w6 y);have ca:=η a8;clear y a8 HT HN bv;go_wp2
           go_roundg (2 * (300 - (I ++ new).length)+1)
           case measure=>have:=HG.out; have:=dx.out; omega
           case rel=>exact ⟨_,_,_,_,I ++ new,_,J+1,by go_num,rfl,by split <;> omega,c9.out,ca.out⟩
         ·have HP:Hid (AP rs xs w (.returned (.tuple #[.pointer none,.bool false])) w5):=η ⟨bh.out.bel.trans bi,.inr ⟨fun _=>bh.out.mid.over ap.out (Nat.le_of_lt b4.out) cJ.out cI.out ar bj av,rfl⟩⟩
          clear bi ar bj av;go_wp2;go_ret2;exact HP.out
    ·have dy:L=rs.length:=by omega
     have cV:¬ (L:Int) < (rs.length:Int):=by omega
     have HP:Hid (AP rs xs w (.returned (.tuple #[.pointer (some ⟨z+2,0,none⟩),.bool true])) wr):=η (by
      rw [dy] at a6;obtain ⟨h1,h2,h3,h4,h5⟩:=a6.fin ap.out
      exact ⟨af,.inl ⟨HF.out,h1,z,b5,fs,rn,cn.out,rfl,a1,h2,h4,h5⟩⟩)
     clear a6 a1 af aM;go_wp2;go_ret2;exact HP.out
theorem D.y8 {rs:List Ru} {xs:List A} (h:gB rs xs=true) (I:(iy rs xs).2=true):oG (iy rs xs).1∧(∀ x ∈ (iy rs xs).1.1,aT x)∧(iy rs xs).1.1.length≤300∧∀ t,t ∈ (iy rs xs).1.1 ↔ UL rs (fun x=>x ∈ xs) t:=by
 have hK:=qB h
 rcases SL (U5 ((oP rs).2 hK.fine)) hK.iF (fun f hf=>yU (hK.facts f hf)) (by have:=hK.n; omega) with ⟨_,y,J,U,h6⟩ | ⟨y,_⟩
 ·exact ⟨J,U,y,h6⟩
 ·rw [I] at y; cases y
theorem D.J9 {rs:List Ru} {xs:List A} (h:gB rs xs=true) (y:(iy rs xs).2=true):fH rs xs=((iy rs xs).1.1,true):=by unfold fH; rw [if_pos h,if_pos y]
theorem D.NP {rs:List Ru} {xs:List A} (h:gB rs xs=true→(iy rs xs).2=false):fH rs xs=([],false):=by
 unfold fH;by_cases y:gB rs xs=true
 ·rw [if_pos y,h y]; rfl
 ·rw [if_neg y]
theorem PW (rs:List Ru) (xs:List A) (v1 v2:Value) (b1 b2:List Nat) (w:World) (h:dD w [v1] rs b1) (h2:aQ w [v2] xs b2) (hg:oV w):
  Calls Tryz.prog 41 #[v1,v2] w fun e w'=>Below w.heap.size w w'∧∃ Av cp bs,e=.returned (.tuple #[.slice Av (fH rs xs).1.length cp,.bool (fH rs xs).2])∧aQ w' [.slice Av (fH rs xs).1.length cp] (fH rs xs).1 bs:=by
 have c1:=GI rs xs v1 v2 b1 b2 w h h2 hg;obtain ⟨Ad,cap,rfl,a7,a8⟩:=ai h;obtain ⟨ac,cap2,rfl,_,_⟩:=ai h2;clear h h2 hg a7 a8
 go_enter Tryz.func41,Tryz.ntmps41
 go_wp2_with fail
 refine c1.mono ?_;rintro e w1 ⟨y,a2⟩;clear c1
 rcases a2 with ⟨hok,I,z,fr,fs,rn,hz,rfl,a4,U,a0,hlen⟩ | ⟨a5,rfl⟩
 ·obtain ⟨Af,cf,Lf,Ar,cr,Lr,ou,bf,S,_,_⟩:=a4
  have hC:=S.cF;have c2:=Gz fs _ Lf bf (z+3) w1 hC (by omega);have x0:w1.cell? ⟨z+2,0,none⟩=some (.slice Af fs.length cf):=aj S.blk;have lx:=lt_of_cell x0
  have hE:Hid (∀ w2 ys L' bs',ys.Perm fs→ys.Pairwise (fun a b=>¬ dJ b a < 0)→cu 2 aP (z+3) 40 w2 (.slice Af fs.length cf) L' ys bs'→fV (fun x=>(Value.slice Af fs.length cf).ownBlock=some x) w1 w2→
    w2.cell? ⟨z+2,0,none⟩=some (.slice Af fs.length cf)∧Below w.heap.size w w2∧(fH rs xs).2=true∧(fH rs xs).1.length=fs.length∧∃ b9,aQ w2 [.slice Af fs.length cf] (fH rs xs).1 b9):=η fun w2 ys L' bs' q1 q2 q3 J=>by
   have a6:∀ x,(Value.slice Af fs.length cf).ownBlock=some x→z+3≤x:=fun x hx=>by
    have h9:¬ x < z+3:=fun h=>aO hC.own h hx
    exact Nat.le_of_not_lt h9
   obtain ⟨r1,r2,r3,r4⟩:=y8 hok I;have a3:=U.fst r1;have a1:∀ t ∈ ys,aT t:=fun t ht=>a0 t (q1.mem_iff.1 ht)
   have a9:ys.Nodup:=(q1.trans a3).nodup_iff.2 (jY r1.iF);have aa:ys=(iy rs xs).1.1:=SG (Na a1 a9 q2) r1.iF a1 r2 fun t=>by rw [q1.mem_iff,a3.mem_iff]
   obtain ⟨b9,ab,_⟩:=q3.slice;rw [J9 hok I];refine ⟨(World.cell?_of_block (J.block (z+2) (lt_of_cell x0) (fun e=>by have:=a6 (z+2) e; omega))).trans x0,⟨J.os.trans y.os,J.tape.trans y.tape,J.output.trans y.output,τ y.size J.size,fun k hk=>(J.block k (κ hk y.size) fun e=>by have:=a6 k e; omega).trans (y.block k hk)⟩,rfl,a3.length_eq.symm,b9,?_⟩;rw [← aa];exact ab
  clear S hC U a0 y hok I
  go_wp2_with fail
  refine c2.mono ?_;rintro e w2 ⟨rfl,ys,L',bs',q1,q2,_,J,q5⟩;obtain ⟨y0,y1,y2,y3,b9,y4⟩:=hE.out w2 ys L' bs' q1 q2 J q5;have HB:=η y1;have H4:=η y4;have H2:=η y2;have H3:=η y3;clear hE c2 q1 q2 J q5 y1 y4 y2 y3 x0;go_wp2;go_ret2;rw [H2.out,H3.out];exact ⟨HB.out,Af,cf,b9,rfl,H4.out⟩
 ·have HE:=η (NP a5)
  clear a5;go_wp2;go_ret2;rw [HE.out];exact ⟨y,none,0,[],rfl,⟨none,0,rfl,ν,ε,fun _=>rfl,fun h=>absurd rfl h⟩⟩
def D.Nc (rs:List Ru) (xs:List A) (p:Pf):Bool:=(fH rs xs).2 && decide (aK p≤60) && sU rs xs (fH rs xs).1 p
theorem D.yc {rs:List Ru} {xs:List A} (h:(fH rs xs).2=true):zN rs xs∧iF (fH rs xs).1=true∧(fH rs xs).1.length≤300:=by
 unfold fH at h ⊢;by_cases h1:gB rs xs=true
 ·rw [if_pos h1] at h ⊢
  by_cases y:(iy rs xs).2=true
  ·rw [if_pos y]
   obtain ⟨r1,J,I,U⟩:=y8 h1 y;exact ⟨qB h1,r1.iF,I⟩
  ·rw [if_neg y] at h
   cases h
 ·rw [if_neg h1] at h
  cases h
theorem D.zN.mod {rs:List Ru} {xs:List A} (h:zN rs xs):VQ rs:=fun r hr=>⟨τ (h.rules r hr).1 (by omega),(h.rules r hr).2⟩
theorem GK (rs:List Ru) (xs:List A) (n:Nat) (p:Pf) (v1 v2 c0 c1 c2 c3:Value) (b1 b2 bs:List Nat) (w:World) (hR:dD w [v1] rs b1) (hX:aQ w [v2] xs b2) (h:dP n w [c0,c1,c2,c3] p bs) (hs:aK p≤16777216):
  Calls Tryz.prog 10 #[v1,v2,.agg #[c0,c1,c2,c3]] w fun e w'=>e=.returned (.bool (Nc rs xs p))∧Below w.heap.size w w':=by
 cases n with
 | zero=>exact h.elim
 | succ n=>
 have HP:=η h;obtain ⟨Ad,cap,Ae,a2,q1,q2,rfl,rfl,rfl,rfl,rfl,_,_,_⟩:=gV h;obtain ⟨W,hW⟩:∃ W,W=w.alloc (.cells #[.string p.fact.name,.slice Ad p.fact.args.length cap,.int .i64 p.rule,.slice Ae p.kids.length a2] 43):=⟨_,rfl⟩;have hA:Below w.heap.size w W:=by rw [hW]; exact (Below.refl w.heap.size w).alloc ν _
 have hE:=eval_any rs xs v1 v2 b1 b2 W (aI.below hR hA) (au.below hX hA);have y0:W.cell? ⟨w.heap.size,0,none⟩=some (.string p.fact.name):=by rw [hW]; go_simp
 have y1:W.cell? ⟨w.heap.size,1,none⟩=some (.slice Ad p.fact.args.length cap):=by rw [hW]; go_simp
 have y2:W.cell? ⟨w.heap.size,2,none⟩=some (.int .i64 p.rule):=by rw [hW]; go_simp
 have y3:W.cell? ⟨w.heap.size,3,none⟩=some (.slice Ae p.kids.length a2):=by rw [hW]; go_simp
 have a3:=η (fun (w':World) (hb:Below w.heap.size w w')=>BL (n+1) p _ _ _ _ (q1 ++ q2) w' ((cZ (n+1)).below HP.out hb) hs);have a4:=η (fun (hin:(fH rs xs).2=true) (v:Value) (b3:List Nat) (w':World) (hb:Below w.heap.size w w') (hy:aQ w' [v] (fH rs xs).1 b3)=>UW rs xs (fH rs xs).1 (yc hin).1.mod (yc hin).1.iF (yc hin).2.1 (n+1) p _ _ _ _ v1 v2 v (q1 ++ q2) b1 b2 b3 w' ((cZ (n+1)).below HP.out hb) (aI.below hR hb) (au.below hX hb) hy hs);have J:Hid (Nc rs xs p=((fH rs xs).2 && decide (aK p≤60) && sU rs xs (fH rs xs).1 p)):=η rfl;have HA:=η hA;clear hR hX hA hs h HP;generalize Nc rs xs p=OUT at *;generalize hev:fH rs xs=EV at *;obtain ⟨ys,ok⟩:=EV;dsimp only at *;generalize sU rs xs ys p=OKP at *;clear hev;cases ok
 ·clear a3 a4
  go_enter Tryz.func10,Tryz.ntmps10
  go_wp2_with (rw [← hW]; go_at_call 36; refine hE.mono ?_; rintro e w1 ⟨y,v,b3,rfl,hy⟩)
  go_wp2;go_ret;exact ⟨aA (by rw [J.out]; rfl),HA.out.trans (y.mono HA.out.size)⟩
 ·by_cases a1:aK p≤60
  ·have a5:(aK p:Int)≤60:=by omega
   have HD:Hid (OUT=OKP):=η (by rw [J.out,decide_eq_true a1]; rfl);clear a1 J
   go_enter Tryz.func10,Tryz.ntmps10
   go_wp2_with (first
    | (rw [← hW]; go_at_call 36; refine hE.mono ?_; rintro e w1 ⟨y,v,b3,rfl,hy⟩; have U:=HA.out.trans (y.mono HA.out.size); replace y0:=ξ y y0; replace y1:=ξ y y1; replace y2:=ξ y y2; replace y3:=ξ y y3)
    | (go_at_call 25; refine (a3.out _ U).mono ?_; rintro e w2 ⟨rfl,I⟩; have a0:=U.trans (I.mono U.size); replace y0:=ξ I y0; replace y1:=ξ I y1; replace y2:=ξ I y2; replace y3:=ξ I y3)
    | (go_at_call 37; refine (a4.out (by trivial) _ _ _ a0 (au.below hy I)).mono ?_; rintro e w3 ⟨rfl,a6⟩; have a7:=a0.trans (a6.mono a0.size)))
   go_wp2;go_ret;exact ⟨aA HD.out.symm,a7⟩
  ·have a5:¬ (aK p:Int)≤60:=by omega
   have HD:Hid (OUT=false):=η (by rw [J.out,decide_eq_false a1]; rfl);clear a1 J a4
   go_enter Tryz.func10,Tryz.ntmps10
   go_wp2_with (first
    | (rw [← hW]; go_at_call 36; refine hE.mono ?_; rintro e w1 ⟨y,v,b3,rfl,hy⟩; have U:=HA.out.trans (y.mono HA.out.size); replace y0:=ξ y y0; replace y1:=ξ y y1; replace y2:=ξ y y2; replace y3:=ξ y y3)
    | (go_at_call 25; refine (a3.out _ U).mono ?_; rintro e w2 ⟨rfl,I⟩; have a0:=U.trans (I.mono U.size); replace y0:=ξ I y0; replace y1:=ξ I y1; replace y2:=ξ I y2; replace y3:=ξ I y3))
   go_wp2;go_ret;exact ⟨aA HD.out.symm,a0⟩
theorem GL (rs:List Ru) (xs:List A) (n:Nat) (p:Pf) (v1 v2 c0 c1 c2 c3:Value) (b1 b2 bs:List Nat) (w:World) (hR:dD w [v1] rs b1) (hX:aQ w [v2] xs b2) (h:dP n w [c0,c1,c2,c3] p bs) (hw:∀ b ∈ bs,V6 w b) (hs:aK p≤16777216) (hg:oV w):
  Calls Tryz.prog 14 #[v1,v2,.agg #[c0,c1,c2,c3]] w fun e w'=>e=.returned (.bool (Nc rs xs p))∧Below w.heap.size w w':=by
 obtain ⟨Ad,cap,Ae,I,rfl,rfl,rfl,rfl⟩:∃ Ad cap Ae I,c0=.string p.fact.name∧c1=.slice Ad p.fact.args.length cap∧c2=.int .i64 p.rule∧c3=.slice Ae p.kids.length I:=by
  cases n with
  | zero=>exact h.elim
  | succ n=>
   obtain ⟨Ad,cap,Ae,I,_,_,e0,e1,e2,e3,_⟩:=gV h;exact ⟨Ad,cap,Ae,I,e0,e1,e2,e3⟩
 have hB:Below w.heap.size w (w.alloc (.cells #[.string p.fact.name,.slice Ad p.fact.args.length cap,.int .i64 p.rule,.slice Ae p.kids.length I] 43)):=(Below.refl w.heap.size w).alloc ν _;have a9:=(cZ n).lt h
 have aa:AtP (w.heap.size :: bs) (w.alloc (.cells #[.string p.fact.name,.slice Ad p.fact.args.length cap,.int .i64 p.rule,.slice Ae p.kids.length I] 43)) ⟨w.heap.size,0,none⟩ p:=by
  refine ⟨n,w.heap.size,0,[.string p.fact.name,.slice Ad p.fact.args.length cap,.int .i64 p.rule,.slice Ae p.kids.length I],bs,rfl,Γ,rfl,fun j v hv=>?_,(cZ n).below h hB,fun c hc=>Δ _ hc⟩;have:=ω w (.cells #[.string p.fact.name,.slice Ad p.fact.args.length cap,.int .i64 p.rule,.slice Ae p.kids.length I] 43);simp only [World.cell?,this];simpa using hv
 obtain ⟨W,hW⟩:∃ W,W=w.alloc (.cells #[.string p.fact.name,.slice Ad p.fact.args.length cap,.int .i64 p.rule,.slice Ae p.kids.length I] 43):=⟨_,rfl⟩;have af:W.heap.size=w.heap.size+1:=by rw [hW]; simp
 have a3:W.heap[w.heap.size]? = some (.cells #[.string p.fact.name,.slice Ad p.fact.args.length cap,.int .i64 p.rule,.slice Ae p.kids.length I] 43 (0,0)):=by rw [hW]; exact ω w (.cells #[.string p.fact.name,.slice Ad p.fact.args.length cap,.int .i64 p.rule,.slice Ae p.kids.length I] 43)
 have ae:WP (w.heap.size :: bs) W:=fun b hb=>by
  rcases ύ.1 hb with rfl | hb
  ·exact ⟨_,_,a3⟩
  ·obtain ⟨cs,t,hc⟩:=hw b hb
   exact ⟨cs,t,by rw [hW]; exact (hB.block b (a9 b hb)).trans hc⟩
 rw [← hW] at hB aa
 have ab:Hid (∀ b ∈ w.heap.size :: bs,b < W.heap.size):=η fun b hb=>by
  rcases ύ.1 hb with rfl | hb
  ·omega
  ·have:=a9 b hb; omega
 have HE:=η (PW rs xs v1 v2 b1 b2 W (aI.below hR hB) (au.below hX hB) (hg.below hB));have a4:=η (fun (w':World) (hb:Below W.heap.size W w')=>Gj (w.heap.size :: bs) ⟨w.heap.size,0,none⟩ p w' (aa.keep fun b a5=>hb.block b (ab.out b a5)) (fun b a5=>κ (ab.out b a5) hb.size) (fun b a5=>by obtain ⟨cs,t,hc⟩:=ae b a5; exact ⟨cs,t,(hb.block b (ab.out b a5)).trans hc⟩) hs)
 have a7:Hid ((fH rs xs).2=true→∀ (v:Value) (b3:List Nat) (w':World),Below w.heap.size w w'→aQ w' [v] (fH rs xs).1 b3→Calls Tryz.prog 43 #[v1,v2,v,.agg #[.string p.fact.name,.slice Ad p.fact.args.length cap,.int .i64 p.rule,.slice Ae p.kids.length I]] w' fun e ag=>e=.returned (.bool (sU rs xs (fH rs xs).1 p))∧Below w'.heap.size w' ag):=η fun hin v b3 w' hb hy=>by
  obtain ⟨hK,ha,hl⟩:=yc hin
  have hf:∀ y ∈ (fH rs xs).1,aT y:=by
   by_cases hc:gB rs xs=true∧(iy rs xs).2=true
   ·obtain ⟨_,r2,_,_⟩:=y8 hc.1 hc.2
    rw [J9 hc.1 hc.2];exact r2
   ·rw [NP fun h1=>by
     cases h2:(iy rs xs).2
     ·rfl
     ·exact absurd ⟨h1,h2⟩ hc] at hin
    cases hin
  have h9:=Nb rs xs (fH rs xs).1 (fun r hr=>JM ((oP rs).2 hK.fine) hr) hK.iF (by have:=hK.n; omega) ha hf hl n p _ _ _ _ v1 v2 v bs b1 b2 b3 w' ((cZ n).below h hb) (aI.below hR hb) (au.below hX hb) hy hs
  rwa [UN] at h9
 have a2:Hid (Nc rs xs p=((fH rs xs).2 && decide (aK p≤60) && sU rs xs (fH rs xs).1 p)):=η rfl;have HA:=η hB;have y0:W.cell? ⟨w.heap.size,0,none⟩=some (.string p.fact.name):=aj a3;have y1:W.cell? ⟨w.heap.size,1,none⟩=some (.slice Ad p.fact.args.length cap):=aj a3;have y2:W.cell? ⟨w.heap.size,2,none⟩=some (.int .i64 p.rule):=aj a3;have y3:W.cell? ⟨w.heap.size,3,none⟩=some (.slice Ae p.kids.length I):=aj a3;clear hR hX hs h a9 aa hB af a3 ae hg hw;generalize Nc rs xs p=OUT at *;generalize hev:fH rs xs=EV at *;obtain ⟨ys,ok⟩:=EV;dsimp only at *;generalize sU rs xs ys p=OKP at *;clear hev;cases ok
 ·clear a4 a7
  go_enter Tryz.func14,Tryz.ntmps14
  go_wp2_with (first
    | (rw [← hW]; go_at_call 41; refine HE.out.mono ?_; rintro e w1 ⟨J,Av,cp,b3,rfl,hy⟩; have a1:=HA.out.trans (J.mono HA.out.size); replace y0:=ξ J y0; replace y1:=ξ J y1; replace y2:=ξ J y2; replace y3:=ξ J y3)
    | (go_at_call 42; refine (a4.out _ J).mono ?_; rintro e w2 ⟨rfl,U⟩; have a0:=a1.trans ((U.mono ν).mono a1.size); replace y0:=ξ U y0; replace y1:=ξ U y1; replace y2:=ξ U y2; replace y3:=ξ U y3)
    | (go_at_call 43; refine (a7.out (by trivial) _ _ _ a0 (au.below hy U)).mono ?_; rintro e w3 ⟨rfl,a8⟩; have ac:=a0.trans (a8.mono a0.size)))
  go_wp2;go_ret;exact ⟨aA (by rw [a2.out]; rfl),a1⟩
 ·by_cases a6:aK p≤60
  ·rw [decide_eq_true a6] at a4
   have HD:Hid (OUT=OKP):=η (by rw [a2.out,decide_eq_true a6]; rfl);clear a6 a2
   go_enter Tryz.func14,Tryz.ntmps14
   go_wp2_with (first
    | (rw [← hW]; go_at_call 41; refine HE.out.mono ?_; rintro e w1 ⟨J,Av,cp,b3,rfl,hy⟩; have a1:=HA.out.trans (J.mono HA.out.size); replace y0:=ξ J y0; replace y1:=ξ J y1; replace y2:=ξ J y2; replace y3:=ξ J y3)
    | (go_at_call 42; refine (a4.out _ J).mono ?_; rintro e w2 ⟨rfl,U⟩; have a0:=a1.trans ((U.mono ν).mono a1.size); replace y0:=ξ U y0; replace y1:=ξ U y1; replace y2:=ξ U y2; replace y3:=ξ U y3)
    | (go_at_call 43; refine (a7.out (by trivial) _ _ _ a0 (au.below hy U)).mono ?_; rintro e w3 ⟨rfl,a8⟩; have ac:=a0.trans (a8.mono a0.size)))
   go_wp2;go_ret;exact ⟨aA HD.out.symm,ac⟩
  ·rw [decide_eq_false a6] at a4
   have HD:Hid (OUT=false):=η (by rw [a2.out,decide_eq_false a6]; rfl);clear a6 a2 a7
   go_enter Tryz.func14,Tryz.ntmps14
   go_wp2_with (first
    | (rw [← hW]; go_at_call 41; refine HE.out.mono ?_; rintro e w1 ⟨J,Av,cp,b3,rfl,hy⟩; have a1:=HA.out.trans (J.mono HA.out.size); replace y0:=ξ J y0; replace y1:=ξ J y1; replace y2:=ξ J y2; replace y3:=ξ J y3)
    | (go_at_call 42; refine (a4.out _ J).mono ?_; rintro e w2 ⟨rfl,U⟩; have a0:=a1.trans ((U.mono ν).mono a1.size); replace y0:=ξ U y0; replace y1:=ξ U y1; replace y2:=ξ U y2; replace y3:=ξ U y3)
    | (go_at_call 43; refine (a7.out (by trivial) _ _ _ a0 (au.below hy U)).mono ?_; rintro e w3 ⟨rfl,a8⟩; have ac:=a0.trans (a8.mono a0.size)))
   go_wp2;go_ret;exact ⟨aA HD.out.symm,a0⟩
theorem yg (a0:List Ru) (c0:Value) (p0:List Nat) (a1:List A) (c1:Value) (p1:List Nat) (a:Pf) (b4 b5 b6 b7:Value) (p2:List Nat) (w:World) (h0:dD w [c0] a0 p0) (h1:aQ w [c1] a1 p1) (h2:∃ n,dP n w [b4,b5,b6,b7] a p2) (hg:oV w):
  Calls Tryz.prog 3 #[c0,c1,.agg #[b4,b5,b6,b7]] w fun e w'=>e=.returned (.bool true)∧Below w.heap.size w w':=by
 obtain ⟨n,h⟩:=h2
 obtain ⟨Ad,cap,Ae,a7,rfl,rfl,rfl,rfl⟩:∃ Ad cap Ae a7,b4=.string a.fact.name∧b5=.slice Ad a.fact.args.length cap∧b6=.int .i64 a.rule∧b7=.slice Ae a.kids.length a7:=by
  obtain ⟨Ad,cap,Ae,a7,e⟩:=lG (cs:=#[b4,b5,b6,b7]) h;simp only [Array.mk.injEq,List.cons.injEq,and_true] at e;exact ⟨Ad,cap,Ae,a7,e⟩
 have HG:=η hg;clear hg;obtain ⟨cA,cb,rfl,bc,bf⟩:=ai h0;obtain ⟨cB,cc,rfl,bg,bh⟩:=ai h1;have br:=fun l (g0:0≤l) (g1:l≤1048576) w' (hb:Below w.heap.size w w')=>Ju a0 _ p0 l w' (aI.below h0 hb) g0 g1
 have bs:=fun (hl:EY a0≤1048576) w' (hb:Below w.heap.size w w')=>Jv a0 _ p0 w' (aI.below h0 hb) hl
 have bt:=fun l (g0:0≤l) (g1:l≤1048576) w' (hb:Below w.heap.size w w')=>I7 a1 _ p1 l w' (au.below h1 hb) g0 g1
 have bu:=fun (hl:EX a1≤1048576) w' (hb:Below w.heap.size w w')=>I8 a1 _ p1 w' (au.below h1 hb) hl
 have bv:=fun l (g0:0≤l) (g1:l≤1048576) w' (hb:Below w.heap.size w w')=>IZ n a _ _ _ _ p2 l w' ((cZ n).below h hb) g0 g1
 have bw:=fun (hl:iG a≤1048576) w' (hb:Below w.heap.size w w')=>OH n a _ _ _ _ p2 w' ((cZ n).below h hb) hl
 have d0:=ay (τ bc bf);have d1:=ay (τ bg bh);have bx:=η (Oe a);clear h0 h1 h bc bg bf bh;obtain ⟨W,hW⟩:∃ W,W=w.alloc (.cells #[.string a.fact.name,.slice Ad a.fact.args.length cap,.int .i64 a.rule,.slice Ae a.kids.length a7] 29):=⟨_,rfl⟩;have B0:Below w.heap.size w W:=by rw [hW]; exact ζ
 have ac:W.heap[w.heap.size]? = some (.cells #[.string a.fact.name,.slice Ad a.fact.args.length cap,.int .i64 a.rule,.slice Ae a.kids.length a7] 29 (0,0)):=by rw [hW]; exact ω w _
 have x0:W.cell? ⟨w.heap.size,0,none⟩=some (.string a.fact.name):=aj ac;have x1:W.cell? ⟨w.heap.size,1,none⟩=some (.slice Ad a.fact.args.length cap):=aj ac;have x2:W.cell? ⟨w.heap.size,2,none⟩=some (.int .i64 a.rule):=aj ac;have x3:W.cell? ⟨w.heap.size,3,none⟩=some (.slice Ae a.kids.length a7):=aj ac;clear ac
 go_enter Tryz.func3,Tryz.ntmps3
 go_wp2_with fail
 rw [← hW];clear hW;refine (br _ (by omega) (by omega) _ B0).mono ?_;rintro e w1 ⟨aw,r1,rfl,cd⟩;have B1:=B0.trans (aw.mono B0.size);replace x0:=ξ aw x0; replace x1:=ξ aw x1; replace x2:=ξ aw x2; replace x3:=ξ aw x3
 clear br
 rcases cd with rfl | ⟨cD,bz⟩
 ·go_wp2
  go_ret;exact ⟨rfl,B1⟩
 go_wp2_with fail
 refine (bt _ (by omega) (by omega) _ B1).mono ?_;rintro e w2 ⟨az,r2,rfl,ce⟩;have B2:=B1.trans (az.mono B1.size);replace x0:=ξ az x0; replace x1:=ξ az x1; replace x2:=ξ az x2; replace x3:=ξ az x3
 clear bt
 rcases ce with rfl | ⟨cE,bA⟩
 ·go_wp2
  go_ret;exact ⟨rfl,B2⟩
 go_wp2_with fail
 refine (bv _ (by omega) (by omega) _ B2).mono ?_;rintro e w3 ⟨aD,r3,rfl,cg⟩;have B3:=B2.trans (aD.mono B2.size);replace x0:=ξ aD x0; replace x1:=ξ aD x1; replace x2:=ξ aD x2; replace x3:=ξ aD x3
 clear bv
 rcases cg with rfl | ⟨cG,bB⟩
 ·go_wp2
  go_ret;exact ⟨rfl,B3⟩
 have bk:=η (bs (by omega));have bl:=η (bu (by omega));have bn:=η (bw (by omega));have bE:Hid (aK a≤16777216):=η (by have:=bx.out; omega);clear bs bu bw bz bA bB bx aw az aD
 go_wp2_with fail
 go_region_held3 (fun w'=>w'.cell? ⟨w.heap.size,0,none⟩=some (.string a.fact.name)∧w'.cell? ⟨w.heap.size,1,none⟩=some (.slice Ad a.fact.args.length cap)∧w'.cell? ⟨w.heap.size,2,none⟩=some (.int .i64 a.rule)∧w'.cell? ⟨w.heap.size,3,none⟩=some (.slice Ae a.kids.length a7)) (first | go_keep | exact ⟨x0,x1,x2,x3⟩)
  (first
   | (go_at_call 11; (with_reducible refine Calls.mono (bk.out _ B3.drew) ?_); rintro e w4 ⟨aE,v4,ci,rfl,ao,cj⟩; obtain ⟨d2,cI,rfl,_,_⟩:=ai ao; have B4:=B3.drew.trans (aE.mono B3.drew.size); replace x0:=ξ aE x0; replace x1:=ξ aE x1; replace x2:=ξ aE x2; replace x3:=ξ aE x3)
   | (go_at_call 12; (with_reducible refine Calls.mono (bl.out _ B4) ?_); rintro e w5 ⟨ap,v5,ck,rfl,aR,cl⟩; obtain ⟨d3,cJ,rfl,_,_⟩:=ai aR; have B5:=B4.trans (ap.mono B4.size); replace ao:=aI.below ao ap; replace x0:=ξ ap x0; replace x1:=ξ ap x1; replace x2:=ξ ap x2; replace x3:=ξ ap x3)
   | (go_at_call 13; (with_reducible refine Calls.mono (bn.out _ B5) ?_); rintro e w6 ⟨af,d4,cm,rfl,bo,cn⟩; obtain ⟨d5,cK,d6,co,rfl⟩:=lG bo; have B6:=B5.trans (af.mono B5.size); replace ao:=aI.below ao af; replace aR:=au.below aR af; replace x0:=ξ af x0; replace x1:=ξ af x1; replace x2:=ξ af x2; replace x3:=ξ af x3)
   | (go_at_call 10; (with_reducible refine Calls.mono (GK a0 a1 n a _ _ _ _ _ _ ci ck cm w6 ao aR bo bE.out) ?_); rintro e w7 ⟨rfl,aL⟩; have B7:=B6.trans (aL.mono B6.size); replace x0:=ξ aL x0; replace x1:=ξ aL x1; replace x2:=ξ aL x2; replace x3:=ξ aL x3))
 clear ao cj aR cl bo cn B4 B5 B6 aE ap af aL;generalize hPO:Nc a0 a1 a=PO at *;have cp:=η hPO;clear hPO
 go_wp2_with fail
 refine (bk.out _ B7).mono ?_;rintro e w8 ⟨aM,v8,bL,rfl,a6,cq⟩;obtain ⟨d7,cL,rfl,_,_⟩:=ai a6;have B8:=B7.trans (aM.mono B7.size);replace x0:=ξ aM x0; replace x1:=ξ aM x1; replace x2:=ξ aM x2; replace x3:=ξ aM x3
 go_wp2_with fail
 refine (bl.out _ B8).mono ?_;rintro e w9 ⟨aq,v9,bO,rfl,a3,cr⟩;obtain ⟨d8,cP,rfl,_,_⟩:=ai a3;have B9:=B8.trans (aq.mono B8.size);replace x0:=ξ aq x0; replace x1:=ξ aq x1; replace x2:=ξ aq x2; replace x3:=ξ aq x3
 replace a6:=aI.below a6 aq
 go_wp2_with fail
 refine (bn.out _ B9).mono ?_;rintro e a8 ⟨ab,cQ,bi,rfl,I,bj⟩;obtain ⟨ag,ae,am,a9,rfl⟩:=lG I;have b8:=B9.trans (ab.mono B9.size);replace x0:=ξ ab x0; replace x1:=ξ ab x1; replace x2:=ξ ab x2; replace x3:=ξ ab x3
 replace a6:=aI.below a6 ab; replace a3:=au.below a3 ab
 have hA:Below a8.heap.size a8 (a8.alloc (.cells #[.string a.fact.name,.slice ag a.fact.args.length ae,.int .i64 a.rule,.slice am a.kids.length a9] 43)):=ζ;obtain ⟨W,hW⟩:∃ W,W=a8.alloc (.cells #[.string a.fact.name,.slice ag a.fact.args.length ae,.int .i64 a.rule,.slice am a.kids.length a9] 43):=⟨_,rfl⟩;have ac:W.heap[a8.heap.size]? = some (.cells #[.string a.fact.name,.slice ag a.fact.args.length ae,.int .i64 a.rule,.slice am a.kids.length a9] 43 (0,0)):=by rw [hW]; exact ω a8 _
 rw [← hW] at hA;have y0:W.cell? ⟨a8.heap.size,0,none⟩=some (.string a.fact.name):=aj ac;have y1:W.cell? ⟨a8.heap.size,1,none⟩=some (.slice ag a.fact.args.length ae):=aj ac;have y2:W.cell? ⟨a8.heap.size,2,none⟩=some (.int .i64 a.rule):=aj ac;have y3:W.cell? ⟨a8.heap.size,3,none⟩=some (.slice am a.kids.length a9):=aj ac;have hc:=GL a0 a1 n a _ _ _ _ _ _ bL bO bi W (aI.below a6 hA) (au.below a3 hA) ((cZ n).below I hA) (bj.below hA).VI bE.out (HG.out.below (b8.trans (hA.mono b8.size)));rw [cp.out] at hc;have BW:=b8.trans (hA.mono b8.size);replace x0:=ξ hA x0; replace x1:=ξ hA x1; replace x2:=ξ hA x2; replace x3:=ξ hA x3
 replace a6:=aI.below a6 hA; replace a3:=au.below a3 hA; replace I:=(cZ n).below I hA
 clear ac cq cr bj hA aM aq ab HG
 go_wp2_with (rw [← hW]; go_at_call 14; refine hc.mono ?_; rintro e d9 ⟨rfl,J⟩)
 have bp:=BW.trans (J.mono BW.size);replace x0:=ξ J x0; replace x1:=ξ J x1; replace x2:=ξ J x2; replace x3:=ξ J x3
 replace y0:=ξ J y0; replace y1:=ξ J y1; replace y2:=ξ J y2; replace y3:=ξ J y3
 replace a6:=aI.below a6 J; replace a3:=au.below a3 J; replace I:=(cZ n).below I J
 clear hc hW BW
 go_wp2_with fail
 refine (bk.out _ bp).mono ?_;rintro e da ⟨U,db,bR,rfl,ar,bX⟩;obtain ⟨cT,cv,rfl,_,_⟩:=ai ar;have c3:=bp.trans (U.mono bp.size);replace x0:=ξ U x0; replace x1:=ξ U x1; replace x2:=ξ U x2; replace x3:=ξ U x3
 replace y0:=ξ U y0; replace y1:=ξ U y1; replace y2:=ξ U y2; replace y3:=ξ U y3
 replace a6:=aI.below a6 U; replace a3:=au.below a3 U; replace I:=(cZ n).below I U
 go_wp2_with fail
 refine (Gp a0 _ _ bL bR _ a6 ar).mono ?_;rintro e dc ⟨rfl,a2⟩;have bq:=c3.trans (a2.mono c3.size);replace x0:=ξ a2 x0; replace x1:=ξ a2 x1; replace x2:=ξ a2 x2; replace x3:=ξ a2 x3
 replace y0:=ξ a2 y0; replace y1:=ξ a2 y1; replace y2:=ξ a2 y2; replace y3:=ξ a2 y3
 replace a6:=aI.below a6 a2; replace a3:=au.below a3 a2; replace I:=(cZ n).below I a2
 clear ar bX
 go_wp2_with fail
 refine (bl.out _ bq).mono ?_;rintro e de ⟨a4,dg,c4,rfl,av,c5⟩;obtain ⟨cU,cw,rfl,_,_⟩:=ai av;have c6:=bq.trans (a4.mono bq.size);replace x0:=ξ a4 x0; replace x1:=ξ a4 x1; replace x2:=ξ a4 x2; replace x3:=ξ a4 x3
 replace y0:=ξ a4 y0; replace y1:=ξ a4 y1; replace y2:=ξ a4 y2; replace y3:=ξ a4 y3
 replace a3:=au.below a3 a4; replace I:=(cZ n).below I a4
 go_wp2_with fail
 refine (Gf a1 _ _ bO c4 _ a3 av).mono ?_;rintro e c7 ⟨rfl,a5⟩;have b9:=c6.trans (a5.mono c6.size);replace x0:=ξ a5 x0; replace x1:=ξ a5 x1; replace x2:=ξ a5 x2; replace x3:=ξ a5 x3
 replace y0:=ξ a5 y0; replace y1:=ξ a5 y1; replace y2:=ξ a5 y2; replace y3:=ξ a5 y3
 replace a3:=au.below a3 a5; replace I:=(cZ n).below I a5
 clear av c5
 go_wp2_with fail
 have c8:=b9.drew
 go_region_held3 (fun w'=>w'.cell? ⟨w.heap.size,0,none⟩=some (.string a.fact.name)∧w'.cell? ⟨w.heap.size,1,none⟩=some (.slice Ad a.fact.args.length cap)∧w'.cell? ⟨w.heap.size,2,none⟩=some (.int .i64 a.rule)∧w'.cell? ⟨w.heap.size,3,none⟩=some (.slice Ae a.kids.length a7)∧w'.cell? ⟨a8.heap.size,0,none⟩=some (.string a.fact.name)∧w'.cell? ⟨a8.heap.size,1,none⟩=some (.slice ag a.fact.args.length ae)∧w'.cell? ⟨a8.heap.size,2,none⟩=some (.int .i64 a.rule)∧w'.cell? ⟨a8.heap.size,3,none⟩=some (.slice am a.kids.length a9))
  (first | go_keep | exact ⟨ξ y x0,ξ y x1,ξ y x2,ξ y x3,ξ y y0,ξ y y1,ξ y y2,ξ y y3⟩ | exact ⟨ξ aa z0,ξ aa z1,ξ aa z2,ξ aa z3,ξ aa z4,ξ aa z5,ξ aa z6,ξ aa z7⟩)
  (first
   | (go_at_call 13; refine (bn.out _ c8).mono ?_; rintro e cx ⟨y,cV,cW,rfl,b1,c9⟩; obtain ⟨cX,cy,cY,ca,rfl⟩:=lG b1; have b3:Below c7.heap.size c7 cx:=Below.trans (Below.drew ϑ) y)
   | (go_at_call 17; refine (F9 n a _ _ _ _ _ _ _ _ bi _ _ ((cZ n).below I b3) b1).mono ?_; rintro e di ⟨rfl,aa⟩; have z0:=ξ y x0; have z1:=ξ y x1; have z2:=ξ y x2; have z3:=ξ y x3; have z4:=ξ y y0; have z5:=ξ y y1; have z6:=ξ y y2; have z7:=ξ y y3))
 have cz:=(b9.trans (b3.mono b9.size)).trans (aa.mono (τ b9.size b3.size));clear I b1 c9;go_wp2;go_ret;exact ⟨rfl,cz⟩
end
end Go.Proofs.YtlmngncogomgeaaGreatDoor
