/- Of the proof of FnDeltaNeeds: RouI, StAl, EvI, EvC, EvL, DltP, DltL, NdP, DltI, DltS, LwDeltaNeedsL. -/
import Derived.Deep.CutBlock
import Derived.Test.YtkjinanbccloeaaGreatDoorE29
set_option linter.unusedVariables false
set_option maxHeartbeats 8000000
set_option maxRecDepth 100000
namespace Go.Proofs.YtkjinanbccloeaaGreatDoor
section
open Go.RowKit D
attribute [local go_sem ↓] Go.wp_at_zero Go.wp_at_succ
theorem D.XW (w:World):(Instr.makeChan 262 (.int .i64 301)).run Tryz.prog w=.ok (.chan (some w.heap.size)) (w.alloc (.chan 301 #[] false 0 0 false)):=by
 obtain ⟨i,y,hb⟩:∃ i,Tryz.prog.info? 33=some i∧i.bytes=40:=by
  obtain ⟨i,y,_,_,I⟩:=info_parts QF;exact ⟨i,y,I⟩
 simpa using Go.Conc.run_makeChan (P:=Tryz.prog) (w:=w) Tryz.underlying262 y .i64 301 (by omega) (by rw [hb]; omega)
def D.JX (B sb mu mp:Nat) (Fb:Nat→Prop) (fr:List Nat) (fs:List A) (rn:List Nat) (next:List Ru) (nr B0:Nat) (w:World) (e:Ending) (w':World):Prop:=
 Below B0 w w'∧((∃ new mc n L f,e=.returned (.tuple #[.map (some mc),.bool true])∧new.Nodup∧(∀ t ∈ new,aW t)∧(∀ t,t ∈ new ↔ t ∉ fs∧∃ q ∈ next,lW fs q t)∧fs.length+new.length≤300∧
   jP B sb mu mp Fb fr (fs ++ new) (rn ++ List.replicate new.length nr) w'∧(∀ x ∈ fr,w'.heap[x]? = w.heap[x]?)∧gB mc n L f w'∧w.heap.size≤mc∧(∀ s,s ∈ L ↔ ∃ t ∈ new,t.name=s)∧∀ s ∈ L,1≤f s∧f s≤1000000) ∨
  (e=.returned (.tuple #[.map none,.bool false])∧∃ new:List A,new.Nodup∧(∀ t ∈ new,t ∉ fs∧∃ q ∈ next,lW fs q t)∧300 < fs.length+new.length))
structure D.WH (x:rD) (fs:List A) (bst:List Nat) (next:List Ru) (w:World) (k:Nat) (wr:World):Prop where
 ex:∃ told fb,nZ x w.heap.size fs bst wr told fb∧∀ t,t ∈ told ↔ ∃ r ∈ next.take k,lW fs r t
 bel:Below w.heap.size w wr
theorem XY {x:Yb} (X:Oo x) {w:World} {k:Nat} (hk:k < x.new.length) {c:Value} {ba:List Nat} {wr:World} (h:tH x w k x.new[k] c ba wr):
  Calls Tryz.prog 112 #[.pointer (some ⟨x.sb,0,none⟩),.agg #[.string x.new[k].name,c],.int .i64 x.nr] (wr.alloc (.cells #[.string x.new[k].name,c] 33)) fun e J=>e=.returned (.tuple #[])∧Below x.B0 wr J∧
   jP x.B x.sb x.mu x.mp x.Fb x.f2 (x.fs ++ x.new.take k ++ [x.new[k]]) (x.rn ++ List.replicate k x.nr ++ [x.nr]) J∧(∀ j ∈ x.f2,J.heap[j]? = wr.heap[j]?)∧J.heap[wr.heap.size]? = some (.cells #[.string x.new[k].name,c] 33 (0,0)):=by
 have U:Below wr.heap.size wr (wr.alloc (.cells #[.string x.new[k].name,c] 33)):=ζ;have h1:=h.later X U;have hs:=h.uh.more U [wr.heap.size] (fun j y=>by simp at y; subst y; exact ⟨ν,by simp⟩);have a0:=h.uh.lt;have a2:=X.few;have I:x.new[k] ∈ x.new:=δ hk;have a1:=X.nd;refine (XP (fr:=x.f2 ++ [wr.heap.size]) hs h1.at' (fun j y=>Ξ _ (h1.bas j y).1) (fun j y=>(h1.bas j y).2) (fun f hf=>?_) (X.nok _ I) (fun hm=>?_) ?_ ?_ x.nr x.B0 X.b0).mono ?_
 ·rcases μ.1 hf with hf | hf
  ·exact X.fok f hf
  ·exact X.nok f (List.mem_of_mem_take hf)
 ·rcases μ.1 hm with hm | hm
  ·exact X.no _ I hm
  ·obtain ⟨i,hi,e⟩:=List.getElem_of_mem hm
   rw [List.length_take] at hi;rw [List.getElem_take] at e;have:=(List.getElem_inj a1).1 e;omega
 ·rw [χ,List.length_take]; omega
 ·have:=X.rfew
  rw [χ,List.length_replicate]; omega
 ·rintro e J ⟨rfl,hb,hS,hf⟩
  refine ⟨rfl,?_,hS.sub fun j y=>Ξ _ y,fun j y=>(hf j (Ξ _ y)).trans (U.block j (a0.2.2 j y)),(hf _ (Ω _ (ώ.2 rfl))).trans (ω _ _)⟩;have:=X.b0;exact (U.mono (by omega)).trans hb
theorem TU (B sb mu mp:Nat) (Fb:Nat→Prop) (bo:∀ x,B≤x→Fb x) (fr:List Nat) (fs:List A) (rn:List Nat) (next:List Ru) (v:Value) (bn:List Nat) (nr B0:Nat) (w:World) (S:jP B sb mu mp Fb fr fs rn w) (h:dW w [v] next bn)
  (ag:∀ f ∈ fs,aW f) (bp:fs.length≤300) (br:rn.length≤300) (hR:∀ r ∈ next,lC r) (aE:B0≤sb∧B0≤mu∧B0≤mp∧B0≤B):
  Calls Tryz.prog 134 #[.pointer (some ⟨sb,0,none⟩),v,.int .i64 nr] w (JX B sb mu mp Fb fr fs rn next nr B0 w):=by
 obtain ⟨Ad,cap,rfl,aL,aM⟩:=aj h;have c4:=ay (τ aL aM);have HH:=η h;have HS:=η S;clear h S aL aM;have aR:=@run_makeMap Tryz.prog;have bt:=XW
 go_enter Tryz.func134,Tryz.ntmps134
 go_wp2;obtain ⟨a2,am⟩:=HS.out.view;have b1:Hid (WH (rx w.heap.size sb nr) fs a2 next w 0 (rW w sb nr)):=η ⟨⟨[],_,TP w sb nr fs rn a2 am bp,fun t=>by simp⟩,Om w sb nr⟩;have eW:(((((((w.alloc (.cells #[.pointer (some ⟨sb,0,none⟩)] 100)).alloc (.cells #[.int .i64 nr] 3)).alloc (.chan 301 #[] false 0 0 false)).alloc (.cells #[.chan (some (w.heap.size+1+1))] 262)).alloc (.map #[] 0)).alloc (.cells #[.map (some (w.heap.size+1+1+1+1))] 116)).alloc (.cells #[.bool true] 4))=rW w sb nr:=rfl;rw [eW];have bu:Hid (∀ x ∈ a2,x < w.heap.size):=η am.lt;generalize rW w sb nr=W at *;clear eW am
 go_loopw [19] (fun i wr=>∃ k:Nat,k≤next.length∧i=.int .i64 k∧WH (rx w.heap.size sb nr) fs a2 next w k wr) (fun i _=>next.length - (intOf i).toNat)
 case atStart=>exact ⟨0,ε,rfl,b1.out⟩
 case round=>
  obtain ⟨k,hk,rfl,hI⟩:=hrel;clear b1;by_cases a0:k < next.length
  ·have c5:(0:Int)≤(k:Int):=by omega
   have bv:(k:Int) < (next.length:Int):=by omega
   obtain ⟨⟨told,fb,hF,J⟩,y⟩:=hI;obtain ⟨bq,oq,Ae,ce,Af,cf,bk,rfl,_,f0,f1,f2,b2,ae⟩:=iI (aS.below HH.out y) a0;have hA:Below wr.heap.size wr (wr.alloc (.cells #[.string next[k].head.name,.slice Ae next[k].head.args.length ce,.slice Af next[k].body.length cf] 40)):=ζ;have ao:=hF.keep (fun x hx=>hA.block x (hF.lt x hx)) hA.size;obtain ⟨bw,b4⟩:=ao.st
   have U:=P9 sb fs bw a2 next[k] (.string next[k].head.name) (.slice Ae next[k].head.args.length ce) (.slice Af next[k].body.length cf) bk (TK (rx w.heap.size sb nr) w.heap.size fs a2 ag) told fb _ b4 ag (by omega) (aY.below b2 hA) (hR _ (δ a0)) ao (fun x hx e=>(hF.uh x hx).2 (by rcases e with rfl | rfl | rfl <;> simp [rD.own])) (fun x hx e=>by
    have h1:=aS.lt HH.out x (ae x hx)
    rcases e with rfl | rfl | rfl <;> (simp only [rx] at h1; omega))
   have HN:Hid (∀ w9 ts a7 more,WC (rx w.heap.size sb nr) w.heap.size fs a2 more w9 (told ++ ts) a7→iw (rx w.heap.size sb nr).K (wr.alloc (.cells #[.string next[k].head.name,.slice Ae next[k].head.args.length ce,.slice Af next[k].body.length cf] 40)) w9→(∀ t ∈ ts,lW fs next[k] t)→(more=true→∀ t,lW fs next[k] t→t ∈ ts)→(more=false→Ws fs (told ++ ts)=false)→
     w9.cell? ⟨w.heap.size+1+1+1+1+1+1,0,none⟩=some (.bool more)∧(more=true→WH (rx w.heap.size sb nr) fs a2 next w (k+1) w9)∧(more=false→JX B sb mu mp Fb fr fs rn next nr B0 w (.returned (.tuple #[.map none,.bool false])) w9)):=η fun w9 ts a7 more q1 q3 q4 q5 q6=>by
    have hz:=y.size;have b5:Below w.heap.size w w9:=⟨q3.os.trans (hA.os.trans y.os),q3.tape.trans (hA.tape.trans y.tape),q3.output.trans (hA.output.trans y.output),τ hz (τ hA.size q3.size),fun x hx=>(q3.block x (by have:=hA.size; omega) (fun e=>by rcases e with e | e | e <;> (simp only [rx] at e; omega))).trans ((hA.block x (by omega)).trans (y.block x hx))⟩;refine ⟨?_,fun hm=>?_,fun hm=>?_⟩
    ·cases more with
     | true=>exact ai (nZ.cF q1)
     | false=>exact ai (tu.cF q1)
    ·subst hm
     refine ⟨⟨told ++ ts,a7,q1,fun t=>?_⟩,b5⟩;rw [μ,J,WE a0];exact or_congr Iff.rfl ⟨q4 t,q5 rfl t⟩
    ·subst hm
     have hg:=TD (q6 rfl);have hn:=rq fs (told ++ ts);refine ⟨b5.mono (by have:=HS.out.lt; omega),.inr ⟨rfl,newL fs (told ++ ts),hn.1,fun t ht=>?_,hg⟩⟩;obtain ⟨h1,h2⟩:=(hn.2 t).1 ht;refine ⟨h2,?_⟩
     rcases μ.1 h1 with h1 | h1
     ·obtain ⟨r,hr,hf⟩:=(J t).1 h1
      exact ⟨r,List.mem_of_mem_take hr,hf⟩
     ·exact ⟨next[k],δ a0,q4 t h1⟩
   have y0:wr.cell? ⟨w.heap.size,0,none⟩=some (.pointer (some ⟨sb,0,none⟩)):=ai hF.cS;have c6:w.heap.size < wr.heap.size:=hF.lt _ (hF.ow _ (by show _ ∈ [_,_,_,_,_,_,_]; simp [rx]));have a8:=η a0;clear hF J ao b4 y hA b2 ae hk;generalize next[k]=r at *;obtain ⟨⟨c7,ra⟩,rb⟩:=r;dsimp only at *;clear a0;unfold rx rD.wR at U
   go_wp2_with fail
   refine U.mono ?_;rintro e w9 ⟨rfl,ts,a7,more,q1,q2,q3,q4,q5,q6⟩;obtain ⟨y1,b6,b7⟩:=HN.out w9 ts a7 more q1 q3 q4 q5 q6;have aq:=η b6;have ar:=η b7;clear U HN q1 q2 q3 q4 q5 q6 b6 b7
   cases more with
   | false=>
    have HP:=η (ar.out rfl);clear aq ar;go_wp2;go_ret2;exact HP.out
   | true=>
    have HI:=η (aq.out rfl);clear aq ar;go_wp2;go_roundw
    case rel=>exact ⟨k+1,a8.out,by go_num,HI.out⟩
    case measure=>have:=a8.out; simp [intOf]; omega
  ·have he:k=next.length:=by omega
   have bv:¬ (k:Int) < (next.length:Int):=by omega
   obtain ⟨⟨told,fb,hF,J⟩,y⟩:=hI;rw [ϕ (Nat.le_of_eq he.symm)] at J;obtain ⟨vs,sd,bb,a1,a9,b8⟩:=hF.cH;have b9:w.heap.size < wr.heap.size:=hF.lt _ (hF.ow _ (by show _ ∈ [_,_,_,_,_,_,_]; simp [rx]));have y0:wr.cell? ⟨w.heap.size+1+1+1,0,none⟩=some (.chan (some (w.heap.size+1+1))):=ai hF.cC;have bc:Hid (∀ t,t ∈ newL fs told ↔ t ∉ fs∧∃ q ∈ next,lW fs q t):=η fun t=>by rw [(rq fs told).2,J]; exact And.comm
   have HX:=η (YP (sd:=sd) (B0:=B0) (bb:=bb) HS.out hF b9 rfl aE ag br);have HI:=η (TQ (sd:=sd) bo HS.out hF y aE a1 a9 b8);have bx:∀ av ty,(Builtin.close_ av ty #[.chan (some (w.heap.size+1+1))]).run Tryz.prog wr=.ok (.tuple #[]) (wr.setChan (w.heap.size+1+1) 301 ⟨vs⟩ true sd 0 false):=fun av ty=>run_close_open av ty a1
   have aw:(wr.setChan (w.heap.size+1+1) 301 ⟨vs⟩ true sd 0 false).heap.size=wr.heap.size:=by simp [World.setChan]
   have af:=aR 116 (wr.setChan (w.heap.size+1+1) 301 ⟨vs⟩ true sd 0 false);rw [aw] at af;have bf:w.heap.size+1+1+1 < wr.heap.size:=lt_of_cell y0
   have y1:((wr.setChan (w.heap.size+1+1) 301 ⟨vs⟩ true sd 0 false).alloc (.map #[] 0)).cell? ⟨w.heap.size+1+1+1,0,none⟩=some (.chan (some (w.heap.size+1+1))):=by
    refine (World.cell?_of_block ?_).trans y0;show (World.alloc _ _).heap[w.heap.size+1+1+1]? = _;rw [Below.heap_alloc _ _ _ (by rw [aw]; exact bf)];simp only [World.setChan];rw [Array.getElem?_setIfInBounds_ne (by omega)]
   have az:w.heap.size≤wr.heap.size:=y.size;clear hF J a9 b8 a1 aR bt y bu;go_wp2;clear bx y0 aw bf;generalize (wr.setChan (w.heap.size+1+1) 301 ⟨vs⟩ true sd 0 false).alloc (.map #[] 0)=W2 at *;clear af;have bz:=η az;generalize wr.heap.size=mc at *;clear b9
   go_loopg [34] (newL fs told).length (fun gg _ bA=>∃ I:Nat,I≤(newL fs told).length∧(newL fs told).length - I≤gg∧Aside (F5 (rcv B sb mu mp nr B0 w.heap.size mc sd Fb fr bb fs rn (newL fs told)) w I bA))
   case atStart=>exact ⟨0,ε,by omega,HI.out⟩
   case round=>
    obtain ⟨I,c8,hg,hI⟩:=hrel;clear HI y1;by_cases a0:I < (newL fs told).length
    ·obtain ⟨c,a4,ba,a1,hM⟩:=F5.recv HX.out hI.out a0
     have a3:wr.heap[w.heap.size+1+1]? = some (.chan 301 ⟨.agg #[.string (newL fs told)[I].name,c] :: a4⟩ true sd I false):=a1;have a6:tH (rcv B sb mu mp nr B0 w.heap.size mc sd Fb fr bb fs rn (newL fs told)) w I (newL fs told)[I] c ba (wr.setChan (w.heap.size+1+1) 301 ⟨a4⟩ true sd (I+1) false):=hM;have hex:(⟨.agg #[.string (newL fs told)[I].name,c] :: a4⟩:Array Value).extract 1 (⟨.agg #[.string (newL fs told)[I].name,c] :: a4⟩:Array Value).size=⟨a4⟩:=by simp
     clear hM a1
     go_upto_region 14 with fail
     refine xq ?_;refine UH (i:=0) (w':=wr) (ok:=true) (z:=.agg #[.string ⟨#[]⟩,.slice none 0 0]) (by rfl) (by rfl) (by go_simp; rfl) a3 (by simp) ?_;rw [hex];refine vP (i:=1) (by rfl) (by rfl) (v:=.bool true) (w':=wr.setChan (w.heap.size+1+1) 301 ⟨a4⟩ true sd (I+1) false) (by simp [Go.Conc.got]; go_simp) ?_;refine Jh (show Exit.then _ _ Exit.normal _ _ from ?_);generalize wr.setChan (w.heap.size+1+1) 301 ⟨a4⟩ true sd (I+1) false=W3 at *;clear hex a3;obtain ⟨Ae,ce,_,rfl⟩:=bG a6.at';have z0:W3.cell? ⟨w.heap.size,0,none⟩=some (.pointer (some ⟨sb,0,none⟩)):=ai a6.cS;have z1:W3.cell? ⟨w.heap.size+1,0,none⟩=some (.int .i64 nr):=ai a6.cN;have bB:=lt_of_cell z0;have bE:=lt_of_cell z1;have U:=XY HX.out a0 a6;have ab:=η a6;clear a6;simp only [Go.Conc.got,if_true]
     go_wp2_with fail
     refine U.mono ?_;rintro e w5 ⟨rfl,q1,q2,q3,q4⟩;obtain ⟨n,L,f,m1,m2,m3,m4⟩:=ab.out.cam;have bg:Hid (gB mc n L f w5):=η (m1.same (q3 _ HX.out.mM));obtain ⟨v,hv⟩:∃ v,(if (newL fs told)[I].name ∈ L then f (newL fs told)[I].name else 0)=v:=⟨_,rfl⟩;have a5:=HX.out.few;have c9:I≤300:=by have:fs.length+(newL fs told).length≤300:=a5; omega
     have ca:0≤v:=by
      rw [← hv]
      split
      ·rename_i hm; have:=m4 _ hm; omega
      ·omega
     have cb:v≤300:=by
      rw [← hv]
      split
      ·rename_i hm; have:=m4 _ hm; omega
      ·omega
     have bh:Hid (∀ w6,gB mc (n+1) (dZ L (newL fs told)[I].name) (fun t=>if t=(newL fs told)[I].name then v+1 else f t) w6→w5.grownBy w6 (some mc)→F5 (rcv B sb mu mp nr B0 w.heap.size mc sd Fb fr bb fs rn (newL fs told)) w (I+1) w6):=η fun w6 h6 ac=>tH.done HX.out a0 ab.out q1 q2 q3 (by rw [← hv] at h6; exact h6) ac m2 m3 m4
     have bi:Hid ((newL fs told)[I].name.size≤maxLen):=η (by obtain ⟨_,_,hs,_⟩:=ab.out.at'; exact hs);have z5:w5.cell? ⟨W3.heap.size,0,none⟩=some (.string (newL fs told)[I].name):=ai q4;have cc:=lt_of_cell z5;have HV:=η hv;have a8:=η a0;have bL:n < maxLen:=by unfold maxLen; omega
     clear q1 q2 q3 q4 m1 m2 m3 m4 U ab a5 hv z0 z1 bB bE hI;generalize (newL fs told)[I]=a at *;clear a0
     go_wp2_with (first | (at_lookup; refine uM _ rfl _ _ _ rfl Tryz.underlying116 _ _ L _ rfl bg.out a.name rfl bi.out v HV.out ?_) | (at_mapUpdate; refine jS _ rfl _ _ _ _ rfl Tryz.underlying116 _ _ L _ rfl bg.out a.name rfl bi.out (v+1) rfl bL (by omega) ?_; intro w6 bj ac))
     have bO:=η (bh.out w6 bj ac);clear bj ac bh
     go_roundg ((newL fs told).length - (I+1))
     case measure=>have:=a8.out; omega
     case rel=>exact ⟨I+1,a8.out,ν,bO.out⟩
    ·have bR:I=(newL fs told).length:=by omega
     obtain ⟨aD,b3,a1,a9,_⟩:=hI.out.chn;have aa:J4 wr aD ((newL fs told).drop I) b3:=a9;rw [List.drop_of_length_le (by omega)] at aa
     have bX:aD = []:=by
      cases aD with
      | nil=>rfl
      | cons v vs=>exact aa.elim
     subst bX;have a3:wr.heap[w.heap.size+1+1]? = some (.chan 301 #[] true sd I false):=a1
     have HP:Hid (JX B sb mu mp Fb fr fs rn next nr B0 w (.returned (.tuple #[.map (some mc),.bool true])) wr):=η (by
      have h:=hI.out;have hX:=HX.out;have hn:=rq fs told;obtain ⟨n,L,f,m1,m2,m3,m4⟩:=h.cam;have et:(newL fs told).take I=newL fs told:=ϕ (by omega);have hs:jP B sb mu mp (fun k=>Fb k∧k ≠ w.heap.size+2∧k ≠ mc) (fr ++ ([w.heap.size,w.heap.size+1,w.heap.size+2,mc] ++ bb)) (fs ++ (newL fs told).take I) (rn ++ List.replicate I nr) wr:=h.uh;have bl:∀ s,s ∈ L ↔ ∃ t ∈ (newL fs told).take I,t.name=s:=m3;have a5:fs.length+(newL fs told).length≤300:=hX.few;rw [et] at hs bl;rw [bR] at hs;refine ⟨h.bel,.inl ⟨newL fs told,mc,n,L,f,rfl,hn.1,fun t ht=>hX.nok t ht,bc.out,a5,(hs.mono fun x hx _=>hx.1).sub fun x hx=>Ξ _ hx,h.kep,m1,bz.out,bl,fun s c3=>?_⟩⟩;have:=m4 s c3
      omega)
     clear hI a9 aa a1 HX bc
     go_upto_region 14 with fail
     refine xq ?_;refine UI (i:=0) (w':=wr) (ok:=true) (z:=.agg #[.string ⟨#[]⟩,.slice none 0 0]) (by rfl) (by rfl) (by go_simp; rfl) a3 ?_;refine vP (i:=1) (by rfl) (by rfl) (v:=.bool false) (w':=wr) (by simp [Go.Conc.got]; go_simp) ?_;refine Jh (show Exit.then _ _ Exit.normal _ _ from ?_);simp only [Go.Conc.got,if_true];clear a3;go_wp2;go_ret2;exact HP.out
theorem D.YQ (rs:List Ru) (xs:List A):fG rs xs=(decide (xs.length≤40) && jU rs xs):=by
 unfold fG jU okB aU;by_cases h1:xs.length≤40
 ·have y:xs.length≤300:=by omega
  rw [decide_eq_true h1,decide_eq_true y];simp
 ·rw [decide_eq_false h1]
  simp
theorem vG (rs:List Ru) (xs:List A) (I J:Value) (b1 b2:List Nat) (w:World) (h:dW w [I] rs b1) (U:aC w [J] xs b2) (hg:oC w):
  Calls Tryz.prog 75 #[I,J] w fun e w'=>e=.returned (.bool (fG rs xs))∧Below w.heap.size w w':=by
 have c1:=Gz rs xs I J b1 b2 w h U hg;have HE:=η (YQ rs xs);obtain ⟨a1,cap2,rfl,_,_⟩:=aj U;clear h U hg;generalize jU rs xs=q at *;by_cases hl:(xs.length:Int)≤40
 ·have y:Hid (q=fG rs xs):=η (by rw [HE.out,decide_eq_true (by omega)]; simp)
  go_enter Tryz.func75,Tryz.ntmps75
  go_wp2_with (go_at_call 19; refine c1.mono ?_; rintro e w1 ⟨rfl,a0⟩)
  go_ret;exact ⟨aH y.out,a0⟩
 ·have y:Hid (false=fG rs xs):=η (by rw [HE.out,decide_eq_false (by omega)]; simp)
  go_enter Tryz.func75,Tryz.ntmps75
  go_wp2;go_ret;exact ⟨aH y.out,(Below.refl w.heap.size w)⟩
structure D.BP (w:World) (b1:List Nat) (v:Value) (L:List Value) (xs:List Ru) (wr:World):Prop where
 coll:∃ bs,aX 3 iy (w.heap.size+1) 40 wr v L xs bs∧∀ b ∈ bs,b ∈ b1
 bel:Below w.heap.size w wr
theorem D.BP.below {w wr w':World} {y:List Nat} {v:Value} {L:List Value} {xs:List Ru} (h:BP w y v L xs wr) (hb:Below wr.heap.size wr w'):BP w y v L xs w':=
 ⟨by obtain ⟨bs,hc,h1⟩:=h.coll; exact ⟨bs,hc.below aY hb,h1⟩,h.bel.trans (hb.mono h.bel.size)⟩
def D.WI (rs:List Ru) (L:Nat):List Ru:=rs.filter fun r=>decide (fP rs r.head.name=L)
theorem D.WL (rs:List Ru) (L:Nat):OwnAt rs L (WI rs L):=fun r=>by unfold WI; rw [List.mem_filter,decide_eq_true_iff]
theorem D.XZ {rs:List Ru} (H:uf rs) {k:Nat} (I:k < rs.length) (y:k < (aA rs).length):(aA rs)[k]=fP rs rs[k].head.name:=by
 have J:=(lG H.cyc).2 k I;have U:dQ rs k=rs[k]:=by unfold dQ; simp [List.getD,I]
 have e2:iZ (aA rs) k=(aA rs)[k]:=by unfold iZ; simp [List.getD,y]
 rw [← e2,J,U]
structure D.X4 (rs:List Ru) (xs:List A) (L z:Nat) (own:List Ru) (fr:List Nat) (w W:World) (next:List Ru) (fs:List A) (rn:List Nat) (number:Nat) (wr:World):Prop where
 mid:rC rs xs L own next fs rn number
 sub:∀ q ∈ next,q ∈ own
 uh:jP (z+3) (z+2) z (z+1) (fun _=>True) fr fs rn wr
 bel:Below w.heap.size w wr
 kep:∀ x ∈ fr,wr.heap[x]? = W.heap[x]?
theorem D.WM {own:List Ru} {new:List A} {y:List ByteArray} (h:∀ s,s ∈ y ↔ ∃ t ∈ new,t.name=s):(own.filter fun r=>r.body.any (mJ y))=Qa own new:=by
 classical
 unfold Qa;refine List.filter_congr fun q _=>?_
 refine congrArg (fun f=>q.body.any f) (funext fun p=>?_);unfold mJ;rw [decide_eq_decide.2 (h p.atom.name)]
theorem D.F6 {own:List Ru} {y:List ByteArray} (h:y = []):(own.filter fun r=>r.body.any (mJ y)) = []:=by
 subst h;rw [List.filter_eq_nil_iff];intro q _ hq;obtain ⟨p,_,I⟩:=List.any_eq_true.1 hq;unfold mJ at I;simp at I
def D.Eb (rs:List Ru) (xs:List A) (w:World) (e:Ending) (w':World):Prop:=
 Below w.heap.size w w'∧((fG rs xs=true∧(jb rs xs).2=true∧∃ z fr fs rn,w.heap.size≤z∧e=.returned (.tuple #[.pointer (some ⟨z+2,0,none⟩),.bool true])∧jP (z+3) (z+2) z (z+1) (fun _=>True) fr fs rn w'∧X9 fs rn (jb rs xs).1∧(∀ x ∈ fs,aW x)∧fs.length≤300) ∨
  ((fG rs xs=true→(jb rs xs).2=false)∧e=.returned (.tuple #[.pointer none,.bool false])))
theorem JY (rs:List Ru) (xs:List A) (v1 v2:Value) (b1 b2:List Nat) (w:World) (h:dW w [v1] rs b1) (h2:aC w [v2] xs b2) (hg:oC w):
  Calls Tryz.prog 72 #[v1,v2] w (Eb rs xs w):=by
 have c1:=vG rs xs v1 v2 b1 b2 w h h2 hg;obtain ⟨Ad,cap,rfl,cg,ci⟩:=aj h;obtain ⟨e3,cap2,rfl,_,_⟩:=aj h2;have dT:=ay (τ cg ci);have HH:=η (ι h h2);obtain ⟨i0,hi,cQ,cT,cU⟩:=info_parts Iy;clear h h2 hg cg ci
 cases hf:fG rs xs with
 | false=>
  have HP:Hid (∀ w',Below w.heap.size w w'→Eb rs xs w (.returned (.tuple #[.pointer none,.bool false])) w'):=η fun w' hb=>⟨hb,.inr ⟨Φ hf,rfl⟩⟩
  rw [hf] at c1;clear hf
  go_enter Tryz.func72,Tryz.ntmps72
  go_wp2_with fail
  refine c1.mono ?_;rintro e w1 ⟨rfl,aD⟩;have HB:=η aD;clear c1 aD;go_wp2;go_ret2;exact HP.out _ HB.out
 | true=>
  have hK:=nC hf;have HF:=η hf;rw [hf] at c1;clear hf
  go_enter Tryz.func72,Tryz.ntmps72
  go_wp2_with fail
  refine c1.mono ?_;rintro e w1 ⟨rfl,aD⟩;have ao:=η aD;clear c1 aD;have hR:=Wj ((nO rs).2 hK.fine);have aE:∀ f ∈ xs,aW f:=fun f hf=>BN (hK.facts f hf)
  have c2:=NY xs _ b2 w1 (au.below HH.out.2 ao.out) aE (lT hK.gm) (by have:=hK.n; omega)
  go_wp2_with fail
  refine c2.mono ?_;rintro e w2 ⟨rfl,hS⟩;obtain ⟨cj,ck⟩:=hS.uh (fun x hx=>κ (au.lt HH.out.2 x hx) ao.out.size);have bp:=η (ao.out.trans (cj.mono ao.out.size));have cl:=η ck;clear hS ck cj c2;have c3:=y9 rs _ b1 w2 (aS.below HH.out.1 bp.out) hK.m hK.ok
  go_wp2_with fail
  refine c3.mono ?_;rintro e w3 ⟨bE,a9⟩;clear c3
  rcases a9 with ⟨bz,_⟩ | ⟨_,v5,b5,rfl,aL,aM⟩
  ·have:=hK.fine.no
   rw [this] at bz; cases bz
  ·obtain ⟨A5,c5,rfl,_,_⟩:=aj aL
   have a1:jP (w1.heap.size+3) (w1.heap.size+2) w1.heap.size (w1.heap.size+1) (fun _=>True) b5 xs (List.replicate xs.length 0) w3:=by
    have:=(cl.out.mono (Fb':=fun _=>True) fun _ _ _=>trivial).more bE b5 fun x hx=>⟨(aM.own x hx).1,aM.lt hx⟩
    simpa using this
   have cm:Hid (ru rs xs 0 xs (List.replicate xs.length 0) 0):=η (all_start hK.gm aE (by have:=hK.n; omega));have cn:=η a1;have co:=η (bp.out.trans (bE.mono bp.out.size));have cq:=η aL;have cV:Hid ((aA rs).length=rs.length):=η (gu rs);clear a1 aL aM bE cl;have aq:=η hR;have HK:=η hK;have cr:=η ao.out.size;have cW:rs.length≤8:=hK.m;clear aE hR hK;go_wp2;generalize w1.heap.size=z at *;clear ao bp
   go_loopw [9,30] (fun v9 i wr=>∃ (L:Nat) (fs:List A) (rn:List Nat) (number:Nat),L≤rs.length∧i=.int .i64 L∧v9=.int .i64 number∧ru rs xs L fs rn number∧jP (z+3) (z+2) z (z+1) (fun _=>True) b5 fs rn wr∧Below w.heap.size w wr∧∀ x ∈ b5,wr.heap[x]? = w3.heap[x]?) (fun _ i _=>rs.length - (intOf i).toNat)
   case atStart=>exact ⟨0,xs,_,0,ε,rfl,rfl,cm.out,cn.out,co.out,fun x _=>rfl⟩
   case round=>
    obtain ⟨L,fs,rn,number,hL,rfl,rfl,a6,a1,af,aR⟩:=hrel;clear cm cn co;have cX:=η a6;have b3:=η a1;have b4:=η af;have bA:=η aR;by_cases a7:L < rs.length
    ·have cv:Hid (BP wr b1 (.slice none 0 0) [] [] wr):=η ⟨⟨[],aX.nil _,fun b hb=>by simp at hb⟩,ϑ⟩
     have e4:(0:Int)≤(L:Int):=by omega
     have cY:(L:Int) < (rs.length:Int):=by omega
     have b8:=η a7;clear a6 a1 af aR;obtain ⟨W0,d3⟩:∃ W0,W0=wr:=⟨_,rfl⟩;subst d3;go_wp2
     go_loopw [11,35] (fun v i d4=>∃ (k:Nat) (Av:Option Addr) (cp:Nat) (M:List Value) (ys:List Ru),k≤rs.length∧i=.int .i64 k∧v=.slice Av ys.length cp∧ys=(rs.take k).filter (fun r=>decide (fP rs r.head.name=L))∧BP W0 b1 (.slice Av ys.length cp) M ys d4) (fun _ i _=>rs.length - (intOf i).toNat)
     case atStart=>exact ⟨0,none,0,[],[],ε,rfl,rfl,rfl,cv.out⟩
     case round=>
      obtain ⟨k,Av,cp,M,ys,hk,rfl,rfl,bL,hV⟩:=hrel;clear cv;have HY:=η bL
      have bO:Hid (ys.length≤1000000):=η (by
       rw [bL];refine τ (List.length_filter_le _ _) ?_
       rw [List.length_take]; omega)
      clear bL;have hB:=b4.out.trans (hV.bel.mono b4.out.size);by_cases a7:k < rs.length
      ·obtain ⟨b,o,Ae,ce,Af,cf,bk,rfl,_,d0,d1,d2,bR,bB⟩:=iI HH.out.1 a7
       replace d0:=ξ hB d0;replace d1:=ξ hB d1;replace d2:=ξ hB d2;have aa:k < (aA rs).length:=by rw [cV.out]; exact a7
       obtain ⟨b7,o7,rfl,cw,e7⟩:=qP cq.out aa;have e8:wr.cell? ⟨b7,o7+k,none⟩=some (.int .i64 ((aA rs)[k]:Nat)):=(World.cell?_of_block ((hV.bel.block b7 (b3.out.lt.2.2 _ cw)).trans (bA.out _ cw))).trans e7;have e5:(0:Int)≤(k:Int):=by omega
       have d5:(k:Int) < (rs.length:Int):=by omega
       have e6:(k:Int) < ((aA rs).length:Int):=by omega
       have bq:=XZ aq.out a7 aa;have hA:Below wr.heap.size wr (wr.alloc (.cells #[.string rs[k].head.name,.slice Ae rs[k].head.args.length ce,.slice Af rs[k].body.length cf] 40)):=ζ;have bX:=η (hV.below hA);have d6:=η (aY.below (aY.below bR hB) hA);have cx:=η (Dk (fun r:Ru=>decide (fP rs r.head.name=L)) rs k a7);have d7:Hid (∀ c ∈ bk,c < W0.heap.size):=η fun c hc=>κ (aY.lt bR c hc) b4.out.size
       have cy:=η bB;have e9:W0.heap.size≤wr.heap.size:=hV.bel.size;have ea:=lt_of_cell e8;clear bR bB hV hA hB e7;generalize (aA rs)[k]=lv at *;generalize rs[k]=r at *;obtain ⟨⟨nm,args⟩,body⟩:=r;dsimp only at *;have ag:=η a7;clear a7 aa;by_cases hq:lv=L
       ·have d8:((lv:Int) == (L:Int))=true:=beq_iff_eq.2 (by omega)
        have HQ:Hid ((rs.take (k+1)).filter (fun r=>decide (fP rs r.head.name=L))=ys ++ [(⟨⟨nm,args⟩,body⟩:Ru)]):=η (by rw [cx.out,HY.out,if_pos (by simp [← bq,hq])]);have br:Below (wr.alloc (.cells #[.string nm,.slice Ae args.length ce,.slice Af body.length cf] 40)).heap.size (wr.alloc (.cells #[.string nm,.slice Ae args.length ce,.slice Af body.length cf] 40)) ((wr.alloc (.cells #[.string nm,.slice Ae args.length ce,.slice Af body.length cf] 40)).alloc (.cells #[.string nm,.slice Ae args.length ce,.slice Af body.length cf] 40)):=ζ;obtain ⟨d9,ar,b9⟩:=(bX.out.below br).coll;have HC:=η ar;have da:=η b9;have HB:=η (bX.out.below br).bel;have HR:Hid (aT 3 iy ((wr.alloc (.cells #[.string nm,.slice Ae args.length ce,.slice Af body.length cf] 40)).alloc (.cells #[.string nm,.slice Ae args.length ce,.slice Af body.length cf] 40)) [.string nm,.slice Ae args.length ce,.slice Af body.length cf] [(⟨⟨nm,args⟩,body⟩:Ru)] bk):=η (aT.dJ oW (aY.below d6.out br))
        have HL:Hid (Lies ((wr.alloc (.cells #[.string nm,.slice Ae args.length ce,.slice Af body.length cf] 40)).alloc (.cells #[.string nm,.slice Ae args.length ce,.slice Af body.length cf] 40)) (some ⟨wr.heap.size+1,0,none⟩) [.string nm,.slice Ae args.length ce,.slice Af body.length cf]):=η (by
         have:=aP (ω (wr.alloc (.cells #[.string nm,.slice Ae args.length ce,.slice Af body.length cf] 40)) (.cells #[.string nm,.slice Ae args.length ce,.slice Af body.length cf] 40))
         simpa using this)
        have HF:Hid (∀ c,c < W0.heap.size+1→(Value.slice Av ys.length cp).ownBlock ≠ some c):=η fun c hc=>aO ar.own hc
        have bc:W0.heap.size+1≤((wr.alloc (.cells #[.string nm,.slice Ae args.length ce,.slice Af body.length cf] 40)).alloc (.cells #[.string nm,.slice Ae args.length ce,.slice Af body.length cf] 40)).heap.size:=by simp; omega
        have db:=η bc;clear ar b9 br bc bq hq
        go_wp2_with (at_builtin; refine bU rfl _ _ _ rfl (W0.heap.size+1) 40 i0 (.agg #[.string ⟨#[]⟩,.slice none 0 0,.slice none 0 0]) 3 64 Tryz.underlying23 hi cQ cT cU rfl (by omega) aY (.slice Av ys.length cp) ys.length _ _ _ rfl HC.out rfl (some ⟨wr.heap.size+1,0,none⟩) 1 1 _ [⟨⟨nm,args⟩,body⟩] _ rfl HR.out rfl HL.out (fun c hc=>HF.out c (by have:=d7.out c hc; omega)) (by have:=bO.out; unfold maxLen; omega) (by have:=bO.out; omega) W0 W0.heap.size HB.out (Nat.le_succ _) db.out ?_; intro A9 dc w9 cz cA de dg)
        have di:Hid (BP W0 b1 (.slice A9 (ys ++ [(⟨⟨nm,args⟩,body⟩:Ru)]).length dc) (M ++ [.string nm,.slice Ae args.length ce,.slice Af body.length cf]) (ys ++ [(⟨⟨nm,args⟩,body⟩:Ru)]) w9):=η ⟨⟨_,by rw [χ]; exact cz,fun b hb=>(μ.1 hb).elim (da.out b) (cy.out b)⟩,cA⟩;have cB:ys.length+1=(ys ++ [(⟨⟨nm,args⟩,body⟩:Ru)]).length:=by simp
        rw [cB];clear cz cA de dg HC HB HR HL HF cB;go_roundw
        case rel=>exact ⟨k+1,_,_,_,_,ag.out,by go_num,rfl,HQ.out.symm,di.out⟩
        case measure=>have:=ag.out; simp [intOf]; omega
       ·have d8:((lv:Int) == (L:Int))=false:=by
         rw [beq_eq_false_iff_ne]; omega
        have HQ:Hid ((rs.take (k+1)).filter (fun r=>decide (fP rs r.head.name=L))=ys):=η (by rw [cx.out,HY.out,if_neg (by simp [← bq,hq])]);clear bq hq;go_wp2;go_roundw
        case rel=>exact ⟨k+1,_,_,_,_,ag.out,by go_num,rfl,HQ.out.symm,bX.out⟩
        case measure=>have:=ag.out; simp [intOf]; omega
      ·have dj:k=rs.length:=by omega
       have d5:¬ (k:Int) < (rs.length:Int):=by omega
       have cD:Hid (ys=WI rs L):=η (by rw [HY.out,ϕ (Nat.le_of_eq dj.symm)]; rfl);obtain ⟨d9,ar,b9⟩:=hV.coll;obtain ⟨b6,bt,y⟩:=ar.slice;obtain ⟨a0,bu⟩:∃ a0,a0=b5 ++ b6.filter (fun b=>decide (W0.heap.size≤b)):=⟨_,rfl⟩
       have bf:jP (z+3) (z+2) z (z+1) (fun _=>True) a0 fs rn wr:=bu ▸ b3.out.more hV.bel _ fun x hx=>by
        obtain ⟨h1,h2⟩:=List.mem_filter.1 hx;exact ⟨of_decide_eq_true h2,aS.lt bt x h1⟩
       have cE:Hid (∀ w',Below w.heap.size w w'→(∀ x ∈ a0,w'.heap[x]? = wr.heap[x]?)→dW w' [.slice Av ys.length cp] ys b6):=η fun w' h1 h2=>aS.keep bt fun b hb=>by
        by_cases dk:W0.heap.size≤b
        ·exact h2 b (bu ▸ Ω _ (List.mem_filter.2 ⟨hb,decide_eq_true dk⟩))
        ·rcases y b hb with h3 | h3
         ·omega
         ·have h4:=aS.lt HH.out.1 b (b9 b h3)
          exact (h1.block b h4).trans (hB.block b h4).symm
       have cG:Hid (∀ x ∈ b5,x ∈ a0):=η fun x hx=>bu ▸ Ξ _ hx
       have dl:Hid (∀ x ∈ b5,wr.heap[x]? = w3.heap[x]?):=η fun x hx=>(hV.bel.block x (b3.out.lt.2.2 x hx)).trans (bA.out x hx)
       have eb:=η hB;have a2:rC rs xs L ys ys fs rn number:=cX.out.enter;have cI:Hid (X4 rs xs L z ys a0 w wr ys fs rn number wr):=η ⟨a2,fun q hq=>hq,bf,hB,fun x _=>rfl⟩;have cJ:Hid (dW wr [.slice Av ys.length cp] ys b6):=η bt;clear hV ar bt y bu bf hB a2 HY b9;obtain ⟨W9,dp⟩:∃ W9,W9=wr:=⟨_,rfl⟩;subst dp;go_wp2
       go_loopg [9,14] 1000 (fun gg v9 ds cK=>∃ (next:List Ru) (c4:Option Addr) (c6:Nat) (c7:List Nat) (I:List A) (a4:List Nat) (J:Nat),v9=.int .i64 J∧ds=.slice c4 next.length c6∧2 * (300 - I.length)+(if next = [] then 0 else 1)≤gg∧Aside (X4 rs xs L z ys a0 w W9 next I a4 J cK)∧Aside (dW cK [.slice c4 next.length c6] next c7))
       case atStart=>exact ⟨ys,Av,cp,b6,fs,rn,number,rfl,rfl,by split <;> omega,cI.out,cJ.out⟩
       case round=>
        obtain ⟨next,c4,c6,c7,I,a4,J,rfl,rfl,bv,a5,c8⟩:=hrel;clear cI cJ;by_cases bg:next = []
        ·subst bg
         have HD:Hid (ru rs xs (L+1) I a4 J∧jP (z+3) (z+2) z (z+1) (fun _=>True) b5 I a4 wr∧Below w.heap.size w wr∧∀ x ∈ b5,wr.heap[x]? = w3.heap[x]?):=η ⟨a5.out.mid.done aq.out (Nat.le_of_lt b8.out) (cD.out ▸ WL rs L),a5.out.uh.sub cG.out,a5.out.bel,fun x hx=>(a5.out.kep x (cG.out x hx)).trans (dl.out x hx)⟩;clear a5 c8 bv;go_wp2;go_roundw
         case rel=>exact ⟨L+1,I,a4,J,b8.out,by go_num,rfl,HD.out⟩
         case measure=>have:=b8.out; simp [intOf]; omega
        ·have e0:0 < next.length:=List.length_pos_iff.2 bg
         rw [if_neg bg] at bv;have ec:(0:Int) < (next.length:Int):=by omega
         obtain ⟨c9,dt,ed,am⟩:=a5.out.mid.few;have ab:OwnAt rs L ys:=cD.out ▸ WL rs L;have ac:=TU (z+3) (z+2) z (z+1) (fun _=>True) (fun _ _=>trivial) a0 I a4 next _ c7 (J+1) w.heap.size wr a5.out.uh c8.out am c9 (by omega) (fun r hr=>aq.out.fol r ((ab r).1 (a5.out.sub r hr)).1) (by have:=cr.out; omega);have e1:(0:Int)≤(J:Int):=by omega
         have e2:(J:Int)≤300:=by omega
         have bh:((J+1:Nat):Int)=(J:Int)+1:=by omega
         rw [bh] at ac;clear bh;have HG:=η bv;have cL:=η bg;have bi:=η a5.out;have cP:=η ab;clear bv bg a5 c8 am ab dt
         go_wp2_with fail
         refine ac.mono ?_;rintro e w5 ⟨bj,a9⟩;clear ac
         rcases a9 with ⟨new,mc,n,Lm,fm,rfl,av,bl,aw,ca,az,aa,bw,ee,bn,cb⟩ | ⟨rfl,new,av,bl,aw⟩
         ·have U:=bi.out.bel.trans bj
          have a3:∀ x ∈ a0,w5.heap[x]? = W9.heap[x]?:=fun x hx=>(aa x hx).trans (bi.out.kep x hx)
          have a2:=bi.out.mid.round aq.out (Nat.le_of_lt b8.out) cP.out cL.out av aw ca;have HT:=η (MR mc n Lm fm ys (.slice Av ys.length cp) b6 w5 (cE.out w5 U a3) bw cb bO.out);have bx:=η bw;by_cases hz:new = []
          ·have ae:Lm = []:=List.eq_nil_iff_forall_not_mem.2 fun s hs=>by
            obtain ⟨t,ht,_⟩:=(bn s).1 hs;rw [hz] at ht; simp at ht
           have bo:jP (z+3) (z+2) z (z+1) (fun _=>True) a0 I a4 w5:=by
            rw [hz] at az; simpa using az
           have HN:Hid ((ys.filter fun r=>r.body.any (mJ Lm)) = []∧∀ w6,Below w5.heap.size w5 w6→X4 rs xs L z ys a0 w W9 (ys.filter fun r=>r.body.any (mJ Lm)) I a4 J w6):=η ⟨F6 ae,fun w6 y=>by
            rw [F6 ae]
            exact ⟨a2.1 hz,fun q hq=>by simp at hq,bo.later y,U.trans (y.mono U.size),fun x hx=>(y.block x (bo.lt.2.2 x hx)).trans (a3 x hx)⟩⟩
           have du:(Lm.length:Int)=0:=by rw [ae]; rfl
           clear bj az bo aa bw bn cb U a3 a2 ae av bl aw ca
           go_wp2_with (at_len; refine fA _ rfl _ _ rfl Tryz.underlying116 _ _ Lm _ rfl bx.out ?_)
           go_wp2_with fail
           refine HT.out.mono ?_;rintro e w6 ⟨y,dv,dx,dy,rfl,a8⟩;have cc:=η (HN.out.2 w6 y);have cd:=η a8;have dz:=η HN.out.1;clear y a8 HT HN bx;go_wp2
           go_roundg (2 * (300 - I.length))
           case measure=>have:=HG.out; omega
           case rel=>exact ⟨_,_,_,_,I,a4,J,rfl,rfl,by rw [if_pos dz.out]; omega,cc.out,cd.out⟩
          ·have eg:0 < new.length:=List.length_pos_iff.2 hz
           have ae:Lm ≠ []:=fun e=>by
            obtain ⟨t,ht⟩:=List.exists_mem_of_ne_nil _ hz;have:=(bn t.name).2 ⟨t,ht,rfl⟩;rw [e] at this; simp at this
           have du:(0:Int) < (Lm.length:Int):=by have:=List.length_pos_iff.2 ae; omega
           have HN:Hid (∀ w6,Below w5.heap.size w5 w6→X4 rs xs L z ys a0 w W9 (ys.filter fun r=>r.body.any (mJ Lm)) (I ++ new) (a4 ++ List.replicate new.length (J+1)) (J+1) w6):=η fun w6 y=>by
            have h1:=a2.2 hz;rw [← WM bn] at h1;exact ⟨h1,fun q hq=>(List.mem_filter.1 hq).1,az.later y,U.trans (y.mono U.size),fun x hx=>(y.block x (az.lt.2.2 x hx)).trans (a3 x hx)⟩
           have dC:Hid (2 * (300 - (I ++ new).length)+1 < 2 * (300 - I.length)+1):=η (by rw [χ]; omega);clear bj az aa bw bn cb U a3 a2 ae av bl aw ca
           go_wp2_with (at_len; refine fA _ rfl _ _ rfl Tryz.underlying116 _ _ Lm _ rfl bx.out ?_)
           go_wp2_with fail
           refine HT.out.mono ?_;rintro e w6 ⟨y,dv,dx,dy,rfl,a8⟩;have cc:=η (HN.out w6 y);have cd:=η a8;clear y a8 HT HN bx;go_wp2
           go_roundg (2 * (300 - (I ++ new).length)+1)
           case measure=>have:=HG.out; have:=dC.out; omega
           case rel=>exact ⟨_,_,_,_,I ++ new,_,J+1,by go_num,rfl,by split <;> omega,cc.out,cd.out⟩
         ·have HP:Hid (Eb rs xs w (.returned (.tuple #[.pointer none,.bool false])) w5):=η ⟨bi.out.bel.trans bj,.inr ⟨fun _=>bi.out.mid.over aq.out (Nat.le_of_lt b8.out) cP.out cL.out av bl aw,rfl⟩⟩
          clear bj av bl aw;go_wp2;go_ret2;exact HP.out
    ·have dE:L=rs.length:=by omega
     have cY:¬ (L:Int) < (rs.length:Int):=by omega
     have HP:Hid (Eb rs xs w (.returned (.tuple #[.pointer (some ⟨z+2,0,none⟩),.bool true])) wr):=η (by
      rw [dE] at a6;obtain ⟨h1,h2,h3,h4,h5⟩:=a6.fin aq.out
      exact ⟨af,.inl ⟨HF.out,h1,z,b5,fs,rn,cr.out,rfl,a1,h2,h4,h5⟩⟩)
     clear a6 a1 af aR;go_wp2;go_ret2;exact HP.out
theorem D.IZ {rs:List Ru} {xs:List A} (h:fG rs xs=true) (I:(jb rs xs).2=true):qB (jb rs xs).1∧(∀ x ∈ (jb rs xs).1.1,aW x)∧(jb rs xs).1.1.length≤300∧∀ t,t ∈ (jb rs xs).1.1 ↔ DY rs (fun x=>x ∈ xs) t:=by
 have hK:=nC h
 rcases Oc (Wj ((nO rs).2 hK.fine)) hK.gm (fun f hf=>BN (hK.facts f hf)) (by have:=hK.n; omega) with ⟨_,y,J,U,h6⟩ | ⟨y,_⟩
 ·exact ⟨J,U,y,h6⟩
 ·rw [I] at y; cases y
theorem D.F7 {rs:List Ru} {xs:List A} (h:fG rs xs=true) (y:(jb rs xs).2=true):bK rs xs=((jb rs xs).1.1,true):=by unfold bK; rw [if_pos h,if_pos y]
theorem D.Ec {rs:List Ru} {xs:List A} (h:fG rs xs=true→(jb rs xs).2=false):bK rs xs=([],false):=by
 unfold bK;by_cases y:fG rs xs=true
 ·rw [if_pos y,h y]; rfl
 ·rw [if_neg y]
theorem I4 (rs:List Ru) (xs:List A) (v1 v2:Value) (b1 b2:List Nat) (w:World) (h:dW w [v1] rs b1) (h2:aC w [v2] xs b2) (hg:oC w):
  Calls Tryz.prog 53 #[v1,v2] w fun e w'=>Below w.heap.size w w'∧∃ Av cp bs,e=.returned (.tuple #[.slice Av (bK rs xs).1.length cp,.bool (bK rs xs).2])∧aC w' [.slice Av (bK rs xs).1.length cp] (bK rs xs).1 bs:=by
 have c1:=JY rs xs v1 v2 b1 b2 w h h2 hg;obtain ⟨Ad,cap,rfl,a7,a8⟩:=aj h;obtain ⟨ac,cap2,rfl,_,_⟩:=aj h2;clear h h2 hg a7 a8
 go_enter Tryz.func53,Tryz.ntmps53
 go_wp2_with fail
 refine c1.mono ?_;rintro e w1 ⟨y,a2⟩;clear c1
 rcases a2 with ⟨hok,I,z,fr,fs,rn,hz,rfl,a4,U,a0,hlen⟩ | ⟨a5,rfl⟩
 ·obtain ⟨Af,cf,Lf,Ar,cr,Lr,ou,bf,S,_,_⟩:=a4
  have hC:=S.cF;have c2:=JW fs _ Lf bf (z+3) w1 hC (by omega);have x0:w1.cell? ⟨z+2,0,none⟩=some (.slice Af fs.length cf):=ai S.blk;have lx:=lt_of_cell x0
  have hE:Hid (∀ w2 ys L' bs',ys.Perm fs→ys.Pairwise (fun a b=>¬ bV b a < 0)→aX 2 aJ (z+3) 33 w2 (.slice Af fs.length cf) L' ys bs'→iw (fun x=>(Value.slice Af fs.length cf).ownBlock=some x) w1 w2→
    w2.cell? ⟨z+2,0,none⟩=some (.slice Af fs.length cf)∧Below w.heap.size w w2∧(bK rs xs).2=true∧(bK rs xs).1.length=fs.length∧∃ b9,aC w2 [.slice Af fs.length cf] (bK rs xs).1 b9):=η fun w2 ys L' bs' q1 q2 q3 J=>by
   have a6:∀ x,(Value.slice Af fs.length cf).ownBlock=some x→z+3≤x:=fun x hx=>by
    have h9:¬ x < z+3:=fun h=>aO hC.own h hx
    exact Nat.le_of_not_lt h9
   obtain ⟨r1,r2,r3,r4⟩:=IZ hok I;have a3:=U.fst r1;have a1:∀ t ∈ ys,aW t:=fun t ht=>a0 t (q1.mem_iff.1 ht)
   have a9:ys.Nodup:=(q1.trans a3).nodup_iff.2 (lT r1.gm);have aa:ys=(jb rs xs).1.1:=N8 (Qc a1 a9 q2) r1.gm a1 r2 fun t=>by rw [q1.mem_iff,a3.mem_iff]
   obtain ⟨b9,ab,_⟩:=q3.slice;rw [F7 hok I];refine ⟨(World.cell?_of_block (J.block (z+2) (lt_of_cell x0) (fun e=>by have:=a6 (z+2) e; omega))).trans x0,⟨J.os.trans y.os,J.tape.trans y.tape,J.output.trans y.output,τ y.size J.size,fun k hk=>(J.block k (κ hk y.size) fun e=>by have:=a6 k e; omega).trans (y.block k hk)⟩,rfl,a3.length_eq.symm,b9,?_⟩;rw [← aa];exact ab
  clear S hC U a0 y hok I
  go_wp2_with fail
  refine c2.mono ?_;rintro e w2 ⟨rfl,ys,L',bs',q1,q2,_,J,q5⟩;obtain ⟨y0,y1,y2,y3,b9,y4⟩:=hE.out w2 ys L' bs' q1 q2 J q5;have HB:=η y1;have H4:=η y4;have H2:=η y2;have H3:=η y3;clear hE c2 q1 q2 J q5 y1 y4 y2 y3 x0;go_wp2;go_ret2;rw [H2.out,H3.out];exact ⟨HB.out,Af,cf,b9,rfl,H4.out⟩
 ·have HE:=η (Ec a5)
  clear a5;go_wp2;go_ret2;rw [HE.out];exact ⟨y,none,0,[],rfl,⟨none,0,rfl,ν,ε,fun _=>rfl,fun h=>absurd rfl h⟩⟩
end
section
open Go.RowKit D
theorem D.F8 (rs:List Ru) (xs:List A):(fG rs xs=true∧(jb rs xs).2=true∧bK rs xs=((jb rs xs).1.1,true))∨bK rs xs=([],false):=by
 by_cases hc:fG rs xs=true∧(jb rs xs).2=true
 ·exact .inl ⟨hc.1,hc.2,F7 hc.1 hc.2⟩
 ·refine .inr (Ec fun h=>?_)
  cases hr:(jb rs xs).2
  ·rfl
  ·exact absurd ⟨h,hr⟩ hc
theorem D.YR {xs:List A} (h1:xs.length≤300) (y:∀ x ∈ xs,aW x) (I:gm xs=true):aU xs=true:=by
 unfold aU;simp only [ο,decide_eq_true_eq,ό];exact ⟨⟨h1,fun x J=>qZ (y x J)⟩,I⟩
theorem D.TV {rs:List Ru} {xs:List A} (h0:eU rs=0) (h1:xs.length≤40) (y:∀ x ∈ xs,aW x) (I:gm xs=true) (J:sJ (aB rs) xs=true):fG rs xs=true:=by
 unfold fG okB;simp only [ο,decide_eq_true_eq,ό];exact ⟨⟨h0,⟨fun x U=>qZ (y x U),I⟩,h1⟩,J⟩
structure D.WN (rs:List Ru) (xs:List A):Prop where
 prog:eU rs=0
 few:xs.length≤40
 fact:∀ x ∈ xs,aW x
 gm:gm xs=true
 fit:sJ (aB rs) xs=true
theorem D.BQ {rs:List Ru} {xs:List A}:fG rs xs=true ↔ WN rs xs:=by
 constructor
 ·intro h
  have hK:=nC h;exact ⟨(nO rs).2 hK.fine,hK.n,fun x y=>BN (hK.facts x y),hK.gm,hK.fit⟩
 ·exact fun h=>TV h.prog h.few h.fact h.gm h.fit
theorem D.WN.rules {rs:List Ru} {xs:List A} (h:WN rs xs):uf rs:=Wj h.prog
theorem D.Qd {rs:List Ru} {xs:List A} (h:WN rs xs):(∃ ys,bK rs xs=(ys,true)∧gm ys=true∧(∀ y ∈ ys,aW y)∧ys.length≤300∧∀ t,t ∈ ys ↔ DY rs (fun x=>x ∈ xs) t) ∨
  (bK rs xs=([],false)∧∃ L:List A,L.Nodup∧300 < L.length∧∀ t ∈ L,DY rs (fun x=>x ∈ xs) t):=by
 have hok:=BQ.2 h
 rcases Oc h.rules h.gm h.fact (by have:=h.few; omega) with ⟨I,J,U,h5,h6⟩ | ⟨I,hL⟩
 ·exact .inl ⟨_,F7 hok I,U.gm,h5,J,h6⟩
 ·exact .inr ⟨Ec fun _=>I,hL⟩
theorem D.rE {rs:List Ru} {xs:List A} (h:(bK rs xs).2=true):WN rs xs∧gm (bK rs xs).1=true∧(∀ y ∈ (bK rs xs).1,aW y)∧(bK rs xs).1.length≤300∧∀ t,t ∈ (bK rs xs).1 ↔ DY rs (fun x=>x ∈ xs) t:=by
 rcases F8 rs xs with ⟨h1,h2,e⟩ | e
 ·have hin:=BQ.1 h1
  rcases Qd hin with ⟨ys,I,J,U,h5,h6⟩ | ⟨I,_⟩
  ·rw [I]
   exact ⟨hin,J,U,h5,h6⟩
  ·rw [I] at h; cases h
 ·rw [e] at h; cases h
section
variable {rs:List Ru} {xs:List A}
end
theorem D.Qe {rs:List Ru} {xs xs':List A} {N:ByteArray→Prop} (h:(bK rs xs).2=true) (h':(bK rs xs').2=true) (U:∀ r ∈ rs,N r.head.name→∀ p ∈ r.body,N p.atom.name) (y:∀ t:A,N t.name→(t ∈ xs ↔ t ∈ xs')) {n:ByteArray} (hn:N n):
  (bK rs xs).1.filter (fun t=>decide (t.name=n))=(bK rs xs').1.filter (fun t=>decide (t.name=n)):=by
 obtain ⟨_,h2,h3,_,h5⟩:=rE h;obtain ⟨_,k2,k3,_,k5⟩:=rE h';refine N8 (D7 h2 List.filter_sublist) (D7 k2 List.filter_sublist) (fun x y=>h3 x (List.mem_filter.1 y).1) (fun x y=>k3 x (List.mem_filter.1 y).1) fun t=>?_
 rw [List.mem_filter,List.mem_filter,decide_eq_true_iff];constructor
 ·rintro ⟨J,I⟩
  exact ⟨(k5 t).2 ((FY U y (by rw [I]; exact hn)).1 ((h5 t).1 J)),I⟩
 ·rintro ⟨J,I⟩
  exact ⟨(h5 t).2 ((FY U y (by rw [I]; exact hn)).2 ((k5 t).1 J)),I⟩
def D.dY (rs:List Ru) (xs:List A) (c:Ch):Ch × Bool:=
 if (fG rs xs && fK c)=true then (if ((bK rs xs).2 && (bK rs (behind xs c)).2)=true then (qx (bK rs xs).1 (bK rs (behind xs c)).1,true) else (⟨[],[]⟩,false)) else (⟨[],[]⟩,false)
theorem D.tJ {rs:List Ru} {xs:List A}:aU (bK rs xs).1=true:=by
 rcases F8 rs xs with ⟨h1,y,e⟩ | e
 ·rw [e]
  obtain ⟨r1,I,J,_⟩:=IZ h1 y
  exact wX J (fun x U=>by
   have h:=I x U;unfold dI kU;rw [h.ok,Bool.true_and,Bool.not_eq_true',List.any_eq_false];intro t ht;rw [h.gr t ht]
   simp) r1.gm
 ·rw [e]; rfl
theorem D.nI {rs:List Ru} {xs:List A} (h:fG rs xs=true):aU xs=true:=by
 have hK:=nC h;exact wX (by have:=hK.n; omega) hK.facts hK.gm
theorem D.Du (xs:List A):behind xs ⟨[],[]⟩=xs:=by
 unfold behind kY cu;simp only [List.foldl_nil];rw [List.filter_eq_self];intro x _;simp [hasB]
theorem D.GN:fK ⟨[],[]⟩=true:=by decide
theorem D.BR {rs:List Ru} {xs:List A} {c:Ch} (h:(dY rs xs c).2=true):fG rs xs=true∧fK c=true∧(bK rs xs).2=true∧(bK rs (behind xs c)).2=true∧(dY rs xs c).1=qx (bK rs xs).1 (bK rs (behind xs c)).1:=by
 unfold dY at *
 split at h
 ·rename_i h1
  split at h
  ·rename_i h2
   rw [ο] at h1 h2;refine ⟨h1.1,h1.2,h2.1,h2.2,?_⟩;rw [if_pos (by rw [h1.1,h1.2]; rfl),if_pos (by rw [h2.1,h2.2]; rfl)]
  ·cases h
 ·cases h
theorem D.WO {rs:List Ru} {xs:List A} {c:Ch} (h1:fG rs xs=true) (y:fK c=true) (I:(bK rs xs).2=true) (J:(bK rs (behind xs c)).2=true):dY rs xs c=(qx (bK rs xs).1 (bK rs (behind xs c)).1,true):=by
 unfold dY;rw [h1,y,I,J]; rfl
theorem D.jF (rs:List Ru) (xs:List A):aU (bK rs xs).1=true:=tJ
theorem D.YS {xs:List A} {c:Ch} (y:aU xs=true) (hc:fK c=true) (I:(behind xs c).length≤300):YU xs c=behind xs c:=by
 unfold YU;rw [y,hc,Bool.and_self,if_pos rfl,if_pos I]
theorem D.TW {rs:List Ru} {xs:List A} {c:Ch} (h:(dY rs xs c).2=true):YU xs c=behind xs c∧fK (dY rs xs c).1=true∧YU (bK rs xs).1 (dY rs xs c).1=(bK rs (behind xs c)).1∧dY rs xs ⟨[],[]⟩=(⟨[],[]⟩,true):=by
 obtain ⟨h1,U,y,I,J⟩:=BR h;have hx:=nI h1;have hb:=(BQ.2 (rE I).1);have hl:(behind xs c).length≤40:=(rE I).1.few
 have e:qx (bK rs xs).1 (bK rs (behind xs c)).1=⟨cu (bK rs (behind xs c)).1 (bK rs xs).1,cu (bK rs xs).1 (bK rs (behind xs c)).1⟩:=by
  unfold qx; rw [jF,jF]; rfl
 refine ⟨YS hx U (by omega),?_,?_,?_⟩
 ·rw [J,e]; exact Vo (jF _ _) (jF _ _)
 ·rw [J,e]; exact YC (jF _ _) (jF _ _)
 ·rw [WO h1 GN y (by rw [Du]; exact y),Du]
  unfold qx;rw [jF];simp [SY]
theorem D.Qg {xs:List A} {c:Ch} (J:aU xs=true) (hc:fK c=true) {N:ByteArray→Prop} (h1:∀ t ∈ c.comes,¬ N t.name) (U:∀ t ∈ c.goes,¬ N t.name) (hb:∀ t ∈ behind xs c,aW t) (t:A) (I:N t.name):t ∈ xs ↔ t ∈ behind xs c:=by
 constructor
 ·intro hm
  have hf:=gU J t hm;refine (zI (fun y hy=>qZ (hb y hy)) hf).1 ?_;rw [Np,jR hm,Bool.true_and]
  have:hasB c.goes t=false:=by
   cases hg:hasB c.goes t
   ·rfl
   ·exact absurd I (U t ((zI (gU (jy hc).2) hf).1 hg))
  rw [this]; rfl
 ·intro hm
  rcases xK hm with h | h
  ·exact h
  ·exact absurd I (h1 t h)
theorem D.I5 {xs ys:List A} (I:aU xs=true) (J:aU ys=true) {n:ByteArray} (h:xs.filter (fun t=>decide (t.name=n))=ys.filter (fun t=>decide (t.name=n))):(cu xs ys).filter (fun t=>decide (t.name=n)) = []:=by
 rw [List.filter_eq_nil_iff];intro t y hn;have U:=of_decide_eq_true hn;have hm:=qI y;have hf:=gU I t hm;have h1:t ∈ ys.filter (fun t=>decide (t.name=n)):=h ▸ List.mem_filter.2 ⟨hm,hn⟩;exact (YB (gU J) hm hf).1 y (List.mem_filter.1 h1).1
theorem D.Oq {rs:List Ru} {xs:List A} {c:Ch} (h:(dY rs xs c).2=true) {N:ByteArray→Prop} (J:∀ r ∈ rs,N r.head.name→∀ p ∈ r.body,N p.atom.name) (h1:∀ t ∈ c.comes,¬ N t.name) (U:∀ t ∈ c.goes,¬ N t.name) {n:ByteArray} (hn:N n):
  (dY rs xs c).1.comes.filter (fun t=>decide (t.name=n)) = []∧(dY rs xs c).1.goes.filter (fun t=>decide (t.name=n)) = []:=by
 obtain ⟨a1,a2,a3,I,a5⟩:=BR h;have hx:=nI a1;have y:=Qe a3 I J (fun t ht=>Qg hx a2 h1 U (rE I).1.fact t ht) hn;rw [a5];unfold qx;rw [jF,jF];exact ⟨I5 (jF _ _) (jF _ _) y.symm,I5 (jF _ _) (jF _ _) y⟩
theorem D.TY {rs:List Ru} {s:ByteArray} (J:eU rs=0) (y:s ∈ BJ rs):s ∈ jg rs s∧∀ r ∈ rs,r.head.name ∈ jg rs s→∀ p ∈ r.body,p.atom.name ∈ jg rs s:=by
 unfold BJ VW at y;rw [if_pos J,ny] at y;have e:jg rs s=needs rs s:=by unfold jg; rw [if_pos ⟨J,y⟩]
 rw [e];exact ⟨vY.2 .self,fun r hr U p I=>vY.2 (.step (vY.1 U) hr I)⟩
end
section
open Go.RowKit D
attribute [local go_sem ↓] Go.wp_at_zero Go.wp_at_succ
theorem Qh (rs:List Ru) (xs:List A) (c:Ch) (v1 v2 c0 c1:Value) (b1 b2 b3:List Nat) (w:World) (h:dW w [v1] rs b1) (h2:aC w [v2] xs b2) (h3:gK w [c0,c1] c b3) (hg:oC w):
  Calls Tryz.prog 29 #[v1,v2,.agg #[c0,c1]] w (Xz (dY rs xs c) w.heap.size w):=by
 obtain ⟨Ad,cap,rfl,_,_⟩:=aj h;obtain ⟨aE,cap2,rfl,_,_⟩:=aj h2;obtain ⟨Aa,ca,Ag,cg,rfl,rfl⟩:=iD h3;have hA:Below w.heap.size w ((w.alloc (.cells #[.slice Aa c.comes.length ca,.slice Ag c.goes.length cg] 54)).alloc (.cells #[.slice none 0 0,.slice none 0 0] 54)):=(ζ).alloc (by simp) _;have k1:=fun w' (J:Below w.heap.size w w')=>vG rs xs _ _ b1 b2 w' (aS.below h J) (au.below h2 J) (hg.below J)
 have k2:=fun w' (J:Below w.heap.size w w')=>Gu c _ _ b3 w' (fE.below h3 J)
 have k3:=fun w' (J:Below w.heap.size w w')=>I4 rs xs _ _ b1 b2 w' (aS.below h J) (au.below h2 J) (hg.below J)
 have k4:=fun (hx:aU xs=true) (hc:fK c=true) w' (J:Below w.heap.size w w')=>NG xs c _ _ _ b2 b3 w' (au.below h2 J) (fE.below h3 J) (by have:=iP hx; omega) (by have:=iP (jy hc).1; omega) (by have:=iP (jy hc).2; omega)
 have k5:=fun ys v' bs' w' (J:Below w.heap.size w w') (h':aC w' [v'] ys bs')=>I4 rs ys _ _ b1 bs' w' (aS.below h J) h' (hg.below J)
 have HD:=η (show dY rs xs c=_ from rfl);have HX:=η fun (h0:fG rs xs=true)=>nI h0
 have y:Hid (((w.alloc (.cells #[.slice Aa c.comes.length ca,.slice Ag c.goes.length cg] 54)).alloc (.cells #[.slice none 0 0,.slice none 0 0] 54)).heap[w.heap.size+1]? = some (.cells #[.slice none 0 0,.slice none 0 0] 54 (0,0))):=η (kZ w _ _).2;have x0:((w.alloc (.cells #[.slice Aa c.comes.length ca,.slice Ag c.goes.length cg] 54)).alloc (.cells #[.slice none 0 0,.slice none 0 0] 54)).cell? ⟨w.heap.size,0,none⟩=some (.slice Aa c.comes.length ca):=by go_simp
 have x1:((w.alloc (.cells #[.slice Aa c.comes.length ca,.slice Ag c.goes.length cg] 54)).alloc (.cells #[.slice none 0 0,.slice none 0 0] 54)).cell? ⟨w.heap.size,1,none⟩=some (.slice Ag c.goes.length cg):=by go_simp
 clear h h2 h3 hg HD
 go_enter Tryz.func29,Tryz.ntmps29
 go_wp2_with fail
 refine (k1 _ hA).mono ?_;rintro e w1 ⟨rfl,a4⟩;have B1:=hA.trans (a4.mono hA.size);replace y:=η (fD a4 y.out);replace x0:=ξ a4 x0;replace x1:=ξ a4 x1;clear k1 hA a4
 cases hok:fG rs xs with
 | false=>
  have I:Hid (dY rs xs c=(⟨[],[]⟩,false)):=η (by unfold dY; rw [hok]; rfl);clear hok k2 k3 k4 k5 HX;have z0:w1.cell? ⟨w.heap.size+1,0,none⟩=some (.slice none 0 0):=dD y.out;have z1:w1.cell? ⟨w.heap.size+1,1,none⟩=some (.slice none 0 0):=dD y.out;have f0:w1.frozen? ⟨w.heap.size+1,0,none⟩=false:=bJ y.out;have f1:w1.frozen? ⟨w.heap.size+1,1,none⟩=false:=bJ y.out;have HF:=η (fQ (c:=⟨[],[]⟩) y.out (dh _) (dh _));go_wp2;refine bodyPost_ret (v:=.tuple #[.agg #[.slice none 0 0,.slice none 0 0],.bool false]) (by simp [results,Tryz.results29,go_sem,z0,z1]) rfl ⟨(B1.setCell (by dsimp only; omega) _).setCell (by dsimp only; omega) _,_,[],by rw [I.out],by rw [I.out]; exact HF.out,New.nil _ _⟩
 | true=>
  have hx:=HX.out hok;have av:=η hx;have ac:=η hok;clear HX hok
  go_wp2_with fail
  refine (k2 _ B1).mono ?_;rintro e w2 ⟨rfl,a5⟩;have B2:=B1.trans (a5.mono B1.size);replace y:=η (fD a5 y.out);replace x0:=ξ a5 x0;replace x1:=ξ a5 x1;clear k2 a5
  cases hc:fK c with
  | false=>
   have I:Hid (dY rs xs c=(⟨[],[]⟩,false)):=η (by unfold dY; rw [ac.out,hc]; rfl);clear hc hx k3 k4 k5;have z0:w2.cell? ⟨w.heap.size+1,0,none⟩=some (.slice none 0 0):=dD y.out;have z1:w2.cell? ⟨w.heap.size+1,1,none⟩=some (.slice none 0 0):=dD y.out;have f0:w2.frozen? ⟨w.heap.size+1,0,none⟩=false:=bJ y.out;have f1:w2.frozen? ⟨w.heap.size+1,1,none⟩=false:=bJ y.out;have HF:=η (fQ (c:=⟨[],[]⟩) y.out (dh _) (dh _));go_wp2;refine bodyPost_ret (v:=.tuple #[.agg #[.slice none 0 0,.slice none 0 0],.bool false]) (by simp [results,Tryz.results29,go_sem,z0,z1]) rfl ⟨(B2.setCell (by dsimp only; omega) _).setCell (by dsimp only; omega) _,_,[],by rw [I.out],by rw [I.out]; exact HF.out,New.nil _ _⟩
  | true=>
   have HC:=η hc;have K4:=η (k4 hx hc);clear k4 hc hx;have K3:=η k3;have K5:=η k5;clear k3 k5;have HD:Hid (dY rs xs c=if ((bK rs xs).2 && (bK rs (behind xs c)).2)=true then (qx (bK rs xs).1 (bK rs (behind xs c)).1,true) else (⟨[],[]⟩,false)):=η (by unfold dY; rw [ac.out,HC.out]; rfl)
   go_wp2_with fail
   refine (K4.out _ B2).mono ?_;rintro e w3 ⟨a1,v3,aL,U',hU,rfl,h3⟩;obtain ⟨A3,p3,rfl,_,_⟩:=aj h3;have B3:=B2.trans (a1.mono B2.size);replace y:=η (fD a1 y.out);replace x0:=ξ a1 x0;replace x1:=ξ a1 x1;have aa:dA (gy xs c.goes) c.comes=behind xs c:=JD av.out HC.out;rw [aa] at hU ⊢;by_cases a6:(behind xs c).length≤300
   case neg=>
    rw [decide_eq_false a6];clear K4 a1 h3;have ae:bK rs (behind xs c)=([],false):=Ec fun e=>absurd (nC e).n (by omega)
    have I:Hid (dY rs xs c=(⟨[],[]⟩,false)):=η (by rw [HD.out,ae]; simp);clear K3 K5 hU aa ae;have z0:w3.cell? ⟨w.heap.size+1,0,none⟩=some (.slice none 0 0):=dD y.out;have z1:w3.cell? ⟨w.heap.size+1,1,none⟩=some (.slice none 0 0):=dD y.out;have f0:w3.frozen? ⟨w.heap.size+1,0,none⟩=false:=bJ y.out;have f1:w3.frozen? ⟨w.heap.size+1,1,none⟩=false:=bJ y.out;have HF:=η (fQ (c:=⟨[],[]⟩) y.out (dh _) (dh _));go_wp2;refine bodyPost_ret (v:=.tuple #[.agg #[.slice none 0 0,.slice none 0 0],.bool false]) (by simp [results,Tryz.results29,go_sem,z0,z1]) rfl ⟨(B3.setCell (by dsimp only; omega) _).setCell (by dsimp only; omega) _,_,[],by rw [I.out],by rw [I.out]; exact HF.out,New.nil _ _⟩
   rw [decide_eq_true a6];rw [if_pos a6] at hU;subst hU;have H3:=η h3;clear a1 h3 K4 aa
   go_wp2_with fail
   refine (K3.out _ B3).mono ?_;rintro e w4 ⟨a2,A4,p4,ba,rfl,af⟩;have B4:=B3.trans (a2.mono B3.size);replace y:=η (fD a2 y.out);replace x0:=ξ a2 x0;replace x1:=ξ a2 x1;have a9:=η af;replace H3:=η (au.below H3.out a2);clear a2 af K3
   cases he1:(bK rs xs).2 with
   | false=>
    have I:Hid (dY rs xs c=(⟨[],[]⟩,false)):=η (by rw [HD.out,he1]; simp);clear he1 K5;have z0:w4.cell? ⟨w.heap.size+1,0,none⟩=some (.slice none 0 0):=dD y.out;have z1:w4.cell? ⟨w.heap.size+1,1,none⟩=some (.slice none 0 0):=dD y.out;have f0:w4.frozen? ⟨w.heap.size+1,0,none⟩=false:=bJ y.out;have f1:w4.frozen? ⟨w.heap.size+1,1,none⟩=false:=bJ y.out;have HF:=η (fQ (c:=⟨[],[]⟩) y.out (dh _) (dh _));go_wp2;refine bodyPost_ret (v:=.tuple #[.agg #[.slice none 0 0,.slice none 0 0],.bool false]) (by simp [results,Tryz.results29,go_sem,z0,z1]) rfl ⟨(B4.setCell (by dsimp only; omega) _).setCell (by dsimp only; omega) _,_,[],by rw [I.out],by rw [I.out]; exact HF.out,New.nil _ _⟩
   | true=>
    have aw:=η he1;clear he1;have k5:=K5.out _ _ _ _ B4 H3.out;clear K5 H3
    go_wp2_with fail
    refine k5.mono ?_;rintro e w5 ⟨a3,A5,p5,bb,rfl,ag⟩;have B5:=B4.trans (a3.mono B4.size);replace y:=η (fD a3 y.out);replace x0:=ξ a3 x0;replace x1:=ξ a3 x1;replace a9:=η (au.below a9.out a3);have am:=η ag;clear a3 ag k5
    cases he2:(bK rs (behind xs c)).2 with
    | false=>
     have I:Hid (dY rs xs c=(⟨[],[]⟩,false)):=η (by rw [HD.out,he2]; simp);clear he2;have z0:w5.cell? ⟨w.heap.size+1,0,none⟩=some (.slice none 0 0):=dD y.out;have z1:w5.cell? ⟨w.heap.size+1,1,none⟩=some (.slice none 0 0):=dD y.out;have f0:w5.frozen? ⟨w.heap.size+1,0,none⟩=false:=bJ y.out;have f1:w5.frozen? ⟨w.heap.size+1,1,none⟩=false:=bJ y.out;have HF:=η (fQ (c:=⟨[],[]⟩) y.out (dh _) (dh _));go_wp2;refine bodyPost_ret (v:=.tuple #[.agg #[.slice none 0 0,.slice none 0 0],.bool false]) (by simp [results,Tryz.results29,go_sem,z0,z1]) rfl ⟨(B5.setCell (by dsimp only; omega) _).setCell (by dsimp only; omega) _,_,[],by rw [I.out],by rw [I.out]; exact HF.out,New.nil _ _⟩
    | true=>
     have I:Hid (dY rs xs c=(qx (bK rs xs).1 (bK rs (behind xs c)).1,true)):=η (by rw [HD.out,aw.out,he2]; rfl);clear he2 HD;generalize dY rs xs c=G at *;have U:aU (bK rs xs).1=true:=tJ;have a0:aU (bK rs (behind xs c)).1=true:=tJ;have ao:(⟨gy (bK rs (behind xs c)).1 (bK rs xs).1,gy (bK rs xs).1 (bK rs (behind xs c)).1⟩:Ch)=qx (bK rs xs).1 (bK rs (behind xs c)).1:=by unfold qx; rw [U,a0,wV (dV U) (dV a0),wV (dV a0) (dV U)]; rfl
     have ab:EY (qx (bK rs xs).1 (bK rs (behind xs c)).1).comes∧EY (qx (bK rs xs).1 (bK rs (behind xs c)).1).goes:=by
      unfold qx; rw [U,a0]; exact ⟨MF (lQ a0) _,MF (lQ U) _⟩
     have k6:=FQ _ _ _ _ ba bb w5 a9.out am.out (by have:=iP U; omega) (by have:=iP a0; omega);rw [ao] at k6;generalize qx (bK rs xs).1 (bK rs (behind xs c)).1=C at *;clear a9 am U a0 ao
     go_wp2_with fail
     refine k6.mono ?_;rintro e w6 ⟨a7,aM,b6,rfl,h6⟩;obtain ⟨A6,p6,E6,q6,rfl⟩:=lX h6;have B6:=B5.trans (a7.mono B5.size);replace y:=η (fD a7 y.out);replace x0:=ξ a7 x0;replace x1:=ξ a7 x1;have az:Hid (w.heap.size+1 < w6.heap.size):=η (ψ y.out);have k7:=Fj C _ _ b6 w6 h6 ab.1 ab.2;clear a7 h6 k6 ab
     go_wp2_with fail
     refine k7.mono ?_;rintro e w7 ⟨a8,aR,b7,rfl,h7,n7⟩;obtain ⟨A7,p7,E7,q7,rfl⟩:=lX h7;have B7:=B6.trans (a8.mono B6.size);replace y:=η (fD a8 y.out);replace x0:=ξ a8 x0;replace x1:=ξ a8 x1;have H7:=η h7;have N7:=η n7;clear a8 h7 n7 k7;have z0:w7.cell? ⟨w.heap.size+1,0,none⟩=some (.slice none 0 0):=dD y.out;have z1:w7.cell? ⟨w.heap.size+1,1,none⟩=some (.slice none 0 0):=dD y.out;have f0:w7.frozen? ⟨w.heap.size+1,0,none⟩=false:=bJ y.out;have f1:w7.frozen? ⟨w.heap.size+1,1,none⟩=false:=bJ y.out;obtain ⟨e1,e2,aD,aq,ar⟩:=gQ H7.out;have HF:=η (fQ (c:=C) y.out aq ar);clear aq ar
     have HN:Hid (New w.heap.size ((w7.setCell ⟨w.heap.size+1,0,none⟩ (.slice A7 C.comes.length p7)).setCell ⟨w.heap.size+1,1,none⟩ (.slice E7 C.goes.length q7)) (e1 ++ e2)):=η (by
      rw [← aD];have h9:=B6.size;refine ⟨N7.out.nodup,fun b hb=>?_⟩;have h8:=N7.out.own b hb;have b4:w.heap.size+1 < w6.heap.size:=az.out;refine ⟨by omega,?_⟩;rw [π _ _ _ _ (by dsimp only; omega),π _ _ _ _ (by dsimp only; omega)]
      exact h8.2)
     go_wp2;refine bodyPost_ret (v:=.tuple #[.agg #[.slice A7 C.comes.length p7,.slice E7 C.goes.length q7],.bool true]) (by simp [results,Tryz.results29,go_sem,z0,z1]) rfl ⟨(B7.setCell (by dsimp only; omega) _).setCell (by dsimp only; omega) _,_,_,by rw [I.out],by rw [I.out]; exact HF.out,HN.out⟩
theorem Qi (rs:List Ru) (xs:List A) (c:Ch) (v1 v2 c0 c1:Value) (b1 b2 b3:List Nat) (w:World) (h:dW w [v1] rs b1) (h2:aC w [v2] xs b2) (h3:gK w [c0,c1] c b3):
  Calls Tryz.prog 30 #[v1,v2,.agg #[c0,c1]] w (Xy (dY rs xs c) w.heap.size w):=by
 obtain ⟨Ad,cap,rfl,_,_⟩:=aj h;obtain ⟨ae,cap2,rfl,_,_⟩:=aj h2;obtain ⟨Aa,ca,Ag,cg,rfl,rfl⟩:=iD h3;have hA:Below w.heap.size w ((w.alloc (.cells #[.slice Aa c.comes.length ca,.slice Ag c.goes.length cg] 54)).alloc (.cells #[.slice none 0 0,.slice none 0 0] 54)):=(ζ).alloc (by simp) _;have k1:=fun w' (J:Below w.heap.size w w')=>NT rs xs _ _ b1 b2 w' (aS.below h J) (au.below h2 J)
 have k2:=fun w' (J:Below w.heap.size w w')=>Gv c _ _ b3 w' (fE.below h3 J)
 have k3:=fun w' (J:Below w.heap.size w w')=>eval_any rs xs _ _ b1 b2 w' (aS.below h J) (au.below h2 J)
 have k4:=fun (hx:aU xs=true) (hc:fK c=true) w' (J:Below w.heap.size w w')=>VK xs c _ _ _ b2 b3 w' (au.below h2 J) (fE.below h3 J) (dV hx) (dV (jy hc).2) (lQ hx) (lQ (jy hc).1)
 have k5:=fun ys v' bs' w' (J:Below w.heap.size w w') (h':aC w' [v'] ys bs')=>eval_any rs ys _ _ b1 bs' w' (aS.below h J) h'
 have HD:=η (show dY rs xs c=_ from rfl);have HX:=η fun (h0:fG rs xs=true)=>nI h0
 have y:Hid (((w.alloc (.cells #[.slice Aa c.comes.length ca,.slice Ag c.goes.length cg] 54)).alloc (.cells #[.slice none 0 0,.slice none 0 0] 54)).heap[w.heap.size+1]? = some (.cells #[.slice none 0 0,.slice none 0 0] 54 (0,0))):=η (kZ w _ _).2;have x0:((w.alloc (.cells #[.slice Aa c.comes.length ca,.slice Ag c.goes.length cg] 54)).alloc (.cells #[.slice none 0 0,.slice none 0 0] 54)).cell? ⟨w.heap.size,0,none⟩=some (.slice Aa c.comes.length ca):=by go_simp
 have x1:((w.alloc (.cells #[.slice Aa c.comes.length ca,.slice Ag c.goes.length cg] 54)).alloc (.cells #[.slice none 0 0,.slice none 0 0] 54)).cell? ⟨w.heap.size,1,none⟩=some (.slice Ag c.goes.length cg):=by go_simp
 clear h h2 h3 HD
 go_enter Tryz.func30,Tryz.ntmps30
 go_wp2_with fail
 refine (k1 _ hA).mono ?_;rintro e w1 ⟨rfl,a2⟩;have B1:=hA.trans (a2.mono hA.size);replace y:=η (fD a2 y.out);replace x0:=ξ a2 x0;replace x1:=ξ a2 x1;clear k1 hA a2
 cases hok:fG rs xs with
 | false=>
  have I:Hid (dY rs xs c=(⟨[],[]⟩,false)):=η (by unfold dY; rw [hok]; rfl);clear hok k2 k3 k4 k5 HX;have z0:w1.cell? ⟨w.heap.size+1,0,none⟩=some (.slice none 0 0):=dD y.out;have z1:w1.cell? ⟨w.heap.size+1,1,none⟩=some (.slice none 0 0):=dD y.out;have f0:w1.frozen? ⟨w.heap.size+1,0,none⟩=false:=bJ y.out;have f1:w1.frozen? ⟨w.heap.size+1,1,none⟩=false:=bJ y.out;have HF:=η (fQ (c:=⟨[],[]⟩) y.out (dh _) (dh _));go_wp2;refine bodyPost_ret (v:=.tuple #[.agg #[.slice none 0 0,.slice none 0 0],.bool false]) (by simp [results,Tryz.results30,go_sem,z0,z1]) rfl ⟨(B1.setCell (by dsimp only; omega) _).setCell (by dsimp only; omega) _,_,_,by rw [I.out],by rw [I.out]; exact HF.out⟩
 | true=>
  have hx:=HX.out hok;have af:=η hx;have a8:=η hok;clear HX hok
  go_wp2_with fail
  refine (k2 _ B1).mono ?_;rintro e w2 ⟨rfl,a3⟩;have B2:=B1.trans (a3.mono B1.size);replace y:=η (fD a3 y.out);replace x0:=ξ a3 x0;replace x1:=ξ a3 x1;clear k2 a3
  cases hc:fK c with
  | false=>
   have I:Hid (dY rs xs c=(⟨[],[]⟩,false)):=η (by unfold dY; rw [a8.out,hc]; rfl);clear hc hx k3 k4 k5;have z0:w2.cell? ⟨w.heap.size+1,0,none⟩=some (.slice none 0 0):=dD y.out;have z1:w2.cell? ⟨w.heap.size+1,1,none⟩=some (.slice none 0 0):=dD y.out;have f0:w2.frozen? ⟨w.heap.size+1,0,none⟩=false:=bJ y.out;have f1:w2.frozen? ⟨w.heap.size+1,1,none⟩=false:=bJ y.out;have HF:=η (fQ (c:=⟨[],[]⟩) y.out (dh _) (dh _));go_wp2;refine bodyPost_ret (v:=.tuple #[.agg #[.slice none 0 0,.slice none 0 0],.bool false]) (by simp [results,Tryz.results30,go_sem,z0,z1]) rfl ⟨(B2.setCell (by dsimp only; omega) _).setCell (by dsimp only; omega) _,_,_,by rw [I.out],by rw [I.out]; exact HF.out⟩
  | true=>
   have HC:=η hc;have K4:=η (k4 hx hc);clear k4 hc hx;have K3:=η k3;have K5:=η k5;clear k3 k5;have HD:Hid (dY rs xs c=if ((bK rs xs).2 && (bK rs (behind xs c)).2)=true then (qx (bK rs xs).1 (bK rs (behind xs c)).1,true) else (⟨[],[]⟩,false)):=η (by unfold dY; rw [a8.out,HC.out]; rfl)
   go_wp2_with fail
   refine (K3.out _ B2).mono ?_;rintro e w3 ⟨a4,va,ba,rfl,a6⟩;obtain ⟨A3,p3,rfl,_,_⟩:=aj a6;have B3:=B2.trans (a4.mono B2.size);replace y:=η (fD a4 y.out);replace x0:=ξ a4 x0;replace x1:=ξ a4 x1;have U:=η a6;clear a4 a6 K3
   go_wp2_with fail
   refine (K4.out _ B3).mono ?_;rintro e w4 ⟨a0,v4,b4,rfl,h4⟩;obtain ⟨A4,p4,rfl,_,_⟩:=aj h4;have B4:=B3.trans (a0.mono B3.size);replace y:=η (fD a0 y.out);replace x0:=ξ a0 x0;replace x1:=ξ a0 x1;replace U:=η (au.below U.out a0);have k5:=K5.out _ _ _ _ B4 h4;clear a0 h4 K4 K5
   go_wp2_with fail
   refine k5.mono ?_;rintro e w5 ⟨a1,vb,bb,rfl,a7⟩;obtain ⟨A5,p5,rfl,_,_⟩:=aj a7;have B5:=B4.trans (a1.mono B4.size);replace y:=η (fD a1 y.out);replace x0:=ξ a1 x0;replace x1:=ξ a1 x1;replace U:=η (au.below U.out a1);have a9:=η a7;clear a1 a7 k5
   cases he1:(bK rs xs).2 with
   | false=>
    have I:Hid (dY rs xs c=(⟨[],[]⟩,false)):=η (by rw [HD.out,he1]; simp);clear he1;have z0:w5.cell? ⟨w.heap.size+1,0,none⟩=some (.slice none 0 0):=dD y.out;have z1:w5.cell? ⟨w.heap.size+1,1,none⟩=some (.slice none 0 0):=dD y.out;have f0:w5.frozen? ⟨w.heap.size+1,0,none⟩=false:=bJ y.out;have f1:w5.frozen? ⟨w.heap.size+1,1,none⟩=false:=bJ y.out;have HF:=η (fQ (c:=⟨[],[]⟩) y.out (dh _) (dh _));go_wp2;refine bodyPost_ret (v:=.tuple #[.agg #[.slice none 0 0,.slice none 0 0],.bool false]) (by simp [results,Tryz.results30,go_sem,z0,z1]) rfl ⟨(B5.setCell (by dsimp only; omega) _).setCell (by dsimp only; omega) _,_,_,by rw [I.out],by rw [I.out]; exact HF.out⟩
   | true=>
    have ac:=η he1;clear he1
    cases he2:(bK rs (behind xs c)).2 with
    | false=>
     have I:Hid (dY rs xs c=(⟨[],[]⟩,false)):=η (by rw [HD.out,he2]; simp);clear he2;have z0:w5.cell? ⟨w.heap.size+1,0,none⟩=some (.slice none 0 0):=dD y.out;have z1:w5.cell? ⟨w.heap.size+1,1,none⟩=some (.slice none 0 0):=dD y.out;have f0:w5.frozen? ⟨w.heap.size+1,0,none⟩=false:=bJ y.out;have f1:w5.frozen? ⟨w.heap.size+1,1,none⟩=false:=bJ y.out;have HF:=η (fQ (c:=⟨[],[]⟩) y.out (dh _) (dh _));go_wp2;refine bodyPost_ret (v:=.tuple #[.agg #[.slice none 0 0,.slice none 0 0],.bool false]) (by simp [results,Tryz.results30,go_sem,z0,z1]) rfl ⟨(B5.setCell (by dsimp only; omega) _).setCell (by dsimp only; omega) _,_,_,by rw [I.out],by rw [I.out]; exact HF.out⟩
    | true=>
     have I:Hid (dY rs xs c=(qx (bK rs xs).1 (bK rs (behind xs c)).1,true)):=η (by rw [HD.out,ac.out,he2]; rfl);clear he2 HD;generalize dY rs xs c=G at *;have k6:=Gw _ _ _ _ ba bb w5 U.out a9.out;generalize qx (bK rs xs).1 (bK rs (behind xs c)).1=C at *;clear U a9
     go_wp2_with fail
     refine k6.mono ?_;rintro e w7 ⟨a5,ag,b7,rfl,h7⟩;obtain ⟨A7,p7,E7,q7,rfl⟩:=lX h7;have B7:=B5.trans (a5.mono B5.size);replace y:=η (fD a5 y.out);replace x0:=ξ a5 x0;replace x1:=ξ a5 x1;have H7:=η h7;clear a5 h7 k6;have z0:w7.cell? ⟨w.heap.size+1,0,none⟩=some (.slice none 0 0):=dD y.out;have z1:w7.cell? ⟨w.heap.size+1,1,none⟩=some (.slice none 0 0):=dD y.out;have f0:w7.frozen? ⟨w.heap.size+1,0,none⟩=false:=bJ y.out;have f1:w7.frozen? ⟨w.heap.size+1,1,none⟩=false:=bJ y.out;obtain ⟨e1,e2,am,aa,ab⟩:=gQ H7.out;have HF:=η (fQ (c:=C) y.out aa ab);clear aa ab;go_wp2;refine bodyPost_ret (v:=.tuple #[.agg #[.slice A7 C.comes.length p7,.slice E7 C.goes.length q7],.bool true]) (by simp [results,Tryz.results30,go_sem,z0,z1]) rfl ⟨(B7.setCell (by dsimp only; omega) _).setCell (by dsimp only; omega) _,_,_,by rw [I.out],by rw [I.out]; exact HF.out⟩
theorem D.Qj {rs:List Ru} {xs:List A} {c D:Ch} {s:ByteArray} (h:dY rs xs c=(D,true)) (I:s ∈ BJ rs) (h1:∀ t ∈ c.comes,t.name ∉ jg rs s) (J:∀ t ∈ c.goes,t.name ∉ jg rs s):MV D.comes s = []∧MV D.goes s = []:=by
 have y:(dY rs xs c).2=true:=by rw [h]
 have U:=(rE (BR y).2.2.1).1.prog;obtain ⟨k1,k2⟩:=TY U I;have:=Oq y (N:=fun n=>n ∈ jg rs s) k2 h1 J k1;rw [h] at this;exact this
theorem D.Ua {rs:List Ru} {xs:List A} {c D:Ch} (h:dY rs xs c=(D,true)):D.comes.length≤16777216∧D.goes.length≤16777216:=by
 have I:fK D=true:=by
  have:=(TW (rs:=rs) (xs:=xs) (c:=c) (by rw [h])).2.1;rw [h] at this;exact this
 have y:=jy I;have:=iP y.1;have:=iP y.2;omega
theorem xX (cs:List UInt8) (v1:Value) (bR:List Nat) (ab:List UInt8) (v2:Value) (cL:List Nat) (w:World) (h1:uj w [v1] cs bR) (h2:uj w [v2] ab cL) (hg:oC w):
  Calls Tryz.prog 10 #[v1,v2] w fun e w'=>e=.returned (.bool true)∧Below w.heap.size w w':=by
 obtain ⟨Ad,cap,rfl,hl,hm⟩:=aj h1;have da:=ay (τ hl hm);obtain ⟨db,cap2,rfl,bX,c4⟩:=aj h2;have d6:=ay (τ bX c4);have H2:=η h2;clear bX c4 h2;have HG:=η hg;clear hl hm hg;by_cases hn:cs.length≤1048576
 ·have cP:¬ (1048576:Int) < (cs.length:Int):=by omega
  by_cases hq:ab.length≤1048576
  ·have cQ:¬ (1048576:Int) < (ab.length:Int):=by omega
   have hd:=GH _ cs bR w h1 hn;clear h1 hn
   go_enter Tryz.func10,Tryz.ntmps10
   go_wp2_with fail
   refine hd.mono ?_;rintro e w1 ⟨rs,A0,c0,b0,xs,A1,c1,b1,c,A2,A3,c2,c3,b2,b3,rfl,c9,ca,hC,hG,cb,cc,cd,bo⟩;have cg:gK w1 [.slice A2 c.comes.length c2,.slice A3 c.goes.length c3] c (b2 ++ b3):=⟨_,_,b2,b3,rfl,rfl,hC,hG⟩;obtain ⟨D,z,hE⟩:∃ D z,dY rs xs c=(D,z):=⟨_,_,rfl⟩;have HE:=η hE;have a6:Below w1.heap.size w1 (w1.alloc (.cells #[.slice A2 c.comes.length c2,.slice A3 c.goes.length c3] 54)):=ζ;have ac:Hid (∀ w',Below (w1.alloc (.cells #[.slice A2 c.comes.length c2,.slice A3 c.goes.length c3] 54)).heap.size (w1.alloc (.cells #[.slice A2 c.comes.length c2,.slice A3 c.goes.length c3] 54)) w'→w'.cell? ⟨w1.heap.size,0,none⟩=some (.slice A2 c.comes.length c2)∧w'.cell? ⟨w1.heap.size,1,none⟩=some (.slice A3 c.goes.length c3)):=η fun w' hb=>⟨ξ hb (ai (ω w1 _)),ξ hb (ai (ω w1 _))⟩
   have y:=η (bo.trans (a6.mono bo.size));have a1:=η (ι (aS.below c9 a6) (ι (au.below ca a6) (fE.below cg a6)));have ci:=η (ι cb (ι cc cd));have b6:=Qh rs xs c _ _ _ _ b0 b1 _ _ a1.out.1 a1.out.2.1 a1.out.2.2 (HG.out.below y.out);rw [hE] at b6;obtain ⟨x0,x1⟩:=ac.out _ ϑ;clear hd c9 ca bo hE cb cc cd hC hG cg a6
   go_wp2_with fail
   obtain ⟨W1,bp⟩:∃ W1,W1=(w1.alloc (.cells #[.slice A2 c.comes.length c2,.slice A3 c.goes.length c3] 54)):=⟨_,rfl⟩;rw [← bp] at b6 y a1 ac x0 x1
   first | rw [← bp] | skip
   clear bp;refine b6.mono ?_;rintro e w2 ⟨br,ab,g2,rfl,b7,-⟩;obtain ⟨A5,c5,A6,c6,rfl⟩:=lX b7;dsimp only at b7;clear x0 x1;have aq:Below w2.heap.size w2 (w2.alloc (.cells #[.slice A5 D.comes.length c5,.slice A6 D.goes.length c6] 54)):=ζ;have ae:Hid (∀ w',Below (w2.alloc (.cells #[.slice A5 D.comes.length c5,.slice A6 D.goes.length c6] 54)).heap.size (w2.alloc (.cells #[.slice A5 D.comes.length c5,.slice A6 D.goes.length c6] 54)) w'→w'.cell? ⟨w2.heap.size,0,none⟩=some (.slice A5 D.comes.length c5)∧w'.cell? ⟨w2.heap.size,1,none⟩=some (.slice A6 D.goes.length c6)):=η fun w' hb=>⟨ξ hb (ai (ω w2 _)),ξ hb (ai (ω w2 _))⟩
   have a2:=η (br.trans (aq.mono br.size));have ar:=η (fE.below b7 aq);obtain ⟨x0,x1⟩:=ac.out _ a2.out;obtain ⟨y0,y1⟩:=ae.out _ ϑ;have b8:=Qi rs xs c _ _ _ _ b0 b1 _ _ (aS.below a1.out.1 a2.out) (au.below a1.out.2.1 a2.out) (fE.below a1.out.2.2 a2.out);rw [HE.out] at b8;clear b6 br b7 aq
   go_wp2_with fail
   obtain ⟨W2,bt⟩:∃ W2,W2=(w2.alloc (.cells #[.slice A5 D.comes.length c5,.slice A6 D.goes.length c6] 54)):=⟨_,rfl⟩;rw [← bt] at b8 a2 ar ae x0 x1 y0 y1
   first | rw [← bt] | skip
   clear bt;refine b8.mono ?_;rintro e w3 ⟨bu,dc,g3,rfl,b9⟩;obtain ⟨A7,c7,A8,c8,rfl⟩:=lX b9;dsimp only at b9;clear x0 x1 y0 y1;have av:Below w3.heap.size w3 (w3.alloc (.cells #[.slice A7 D.comes.length c7,.slice A8 D.goes.length c8] 54)):=ζ;have aw:Hid (∀ w',Below (w3.alloc (.cells #[.slice A7 D.comes.length c7,.slice A8 D.goes.length c8] 54)).heap.size (w3.alloc (.cells #[.slice A7 D.comes.length c7,.slice A8 D.goes.length c8] 54)) w'→w'.cell? ⟨w3.heap.size,0,none⟩=some (.slice A7 D.comes.length c7)∧w'.cell? ⟨w3.heap.size,1,none⟩=some (.slice A8 D.goes.length c8)):=η fun w' hb=>⟨ξ hb (ai (ω w3 _)),ξ hb (ai (ω w3 _))⟩
   have a7:=η (bu.trans (av.mono bu.size));have bc:=η (a2.out.trans (a7.out.mono a2.out.size));have bf:=η (fE.below b9 av);have de:(z != z)=false:=by simp
   have dg:(z == z)=true:=by simp
   obtain ⟨x0,x1⟩:=ac.out _ bc.out;obtain ⟨y0,y1⟩:=ae.out _ a7.out;obtain ⟨z0,z1⟩:=aw.out _ ϑ;clear b8 bu b9 av;have bv:=DX rs _ b0 _ (aS.below a1.out.1 bc.out) (HG.out.below (y.out.trans (bc.out.mono y.out.size)))
   go_wp2_with fail
   obtain ⟨W3,bw⟩:∃ W3,W3=(w3.alloc (.cells #[.slice A7 D.comes.length c7,.slice A8 D.goes.length c8] 54)):=⟨_,rfl⟩;rw [← bw] at bv a7 bc bf aw x0 x1 y0 y1 z0 z1
   first | rw [← bw] | skip
   clear bw;refine bv.mono ?_;rintro e w4 ⟨az,vn,bn,rfl,hN,-⟩;obtain ⟨An,cn,rfl,cj,ck⟩:=aj hN;have d7:=ay (τ cj ck);have HN:=η hN;generalize hns:BJ rs=ns at *;have cT:=η hns;clear bv hN cj ck hns;clear x0 x1 y0 y1 z0 z1;have a8:=η (a7.out.trans (az.mono a7.out.size));have aD:=η az;obtain ⟨y0,y1⟩:=ae.out _ a8.out;obtain ⟨z0,z1⟩:=aw.out _ az;have cl:=qy D _ _ _ _ g2 g3 _ (fE.below ar.out a8.out) (fE.below bf.out az);clear az
   go_wp2_with fail
   refine cl.mono ?_;rintro e w5 ⟨rfl,bg⟩;clear y0 y1 z0 z1 cl;have ag:=η (aD.out.trans (bg.mono aD.out.size));have J:=η (a8.out.trans (bg.mono a8.out.size));have I:=η (a2.out.trans (J.out.mono a2.out.size));replace HN:=η (bP.below HN.out bg);clear bg a8 aD;cases z
   ·obtain ⟨y0,y1⟩:=ae.out _ J.out
    obtain ⟨z0,z1⟩:=aw.out _ ag.out;have aE:=qy D _ _ _ _ g2 g3 _ (fE.below ar.out J.out) (fE.below bf.out ag.out)
    go_wp2_with fail
    refine aE.mono ?_;rintro e w6 ⟨rfl,a3⟩;have a4:=η (I.out.trans (a3.mono I.out.size));clear aE a3 y0 y1 z0 z1;go_wp2;go_ret;exact ⟨rfl,y.out.trans (a4.out.mono y.out.size)⟩
   ·by_cases cU:ns.length=0
    ·have cm:((ns.length:Int) == 0)=true:=by rw [beq_iff_eq]; omega
     obtain ⟨y0,y1⟩:=ae.out _ J.out;obtain ⟨z0,z1⟩:=aw.out _ ag.out;have aE:=qy D _ _ _ _ g2 g3 _ (fE.below ar.out J.out) (fE.below bf.out ag.out)
     go_wp2_with fail
     refine aE.mono ?_;rintro e w6 ⟨rfl,a3⟩;have a4:=η (I.out.trans (a3.mono I.out.size));clear aE a3 y0 y1 z0 z1;go_wp2;go_ret;exact ⟨rfl,y.out.trans (a4.out.mono y.out.size)⟩
    ·have cm:((ns.length:Int) == 0)=false:=beq_eq_false_iff_ne.2 (by omega)
     have co:0 < ns.length:=by omega
     have cV:=η co;clear cU co;have cp:=cV.out;obtain ⟨n,hn⟩:∃ n,n=ab.length % ns.length:=⟨_,rfl⟩;have d8:((ab.length:Int) % (ns.length:Int))=(n:Int):=by rw [hn]; omega
     have bx:n < ns.length:=by rw [hn]; exact Nat.mod_lt _ cp
     clear hn;obtain ⟨di,dj,cW,-,g0,cq⟩:=nD HN.out bx;subst cW;have dk:(0:Int)≤(n:Int):=by omega
     have dl:(n:Int) < (ns.length:Int):=by omega
     have dp:¬ ((ns.length:Int)=0):=by omega
     have cX:Hid (ns[n] ∈ BJ rs):=η (by rw [cT.out]; exact δ bx);have cY:=η cq;generalize ns[n]=s at *;have cr:=FW rs s _ b0 w5 (aS.below a1.out.1 I.out) (HG.out.below (y.out.trans (I.out.mono y.out.size))) cY.out;have d0:Hid ((∀ t ∈ c.comes,t.name ∉ jg rs s)→(∀ t ∈ c.goes,t.name ∉ jg rs s)→MV D.comes s = []∧MV D.goes s = []):=η fun h1 h2=>Qj HE.out cX.out h1 h2
     have cv:Hid (D.comes.length≤16777216∧D.goes.length≤16777216):=η (Ua HE.out);obtain ⟨p1,p2,-,cw,cx⟩:=gQ a1.out.2.2;have cy:=η (ι cw cx);have ds:(c.comes.length:Int)≤50:=by have:=ci.out.2.2.1; omega
     have dt:(c.goes.length:Int)≤50:=by have:=ci.out.2.2.2; omega
     generalize jg rs s=nd at *;clear cq bx cp cw cx
     go_wp2_with fail
     refine cr.mono ?_;rintro e w6 ⟨a3,v5,b5,rfl,bz,-⟩;obtain ⟨du,dv,rfl,_,_⟩:=aj bz;have a4:=η (I.out.trans (a3.mono I.out.size));have bi:=η (J.out.trans (a3.mono J.out.size));have cz:=η bz;clear cr a3 bz;obtain ⟨x0,x1⟩:=ac.out _ a4.out;go_wp2
     go_loopw [15] (fun i wr=>∃ q:Nat,q≤c.comes.length∧i=.int .i64 q∧(∀ j (hj:j < c.comes.length),j < q→c.comes[j].name ∉ nd)∧Below w6.heap.size w6 wr) (fun i _=>c.comes.length - (intOf i).toNat)
     case atStart=>exact ⟨0,ε,rfl,fun j _ h=>absurd h (Nat.not_lt_zero _),ϑ⟩
     case round=>
      obtain ⟨q,hq,rfl,a9,hb⟩:=hrel;have U:=η a9;have HB:=η hb;have a0:=η (a4.out.trans (hb.mono a4.out.size));clear a9 x0 x1;obtain ⟨x0,x1⟩:=ac.out _ a0.out;by_cases a5:q < c.comes.length
      ·obtain ⟨bq,oq,Ae,ce,bk,hA,-,f0,-,-,-⟩:=dL (au.below cy.out.1 a0.out) a5
       subst hA;have d3:(0:Int)≤(q:Int):=by omega
       have bh:(q:Int) < (c.comes.length:Int):=by omega
       have aL:=η a5;have aM:=Fp nd c.comes[q].name _ b5 wr (bP.below cz.out hb)
       have aR:Hid (c.comes[q].name ∉ nd→∀ j (hj:j < c.comes.length),j < q+1→c.comes[j].name ∉ nd):=η fun h j hj d4=>by
        by_cases e:j=q
        ·subst e; exact h
        ·exact U.out j hj (by omega)
       clear hb hq;generalize c.comes[q].name=nm at *;clear a5
       go_wp2_with fail
       refine aM.mono ?_;rintro e w9 ⟨rfl,af⟩;have bA:=η (HB.out.trans (af.mono HB.out.size));have b4:=η (a0.out.trans (af.mono a0.out.size));clear aM af f0;by_cases hin:nm ∈ nd
       ·have bB:decide (nm ∈ nd)=true:=decide_eq_true hin
        clear hin;go_wp2;go_ret;exact ⟨rfl,y.out.trans (b4.out.mono y.out.size)⟩
       ·have bB:decide (nm ∈ nd)=false:=decide_eq_false hin
        have bE:=η (aR.out hin);clear hin aR;go_wp2;go_roundw
        case rel=>exact ⟨q+1,aL.out,by go_num,bE.out,bA.out⟩
        case measure=>have:=aL.out; simp [intOf]; omega
      ·have he:q=c.comes.length:=by omega
       subst he;have bh:¬ (c.comes.length:Int) < (c.comes.length:Int):=by omega
       have cA:Hid (∀ t ∈ c.comes,t.name ∉ nd):=η fun t ht=>by obtain ⟨j,hj,rfl⟩:=List.getElem_of_mem ht; exact U.out j hj hj
       have cB:=η HB.out;clear hb hq a5 U;clear bh;go_wp2
       go_loopw [16] (fun i wr=>∃ q:Nat,q≤c.goes.length∧i=.int .i64 q∧(∀ j (hj:j < c.goes.length),j < q→c.goes[j].name ∉ nd)∧Below w6.heap.size w6 wr) (fun i _=>c.goes.length - (intOf i).toNat)
       case atStart=>exact ⟨0,ε,rfl,fun j _ h=>absurd h (Nat.not_lt_zero _),cB.out⟩
       case round=>
        obtain ⟨q,hq,rfl,a9,hb⟩:=hrel;have U:=η a9;have HB:=η hb;have a0:=η (a4.out.trans (hb.mono a4.out.size));clear a9 x0 x1;obtain ⟨x0,x1⟩:=ac.out _ a0.out;by_cases a5:q < c.goes.length
        ·obtain ⟨bq,oq,Ae,ce,bk,hA,-,f0,-,-,-⟩:=dL (au.below cy.out.2 a0.out) a5
         subst hA;have d3:(0:Int)≤(q:Int):=by omega
         have bh:(q:Int) < (c.goes.length:Int):=by omega
         have aL:=η a5;have aM:=Fp nd c.goes[q].name _ b5 wr (bP.below cz.out hb)
         have aR:Hid (c.goes[q].name ∉ nd→∀ j (hj:j < c.goes.length),j < q+1→c.goes[j].name ∉ nd):=η fun h j hj d4=>by
          by_cases e:j=q
          ·subst e; exact h
          ·exact U.out j hj (by omega)
         clear hb hq;generalize c.goes[q].name=nm at *;clear a5
         go_wp2_with fail
         refine aM.mono ?_;rintro e w9 ⟨rfl,af⟩;have bA:=η (HB.out.trans (af.mono HB.out.size));have b4:=η (a0.out.trans (af.mono a0.out.size));clear aM af f0;by_cases hin:nm ∈ nd
         ·have bB:decide (nm ∈ nd)=true:=decide_eq_true hin
          clear hin;go_wp2;go_ret;exact ⟨rfl,y.out.trans (b4.out.mono y.out.size)⟩
         ·have bB:decide (nm ∈ nd)=false:=decide_eq_false hin
          have bE:=η (aR.out hin);clear hin aR;go_wp2;go_roundw
          case rel=>exact ⟨q+1,aL.out,by go_num,bE.out,bA.out⟩
          case measure=>have:=aL.out; simp [intOf]; omega
        ·have he:q=c.goes.length:=by omega
         subst he;have bh:¬ (c.goes.length:Int) < (c.goes.length:Int):=by omega
         have cD:Hid (∀ t ∈ c.goes,t.name ∉ nd):=η fun t ht=>by obtain ⟨j,hj,rfl⟩:=List.getElem_of_mem ht; exact U.out j hj hj
         have d9:=η HB.out;clear hb hq a5 U;obtain ⟨cE,cG⟩:=d0.out cA.out cD.out;have aa:=η (bi.out.trans (HB.out.mono bi.out.size));obtain ⟨y0,y1⟩:=ae.out _ aa.out;obtain ⟨d1,d2,-,cI,cJ⟩:=gQ ar.out;have bL:=η (fun w' (hb:Below wr.heap.size wr w')=>MW D.comes s _ d1 w' (au.below cI (aa.out.trans (hb.mono aa.out.size))) cv.out.1);have cK:=η (fun w' (hb:Below wr.heap.size wr w')=>MW D.goes s _ d2 w' (au.below cJ (aa.out.trans (hb.mono aa.out.size))) cv.out.2);rw [cE] at bL;rw [cG] at cK;have B0:=Below.refl wr.heap.size wr;clear cI cJ cE cG;go_wp2
         go_region_held3 (fun w'=>w'.cell? ⟨w2.heap.size,0,none⟩=some (.slice A5 D.comes.length c5)∧w'.cell? ⟨w2.heap.size,1,none⟩=some (.slice A6 D.goes.length c6)) (first | go_keep | exact ⟨y0,y1⟩)
          (first
           | (go_at_call 23; have hz:=bL.out _ B0.drew; (with_reducible refine Calls.mono hz ?_); clear hz; rintro e dx ⟨am,dy,dz,rfl,bj⟩; obtain ⟨dC,dE,rfl,_,_⟩:=aj bj; have bO:=B0.drew.trans (am.mono (Below.size B0.drew)); replace y0:=ξ am y0; replace y1:=ξ am y1; clear bj am bL)
           | (go_at_call 23; have hz:=cK.out _ bO; (with_reducible refine Calls.mono hz ?_); clear hz; rintro e dT ⟨ao,e0,e1,rfl,bl⟩; obtain ⟨e2,e3,rfl,_,_⟩:=aj bl; have d5:=bO.trans (ao.mono (Below.size bO)); replace y0:=ξ ao y0; replace y1:=ξ ao y1; clear bl ao))
         have HZ:=η (a0.out.trans (d5.mono a0.out.size));go_wp2;go_ret;exact ⟨rfl,y.out.trans (HZ.out.mono y.out.size)⟩
  ·have cQ:(1048576:Int) < (ab.length:Int):=by omega
   clear h1
   go_enter Tryz.func10,Tryz.ntmps10
   go_wp2;go_ret;exact ⟨rfl,ϑ⟩
 ·have cP:(1048576:Int) < (cs.length:Int):=by omega
  clear h1
  go_enter Tryz.func10,Tryz.ntmps10
  go_wp2;go_ret;exact ⟨rfl,ϑ⟩
end
end Go.Proofs.YtkjinanbccloeaaGreatDoor
