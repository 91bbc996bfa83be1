/- Of the proof of FnEvalNeeds: RouI, StAl, EvI, EvC, EvL, NdP, LwEvalNeedsL. -/
import Derived.Deep.CutBlock
import Derived.Test.YtkjinanbccloeaaGreatDoorM44
import Derived.Test.YtkjinanbccloeaaGreatDoorM36
set_option linter.unusedVariables false
set_option maxHeartbeats 8000000
set_option maxRecDepth 100000
namespace Go.Proofs.YtkjinanbccloeaaGreatDoor
section
open Go.RowKit D
attribute [local go_sem ↓] Go.wp_at_zero Go.wp_at_succ
theorem D.Va (w:World):(Instr.makeChan 262 (.int .i64 301)).run Tryz.prog w=.ok (.chan (some w.heap.size)) (w.alloc (.chan 301 #[] false 0 0 false)):=by
 obtain ⟨i,y,I⟩:∃ i,Tryz.prog.info? 33=some i∧i.bytes=40:=by
  obtain ⟨i,y,_,_,J⟩:=info_parts NS;exact ⟨i,y,J⟩
 simpa using Go.Conc.run_makeChan (P:=Tryz.prog) (w:=w) Tryz.underlying262 y .i64 301 (by omega) (by rw [I]; omega)
def D.G9 (B sb mu mp:Nat) (Fb:Nat→Prop) (fr:List Nat) (fs:List A) (rn:List Nat) (next:List Ru) (nr B0:Nat) (w:World) (e:Ending) (w':World):Prop:=
 Below B0 w w'∧((∃ new mc n L f,e=.returned (.tuple #[.map (some mc),.bool true])∧new.Nodup∧(∀ t ∈ new,aT t)∧(∀ t,t ∈ new ↔ t ∉ fs∧∃ q ∈ next,kF fs q t)∧fs.length+new.length≤300∧
   jd B sb mu mp Fb fr (fs ++ new) (rn ++ List.replicate new.length nr) w'∧(∀ x ∈ fr,w'.heap[x]? = w.heap[x]?)∧eU mc n L f w'∧w.heap.size≤mc∧(∀ s,s ∈ L ↔ ∃ t ∈ new,t.name=s)∧∀ s ∈ L,1≤f s∧f s≤1000000) ∨
  (e=.returned (.tuple #[.map none,.bool false])∧∃ new:List A,new.Nodup∧(∀ t ∈ new,t ∉ fs∧∃ q ∈ next,kF fs q t)∧300 < fs.length+new.length))
structure D.TP (x:o6) (fs:List A) (bst:List Nat) (next:List Ru) (w:World) (k:Nat) (wr:World):Prop where
 ex:∃ told fb,lV x w.heap.size fs bst wr told fb∧∀ t,t ∈ told ↔ ∃ r ∈ next.take k,kF fs r t
 bel:Below w.heap.size w wr
theorem Vb {x:Vo} (X:KJ x) {w:World} {k:Nat} (hk:k < x.new.length) {c:Value} {ba:List Nat} {wr:World} (h:qC x w k x.new[k] c ba wr):
  Calls Tryz.prog 112 #[.pointer (some ⟨x.sb,0,none⟩),.agg #[.string x.new[k].name,c],.int .i64 x.nr] (wr.alloc (.cells #[.string x.new[k].name,c] 33)) fun e J=>e=.returned (.tuple #[])∧Below x.B0 wr J∧
   jd x.B x.sb x.mu x.mp x.Fb x.f2 (x.fs ++ x.new.take k ++ [x.new[k]]) (x.rn ++ List.replicate k x.nr ++ [x.nr]) J∧(∀ j ∈ x.f2,J.heap[j]? = wr.heap[j]?)∧J.heap[wr.heap.size]? = some (.cells #[.string x.new[k].name,c] 33 (0,0)):=by
 have U:Below wr.heap.size wr (wr.alloc (.cells #[.string x.new[k].name,c] 33)):=ζ;have h1:=h.later X U;have hs:=h.qK.more U [wr.heap.size] (fun j y=>by simp at y; subst y; exact ⟨ν,by simp⟩);have a0:=h.qK.lt;have a2:=X.few;have I:x.new[k] ∈ x.new:=δ hk;have a1:=X.nd;refine (U4 (fr:=x.f2 ++ [wr.heap.size]) hs h1.at' (fun j y=>Ξ _ (h1.bas j y).1) (fun j y=>(h1.bas j y).2) (fun f hf=>?_) (X.nok _ I) (fun hm=>?_) ?_ ?_ x.nr x.B0 X.b0).mono ?_
 ·rcases μ.1 hf with hf | hf
  ·exact X.fok f hf
  ·exact X.nok f (List.mem_of_mem_take hf)
 ·rcases μ.1 hm with hm | hm
  ·exact X.no _ I hm
  ·obtain ⟨i,hi,e⟩:=List.getElem_of_mem hm
   rw [List.length_take] at hi;rw [List.getElem_take] at e;have:=(List.getElem_inj a1).1 e;omega
 ·rw [χ,List.length_take]; omega
 ·have:=X.rfew
  rw [χ,List.length_replicate]; omega
 ·rintro e J ⟨rfl,hb,hS,hf⟩
  refine ⟨rfl,?_,hS.sub fun j y=>Ξ _ y,fun j y=>(hf j (Ξ _ y)).trans (U.block j (a0.2.2 j y)),(hf _ (Ω _ (List.mem_singleton.2 rfl))).trans (ω _ _)⟩;have:=X.b0;exact (U.mono (by omega)).trans hb
theorem P6 (B sb mu mp:Nat) (Fb:Nat→Prop) (bl:∀ x,B≤x→Fb x) (fr:List Nat) (fs:List A) (rn:List Nat) (next:List Ru) (v:Value) (bn:List Nat) (nr B0:Nat) (w:World) (S:jd B sb mu mp Fb fr fs rn w) (h:dI w [v] next bn)
  (ag:∀ f ∈ fs,aT f) (bo:fs.length≤300) (bp:rn.length≤300) (hR:∀ r ∈ next,jR r) (aD:B0≤sb∧B0≤mu∧B0≤mp∧B0≤B):
  Calls Tryz.prog 134 #[.pointer (some ⟨sb,0,none⟩),v,.int .i64 nr] w (G9 B sb mu mp Fb fr fs rn next nr B0 w):=by
 obtain ⟨Ad,cap,rfl,aE,aL⟩:=ak h;have c0:=aA (τ aE aL);have HH:=η h;have HS:=η S;clear h S aE aL;have aM:=@run_makeMap Tryz.prog;have br:=Va
 go_enter Tryz.func134,Tryz.ntmps134
 go_wp2;obtain ⟨a2,am⟩:=HS.out.view;have aR:Hid (TP (rx w.heap.size sb nr) fs a2 next w 0 (rW w sb nr)):=η ⟨⟨[],_,PX w sb nr fs rn a2 am bo,fun t=>by simp⟩,KI w sb nr⟩;have eW:(((((((w.alloc (.cells #[.pointer (some ⟨sb,0,none⟩)] 100)).alloc (.cells #[.int .i64 nr] 3)).alloc (.chan 301 #[] false 0 0 false)).alloc (.cells #[.chan (some (w.heap.size+1+1))] 262)).alloc (.map #[] 0)).alloc (.cells #[.map (some (w.heap.size+1+1+1+1))] 116)).alloc (.cells #[.bool true] 4))=rW w sb nr:=rfl;rw [eW];have bt:Hid (∀ x ∈ a2,x < w.heap.size):=η am.lt;generalize rW w sb nr=W at *;clear eW am
 go_loopw [19] (fun i wr=>∃ k:Nat,k≤next.length∧i=.int .i64 k∧TP (rx w.heap.size sb nr) fs a2 next w k wr) (fun i _=>next.length - (intOf i).toNat)
 case atStart=>exact ⟨0,ε,rfl,aR.out⟩
 case round=>
  obtain ⟨k,hk,rfl,hI⟩:=hrel;clear aR;by_cases a0:k < next.length
  ·have c3:(0:Int)≤(k:Int):=by omega
   have bu:(k:Int) < (next.length:Int):=by omega
   obtain ⟨⟨told,fb,hF,J⟩,y⟩:=hI;obtain ⟨bq,oq,Ae,ce,Af,cf,bk,rfl,_,f0,f1,f2,b1,ae⟩:=fZ (bG.below HH.out y) a0;have hA:Below wr.heap.size wr (wr.alloc (.cells #[.string next[k].head.name,.slice Ae next[k].head.args.length ce,.slice Af next[k].body.length cf] 40)):=ζ;have ao:=hF.keep (fun x hx=>hA.block x (hF.lt x hx)) hA.size;obtain ⟨bv,b2⟩:=ao.st
   have U:=Nk sb fs bv a2 next[k] (.string next[k].head.name) (.slice Ae next[k].head.args.length ce) (.slice Af next[k].body.length cf) bk (PU (rx w.heap.size sb nr) w.heap.size fs a2 ag) told fb _ b2 ag (by omega) (aU.below b1 hA) (hR _ (δ a0)) ao (fun x hx e=>(hF.qK x hx).2 (by rcases e with rfl | rfl | rfl <;> simp [o6.own])) (fun x hx e=>by
    have h1:=bG.lt HH.out x (ae x hx)
    rcases e with rfl | rfl | rfl <;> (simp only [rx] at h1; omega))
   have HN:Hid (∀ w9 ts a7 more,TK (rx w.heap.size sb nr) w.heap.size fs a2 more w9 (told ++ ts) a7→fO (rx w.heap.size sb nr).K (wr.alloc (.cells #[.string next[k].head.name,.slice Ae next[k].head.args.length ce,.slice Af next[k].body.length cf] 40)) w9→(∀ t ∈ ts,kF fs next[k] t)→(more=true→∀ t,kF fs next[k] t→t ∈ ts)→(more=false→TA fs (told ++ ts)=false)→
     w9.cell? ⟨w.heap.size+1+1+1+1+1+1,0,none⟩=some (.bool more)∧(more=true→TP (rx w.heap.size sb nr) fs a2 next w (k+1) w9)∧(more=false→G9 B sb mu mp Fb fr fs rn next nr B0 w (.returned (.tuple #[.map none,.bool false])) w9)):=η fun w9 ts a7 more q1 q3 q4 q5 q6=>by
    have hz:=y.size;have b4:Below w.heap.size w w9:=⟨q3.os.trans (hA.os.trans y.os),q3.tape.trans (hA.tape.trans y.tape),q3.output.trans (hA.output.trans y.output),τ hz (τ hA.size q3.size),fun x hx=>(q3.block x (by have:=hA.size; omega) (fun e=>by rcases e with e | e | e <;> (simp only [rx] at e; omega))).trans ((hA.block x (by omega)).trans (y.block x hx))⟩;refine ⟨?_,fun hm=>?_,fun hm=>?_⟩
    ·cases more with
     | true=>exact ai (lV.cF q1)
     | false=>exact ai (qB.cF q1)
    ·subst hm
     refine ⟨⟨told ++ ts,a7,q1,fun t=>?_⟩,b4⟩;rw [μ,J,TM a0];exact or_congr Iff.rfl ⟨q4 t,q5 rfl t⟩
    ·subst hm
     have hg:=PK (q6 rfl);have hn:=oV fs (told ++ ts);refine ⟨b4.mono (by have:=HS.out.lt; omega),.inr ⟨rfl,newL fs (told ++ ts),hn.1,fun t ht=>?_,hg⟩⟩;obtain ⟨h1,h2⟩:=(hn.2 t).1 ht;refine ⟨h2,?_⟩
     rcases μ.1 h1 with h1 | h1
     ·obtain ⟨r,hr,hf⟩:=(J t).1 h1
      exact ⟨r,List.mem_of_mem_take hr,hf⟩
     ·exact ⟨next[k],δ a0,q4 t h1⟩
   have y0:wr.cell? ⟨w.heap.size,0,none⟩=some (.pointer (some ⟨sb,0,none⟩)):=ai hF.cS;have c4:w.heap.size < wr.heap.size:=hF.lt _ (hF.ow _ (by show _ ∈ [_,_,_,_,_,_,_]; simp [rx]));have a8:=η a0;clear hF J ao b2 y hA b1 ae hk;generalize next[k]=r at *;obtain ⟨⟨c5,ra⟩,rb⟩:=r;dsimp only at *;clear a0;unfold rx o6.tY at U
   go_wp2_with fail
   refine U.mono ?_;rintro e w9 ⟨rfl,ts,a7,more,q1,q2,q3,q4,q5,q6⟩;obtain ⟨y1,b5,b6⟩:=HN.out w9 ts a7 more q1 q3 q4 q5 q6;have ap:=η b5;have aq:=η b6;clear U HN q1 q2 q3 q4 q5 q6 b5 b6
   cases more with
   | false=>
    have HP:=η (aq.out rfl);clear ap aq;go_wp2;go_ret2;exact HP.out
   | true=>
    have HI:=η (ap.out rfl);clear ap aq;go_wp2;go_roundw
    case rel=>exact ⟨k+1,a8.out,by go_num,HI.out⟩
    case measure=>have:=a8.out; simp [intOf]; omega
  ·have he:k=next.length:=by omega
   have bu:¬ (k:Int) < (next.length:Int):=by omega
   obtain ⟨⟨told,fb,hF,J⟩,y⟩:=hI;rw [ϕ (Nat.le_of_eq he.symm)] at J;obtain ⟨vs,sd,bb,a1,a9,b7⟩:=hF.cH;have b8:w.heap.size < wr.heap.size:=hF.lt _ (hF.ow _ (by show _ ∈ [_,_,_,_,_,_,_]; simp [rx]));have y0:wr.cell? ⟨w.heap.size+1+1+1,0,none⟩=some (.chan (some (w.heap.size+1+1))):=ai hF.cC;have b9:Hid (∀ t,t ∈ newL fs told ↔ t ∉ fs∧∃ q ∈ next,kF fs q t):=η fun t=>by rw [(oV fs told).2,J]; exact And.comm
   have HX:=η (V4 (sd:=sd) (B0:=B0) (bb:=bb) HS.out hF b8 rfl aD ag bp);have HI:=η (PY (sd:=sd) bl HS.out hF y aD a1 a9 b7);have bw:∀ ar ty,(Builtin.close_ ar ty #[.chan (some (w.heap.size+1+1))]).run Tryz.prog wr=.ok (.tuple #[]) (wr.setChan (w.heap.size+1+1) 301 ⟨vs⟩ true sd 0 false):=fun ar ty=>run_close_open ar ty a1
   have av:(wr.setChan (w.heap.size+1+1) 301 ⟨vs⟩ true sd 0 false).heap.size=wr.heap.size:=by simp [World.setChan]
   have af:=aM 116 (wr.setChan (w.heap.size+1+1) 301 ⟨vs⟩ true sd 0 false);rw [av] at af;have bc:w.heap.size+1+1+1 < wr.heap.size:=lt_of_cell y0
   have y1:((wr.setChan (w.heap.size+1+1) 301 ⟨vs⟩ true sd 0 false).alloc (.map #[] 0)).cell? ⟨w.heap.size+1+1+1,0,none⟩=some (.chan (some (w.heap.size+1+1))):=by
    refine (World.cell?_of_block ?_).trans y0;show (World.alloc _ _).heap[w.heap.size+1+1+1]? = _;rw [Below.heap_alloc _ _ _ (by rw [av]; exact bc)];simp only [World.setChan];rw [Array.getElem?_setIfInBounds_ne (by omega)]
   have aw:w.heap.size≤wr.heap.size:=y.size;clear hF J a9 b7 a1 aM br y bt;go_wp2;clear bw y0 av bc;generalize (wr.setChan (w.heap.size+1+1) 301 ⟨vs⟩ true sd 0 false).alloc (.map #[] 0)=W2 at *;clear af;have bx:=η aw;generalize wr.heap.size=mc at *;clear b8
   go_loopg [34] (newL fs told).length (fun gg _ bz=>∃ I:Nat,I≤(newL fs told).length∧(newL fs told).length - I≤gg∧Aside (DR (rcv B sb mu mp nr B0 w.heap.size mc sd Fb fr bb fs rn (newL fs told)) w I bz))
   case atStart=>exact ⟨0,ε,by omega,HI.out⟩
   case round=>
    obtain ⟨I,c6,hg,hI⟩:=hrel;clear HI y1;by_cases a0:I < (newL fs told).length
    ·obtain ⟨c,a4,ba,a1,hM⟩:=DR.recv HX.out hI.out a0
     have a3:wr.heap[w.heap.size+1+1]? = some (.chan 301 ⟨.agg #[.string (newL fs told)[I].name,c] :: a4⟩ true sd I false):=a1;have a6:qC (rcv B sb mu mp nr B0 w.heap.size mc sd Fb fr bb fs rn (newL fs told)) w I (newL fs told)[I] c ba (wr.setChan (w.heap.size+1+1) 301 ⟨a4⟩ true sd (I+1) false):=hM;have hex:(⟨.agg #[.string (newL fs told)[I].name,c] :: a4⟩:Array Value).extract 1 (⟨.agg #[.string (newL fs told)[I].name,c] :: a4⟩:Array Value).size=⟨a4⟩:=by simp
     clear hM a1
     go_upto_region 14 with fail
     refine uq ?_;refine QG (i:=0) (w':=wr) (ok:=true) (z:=.agg #[.string ⟨#[]⟩,.slice none 0 0]) (by rfl) (by rfl) (by go_simp; rfl) a3 (by simp) ?_;rw [hex];refine sG (i:=1) (by rfl) (by rfl) (v:=.bool true) (w':=wr.setChan (w.heap.size+1+1) 301 ⟨a4⟩ true sd (I+1) false) (by simp [Go.Conc.got]; go_simp) ?_;refine F8 (show Exit.then _ _ Exit.normal _ _ from ?_);generalize wr.setChan (w.heap.size+1+1) 301 ⟨a4⟩ true sd (I+1) false=W3 at *;clear hex a3;obtain ⟨Ae,ce,_,rfl⟩:=bI a6.at';have z0:W3.cell? ⟨w.heap.size,0,none⟩=some (.pointer (some ⟨sb,0,none⟩)):=ai a6.cS;have z1:W3.cell? ⟨w.heap.size+1,0,none⟩=some (.int .i64 nr):=ai a6.cN;have bA:=lt_of_cell z0;have bB:=lt_of_cell z1;have U:=Vb HX.out a0 a6;have ab:=η a6;clear a6;simp only [Go.Conc.got,if_true]
     go_wp2_with fail
     refine U.mono ?_;rintro e w5 ⟨rfl,q1,q2,q3,q4⟩;obtain ⟨n,L,f,m1,m2,m3,m4⟩:=ab.out.cam;have bf:Hid (eU mc n L f w5):=η (m1.same (q3 _ HX.out.mM));obtain ⟨v,hv⟩:∃ v,(if (newL fs told)[I].name ∈ L then f (newL fs told)[I].name else 0)=v:=⟨_,rfl⟩;have a5:=HX.out.few;have c7:I≤300:=by have:fs.length+(newL fs told).length≤300:=a5; omega
     have c8:0≤v:=by
      rw [← hv]
      split
      ·rename_i hm; have:=m4 _ hm; omega
      ·omega
     have c9:v≤300:=by
      rw [← hv]
      split
      ·rename_i hm; have:=m4 _ hm; omega
      ·omega
     have bg:Hid (∀ w6,eU mc (n+1) (dG L (newL fs told)[I].name) (fun t=>if t=(newL fs told)[I].name then v+1 else f t) w6→w5.grownBy w6 (some mc)→DR (rcv B sb mu mp nr B0 w.heap.size mc sd Fb fr bb fs rn (newL fs told)) w (I+1) w6):=η fun w6 h6 ac=>qC.done HX.out a0 ab.out q1 q2 q3 (by rw [← hv] at h6; exact h6) ac m2 m3 m4
     have bh:Hid ((newL fs told)[I].name.size≤maxLen):=η (by obtain ⟨_,_,hs,_⟩:=ab.out.at'; exact hs);have z5:w5.cell? ⟨W3.heap.size,0,none⟩=some (.string (newL fs told)[I].name):=ai q4;have ca:=lt_of_cell z5;have HV:=η hv;have a8:=η a0;have bE:n < maxLen:=by unfold maxLen; omega
     clear q1 q2 q3 q4 m1 m2 m3 m4 U ab a5 hv z0 z1 bA bB hI;generalize (newL fs told)[I]=a at *;clear a0
     go_wp2_with (first | (at_lookup; refine qZ _ rfl _ _ _ rfl Tryz.underlying116 _ _ L _ rfl bf.out a.name rfl bh.out v HV.out ?_) | (at_mapUpdate; refine je _ rfl _ _ _ _ rfl Tryz.underlying116 _ _ L _ rfl bf.out a.name rfl bh.out (v+1) rfl bE (by omega) ?_; intro w6 bi ac))
     have bL:=η (bg.out w6 bi ac);clear bi ac bg
     go_roundg ((newL fs told).length - (I+1))
     case measure=>have:=a8.out; omega
     case rel=>exact ⟨I+1,a8.out,ν,bL.out⟩
    ·have bO:I=(newL fs told).length:=by omega
     obtain ⟨az,b3,a1,a9,_⟩:=hI.out.chn;have aa:Hl wr az ((newL fs told).drop I) b3:=a9;rw [List.drop_of_length_le (by omega)] at aa
     have bR:az = []:=by
      cases az with
      | nil=>rfl
      | cons v vs=>exact aa.elim
     subst bR;have a3:wr.heap[w.heap.size+1+1]? = some (.chan 301 #[] true sd I false):=a1
     have HP:Hid (G9 B sb mu mp Fb fr fs rn next nr B0 w (.returned (.tuple #[.map (some mc),.bool true])) wr):=η (by
      have h:=hI.out;have hX:=HX.out;have hn:=oV fs told;obtain ⟨n,L,f,m1,m2,m3,m4⟩:=h.cam;have et:(newL fs told).take I=newL fs told:=ϕ (by omega);have hs:jd B sb mu mp (fun k=>Fb k∧k ≠ w.heap.size+2∧k ≠ mc) (fr ++ ([w.heap.size,w.heap.size+1,w.heap.size+2,mc] ++ bb)) (fs ++ (newL fs told).take I) (rn ++ List.replicate I nr) wr:=h.qK;have bj:∀ s,s ∈ L ↔ ∃ t ∈ (newL fs told).take I,t.name=s:=m3;have a5:fs.length+(newL fs told).length≤300:=hX.few;rw [et] at hs bj;rw [bO] at hs;refine ⟨h.bel,.inl ⟨newL fs told,mc,n,L,f,rfl,hn.1,fun t ht=>hX.nok t ht,b9.out,a5,(hs.mono fun x hx _=>hx.1).sub fun x hx=>Ξ _ hx,h.kep,m1,bx.out,bj,fun s bX=>?_⟩⟩;have:=m4 s bX
      omega)
     clear hI a9 aa a1 HX b9
     go_upto_region 14 with fail
     refine uq ?_;refine QI (i:=0) (w':=wr) (ok:=true) (z:=.agg #[.string ⟨#[]⟩,.slice none 0 0]) (by rfl) (by rfl) (by go_simp; rfl) a3 ?_;refine sG (i:=1) (by rfl) (by rfl) (v:=.bool false) (w':=wr) (by simp [Go.Conc.got]; go_simp) ?_;refine F8 (show Exit.then _ _ Exit.normal _ _ from ?_);simp only [Go.Conc.got,if_true];clear a3;go_wp2;go_ret2;exact HP.out
theorem D.V5 (rs:List Ru) (xs:List A):fD rs xs=(decide (xs.length≤40) && jg rs xs):=by
 unfold fD jg okB kH;by_cases h1:xs.length≤40
 ·have y:xs.length≤300:=by omega
  rw [decide_eq_true h1,decide_eq_true y];simp
 ·rw [decide_eq_false h1]
  simp
theorem DT (rs:List Ru) (xs:List A) (I J:Value) (b1 b2:List Nat) (w:World) (h:dI w [I] rs b1) (U:aV w [J] xs b2) (hg:lY w):
  Calls Tryz.prog 75 #[I,J] w fun e w'=>e=.returned (.bool (fD rs xs))∧Below w.heap.size w w':=by
 have c1:=Ed rs xs I J b1 b2 w h U hg;have HE:=η (V5 rs xs);obtain ⟨a1,cap2,rfl,_,_⟩:=ak U;clear h U hg;generalize jg rs xs=q at *;by_cases hl:(xs.length:Int)≤40
 ·have y:Hid (q=fD rs xs):=η (by rw [HE.out,decide_eq_true (by omega)]; simp)
  go_enter Tryz.func75,Tryz.ntmps75
  go_wp2_with (go_at_call 19; refine c1.mono ?_; rintro e w1 ⟨rfl,a0⟩)
  go_ret;exact ⟨aH y.out,a0⟩
 ·have y:Hid (false=fD rs xs):=η (by rw [HE.out,decide_eq_false (by omega)]; simp)
  go_enter Tryz.func75,Tryz.ntmps75
  go_wp2;go_ret;exact ⟨aH y.out,(Below.refl w.heap.size w)⟩
structure D.yB (w:World) (b1:List Nat) (v:Value) (L:List Value) (xs:List Ru) (wr:World):Prop where
 coll:∃ bs,aW 3 fG (w.heap.size+1) 40 wr v L xs bs∧∀ b ∈ bs,b ∈ b1
 bel:Below w.heap.size w wr
theorem D.yB.below {w wr w':World} {y:List Nat} {v:Value} {L:List Value} {xs:List Ru} (h:yB w y v L xs wr) (I:Below wr.heap.size wr w'):yB w y v L xs w':=
 ⟨by obtain ⟨bs,hc,h1⟩:=h.coll; exact ⟨bs,hc.below aU I,h1⟩,h.bel.trans (I.mono h.bel.size)⟩
def D.TQ (rs:List Ru) (L:Nat):List Ru:=rs.filter fun r=>decide (dX rs r.head.name=L)
theorem D.TR (rs:List Ru) (L:Nat):OwnAt rs L (TQ rs L):=fun r=>by unfold TQ; rw [List.mem_filter,decide_eq_true_iff]
theorem D.Vd {rs:List Ru} (H:qI rs) {k:Nat} (I:k < rs.length) (y:k < (ay rs).length):(ay rs)[k]=dX rs rs[k].head.name:=by
 have J:=(jU H.cyc).2 k I;have U:dA rs k=rs[k]:=by unfold dA; simp [List.getD,I]
 have e2:gX (ay rs) k=(ay rs)[k]:=by unfold gX; simp [List.getD,y]
 rw [← e2,J,U]
structure D.Ve (rs:List Ru) (xs:List A) (L z:Nat) (own:List Ru) (fr:List Nat) (w W:World) (next:List Ru) (fs:List A) (rn:List Nat) (number:Nat) (wr:World):Prop where
 mid:oZ rs xs L own next fs rn number
 sub:∀ q ∈ next,q ∈ own
 qK:jd (z+3) (z+2) z (z+1) (fun _=>True) fr fs rn wr
 bel:Below w.heap.size w wr
 kep:∀ x ∈ fr,wr.heap[x]? = W.heap[x]?
theorem D.TT {own:List Ru} {new:List A} {y:List ByteArray} (h:∀ s,s ∈ y ↔ ∃ t ∈ new,t.name=s):(own.filter fun r=>r.body.any (kQ y))=Nl own new:=by
 classical
 unfold Nl;refine List.filter_congr fun q _=>?_
 refine congrArg (fun f=>q.body.any f) (funext fun p=>?_);unfold kQ;rw [decide_eq_decide.2 (h p.atom.name)]
theorem D.DU {own:List Ru} {y:List ByteArray} (h:y = []):(own.filter fun r=>r.body.any (kQ y)) = []:=by
 subst h;rw [List.filter_eq_nil_iff];intro q _ hq;obtain ⟨p,_,I⟩:=List.any_eq_true.1 hq;unfold kQ at I;simp at I
def D.AX (rs:List Ru) (xs:List A) (w:World) (e:Ending) (w':World):Prop:=
 Below w.heap.size w w'∧((fD rs xs=true∧(gu rs xs).2=true∧∃ z fr fs rn,w.heap.size≤z∧e=.returned (.tuple #[.pointer (some ⟨z+2,0,none⟩),.bool true])∧jd (z+3) (z+2) z (z+1) (fun _=>True) fr fs rn w'∧Vl fs rn (gu rs xs).1∧(∀ x ∈ fs,aT x)∧fs.length≤300) ∨
  ((fD rs xs=true→(gu rs xs).2=false)∧e=.returned (.tuple #[.pointer none,.bool false])))
theorem He (rs:List Ru) (xs:List A) (v1 v2:Value) (b1 b2:List Nat) (w:World) (h:dI w [v1] rs b1) (h2:aV w [v2] xs b2) (hg:lY w):
  Calls Tryz.prog 72 #[v1,v2] w (AX rs xs w):=by
 have c1:=DT rs xs v1 v2 b1 b2 w h h2 hg;obtain ⟨Ad,cap,rfl,cc,cd⟩:=ak h;obtain ⟨e1,cap2,rfl,_,_⟩:=ak h2;have dC:=aA (τ cc cd);have HH:=η (ι h h2);obtain ⟨i0,hi,cL,cP,cQ⟩:=info_parts E8;clear h h2 hg cc cd
 cases hf:fD rs xs with
 | false=>
  have HP:Hid (∀ w',Below w.heap.size w w'→AX rs xs w (.returned (.tuple #[.pointer none,.bool false])) w'):=η fun w' hb=>⟨hb,.inr ⟨Φ hf,rfl⟩⟩
  rw [hf] at c1;clear hf
  go_enter Tryz.func72,Tryz.ntmps72
  go_wp2_with fail
  refine c1.mono ?_;rintro e w1 ⟨rfl,az⟩;have HB:=η az;clear c1 az;go_wp2;go_ret2;exact HP.out _ HB.out
 | true=>
  have hK:=qA hf;have HF:=η hf;rw [hf] at c1;clear hf
  go_enter Tryz.func72,Tryz.ntmps72
  go_wp2_with fail
  refine c1.mono ?_;rintro e w1 ⟨rfl,az⟩;have ao:=η az;clear c1 az;have hR:=Tn ((lG rs).2 hK.fine);have aD:∀ f ∈ xs,aT f:=fun f hf=>yx (hK.facts f hf)
  have c2:=Kt xs _ b2 w1 (au.below HH.out.2 ao.out) aD (jZ hK.gB) (by have:=hK.n; omega)
  go_wp2_with fail
  refine c2.mono ?_;rintro e w2 ⟨rfl,hS⟩;obtain ⟨cg,ci⟩:=hS.qK (fun x hx=>κ (au.lt HH.out.2 x hx) ao.out.size);have bo:=η (ao.out.trans (cg.mono ao.out.size));have cj:=η ci;clear hS ci cg c2;have c3:=wK rs _ b1 w2 (bG.below HH.out.1 bo.out) hK.m hK.ok
  go_wp2_with fail
  refine c3.mono ?_;rintro e w3 ⟨bB,a9⟩;clear c3
  rcases a9 with ⟨bx,_⟩ | ⟨_,v5,b5,rfl,aE,aL⟩
  ·have:=hK.fine.no
   rw [this] at bx; cases bx
  ·obtain ⟨A5,c5,rfl,_,_⟩:=ak aE
   have a1:jd (w1.heap.size+3) (w1.heap.size+2) w1.heap.size (w1.heap.size+1) (fun _=>True) b5 xs (List.replicate xs.length 0) w3:=by
    have:=(cj.out.mono (Fb':=fun _=>True) fun _ _ _=>trivial).more bB b5 fun x hx=>⟨(aL.own x hx).1,aL.lt hx⟩
    simpa using this
   have ck:Hid (oW rs xs 0 xs (List.replicate xs.length 0) 0):=η (all_start hK.gB aD (by have:=hK.n; omega));have cl:=η a1;have cm:=η (bo.out.trans (bB.mono bo.out.size));have cn:=η aE;have cT:Hid ((ay rs).length=rs.length):=η (eP rs);clear a1 aE aL bB cj;have ap:=η hR;have HK:=η hK;have co:=η ao.out.size;have cU:rs.length≤8:=hK.m;clear aD hR hK;go_wp2;generalize w1.heap.size=z at *;clear ao bo
   go_loopw [9,30] (fun v9 i wr=>∃ (L:Nat) (fs:List A) (rn:List Nat) (number:Nat),L≤rs.length∧i=.int .i64 L∧v9=.int .i64 number∧oW rs xs L fs rn number∧jd (z+3) (z+2) z (z+1) (fun _=>True) b5 fs rn wr∧Below w.heap.size w wr∧∀ x ∈ b5,wr.heap[x]? = w3.heap[x]?) (fun _ i _=>rs.length - (intOf i).toNat)
   case atStart=>exact ⟨0,xs,_,0,ε,rfl,rfl,ck.out,cl.out,cm.out,fun x _=>rfl⟩
   case round=>
    obtain ⟨L,fs,rn,number,hL,rfl,rfl,a6,a1,af,aM⟩:=hrel;clear ck cl cm;have cV:=η a6;have aR:=η a1;have b3:=η af;have bz:=η aM;by_cases a7:L < rs.length
    ·have cq:Hid (yB wr b1 (.slice none 0 0) [] [] wr):=η ⟨⟨[],aW.nil _,fun b hb=>by simp at hb⟩,ϑ⟩
     have e2:(0:Int)≤(L:Int):=by omega
     have cW:(L:Int) < (rs.length:Int):=by omega
     have b4:=η a7;clear a6 a1 af aM;obtain ⟨W0,cX⟩:∃ W0,W0=wr:=⟨_,rfl⟩;subst cX;go_wp2
     go_loopw [11,35] (fun v i cY=>∃ (k:Nat) (Av:Option Addr) (cp:Nat) (M:List Value) (ys:List Ru),k≤rs.length∧i=.int .i64 k∧v=.slice Av ys.length cp∧ys=(rs.take k).filter (fun r=>decide (dX rs r.head.name=L))∧yB W0 b1 (.slice Av ys.length cp) M ys cY) (fun _ i _=>rs.length - (intOf i).toNat)
     case atStart=>exact ⟨0,none,0,[],[],ε,rfl,rfl,rfl,cq.out⟩
     case round=>
      obtain ⟨k,Av,cp,M,ys,hk,rfl,rfl,bE,hV⟩:=hrel;clear cq;have HY:=η bE
      have bL:Hid (ys.length≤1000000):=η (by
       rw [bE];refine τ (List.length_filter_le _ _) ?_
       rw [List.length_take]; omega)
      clear bE;have hB:=b3.out.trans (hV.bel.mono b3.out.size);by_cases a7:k < rs.length
      ·obtain ⟨b,o,Ae,ce,Af,cf,bk,rfl,_,d0,d1,d2,bO,bA⟩:=fZ HH.out.1 a7
       replace d0:=ξ hB d0;replace d1:=ξ hB d1;replace d2:=ξ hB d2;have aa:k < (ay rs).length:=by rw [cT.out]; exact a7
       obtain ⟨b7,o7,rfl,cr,e7⟩:=oM cn.out aa;have e8:wr.cell? ⟨b7,o7+k,none⟩=some (.int .i64 ((ay rs)[k]:Nat)):=(World.cell?_of_block ((hV.bel.block b7 (aR.out.lt.2.2 _ cr)).trans (bz.out _ cr))).trans e7;have e3:(0:Int)≤(k:Int):=by omega
       have d3:(k:Int) < (rs.length:Int):=by omega
       have e4:(k:Int) < ((ay rs).length:Int):=by omega
       have bp:=Vd ap.out a7 aa;have hA:Below wr.heap.size wr (wr.alloc (.cells #[.string rs[k].head.name,.slice Ae rs[k].head.args.length ce,.slice Af rs[k].body.length cf] 40)):=ζ;have bR:=η (hV.below hA);have d4:=η (aU.below (aU.below bO hB) hA);have cv:=η (zf (fun r:Ru=>decide (dX rs r.head.name=L)) rs k a7);have d5:Hid (∀ c ∈ bk,c < W0.heap.size):=η fun c hc=>κ (aU.lt bO c hc) b3.out.size
       have cw:=η bA;have e5:W0.heap.size≤wr.heap.size:=hV.bel.size;have e6:=lt_of_cell e8;clear bO bA hV hA hB e7;generalize (ay rs)[k]=lv at *;generalize rs[k]=r at *;obtain ⟨⟨nm,args⟩,body⟩:=r;dsimp only at *;have ag:=η a7;clear a7 aa;by_cases hq:lv=L
       ·have d6:((lv:Int) == (L:Int))=true:=beq_iff_eq.2 (by omega)
        have HQ:Hid ((rs.take (k+1)).filter (fun r=>decide (dX rs r.head.name=L))=ys ++ [(⟨⟨nm,args⟩,body⟩:Ru)]):=η (by rw [cv.out,HY.out,if_pos (by simp [← bp,hq])]);have bq:Below (wr.alloc (.cells #[.string nm,.slice Ae args.length ce,.slice Af body.length cf] 40)).heap.size (wr.alloc (.cells #[.string nm,.slice Ae args.length ce,.slice Af body.length cf] 40)) ((wr.alloc (.cells #[.string nm,.slice Ae args.length ce,.slice Af body.length cf] 40)).alloc (.cells #[.string nm,.slice Ae args.length ce,.slice Af body.length cf] 40)):=ζ;obtain ⟨d7,aq,b8⟩:=(bR.out.below bq).coll;have HC:=η aq;have d8:=η b8;have HB:=η (bR.out.below bq).bel;have HR:Hid (aQ 3 fG ((wr.alloc (.cells #[.string nm,.slice Ae args.length ce,.slice Af body.length cf] 40)).alloc (.cells #[.string nm,.slice Ae args.length ce,.slice Af body.length cf] 40)) [.string nm,.slice Ae args.length ce,.slice Af body.length cf] [(⟨⟨nm,args⟩,body⟩:Ru)] bk):=η (aQ.cu kU (aU.below d4.out bq))
        have HL:Hid (Lies ((wr.alloc (.cells #[.string nm,.slice Ae args.length ce,.slice Af body.length cf] 40)).alloc (.cells #[.string nm,.slice Ae args.length ce,.slice Af body.length cf] 40)) (some ⟨wr.heap.size+1,0,none⟩) [.string nm,.slice Ae args.length ce,.slice Af body.length cf]):=η (by
         have:=aP (ω (wr.alloc (.cells #[.string nm,.slice Ae args.length ce,.slice Af body.length cf] 40)) (.cells #[.string nm,.slice Ae args.length ce,.slice Af body.length cf] 40))
         simpa using this)
        have HF:Hid (∀ c,c < W0.heap.size+1→(Value.slice Av ys.length cp).ownBlock ≠ some c):=η fun c hc=>aO aq.own hc
        have b9:W0.heap.size+1≤((wr.alloc (.cells #[.string nm,.slice Ae args.length ce,.slice Af body.length cf] 40)).alloc (.cells #[.string nm,.slice Ae args.length ce,.slice Af body.length cf] 40)).heap.size:=by simp; omega
        have d9:=η b9;clear aq b8 bq b9 bp hq
        go_wp2_with (at_builtin; refine bJ rfl _ _ _ rfl (W0.heap.size+1) 40 i0 (.agg #[.string ⟨#[]⟩,.slice none 0 0,.slice none 0 0]) 3 64 Tryz.underlying23 hi cL cP cQ rfl (by omega) aU (.slice Av ys.length cp) ys.length _ _ _ rfl HC.out rfl (some ⟨wr.heap.size+1,0,none⟩) 1 1 _ [⟨⟨nm,args⟩,body⟩] _ rfl HR.out rfl HL.out (fun c hc=>HF.out c (by have:=d5.out c hc; omega)) (by have:=bL.out; unfold maxLen; omega) (by have:=bL.out; omega) W0 W0.heap.size HB.out (Nat.le_succ _) d9.out ?_; intro A9 da w9 cx cy db dc)
        have de:Hid (yB W0 b1 (.slice A9 (ys ++ [(⟨⟨nm,args⟩,body⟩:Ru)]).length da) (M ++ [.string nm,.slice Ae args.length ce,.slice Af body.length cf]) (ys ++ [(⟨⟨nm,args⟩,body⟩:Ru)]) w9):=η ⟨⟨_,by rw [χ]; exact cx,fun b hb=>(μ.1 hb).elim (d8.out b) (cw.out b)⟩,cy⟩;have cz:ys.length+1=(ys ++ [(⟨⟨nm,args⟩,body⟩:Ru)]).length:=by simp
        rw [cz];clear cx cy db dc HC HB HR HL HF cz;go_roundw
        case rel=>exact ⟨k+1,_,_,_,_,ag.out,by go_num,rfl,HQ.out.symm,de.out⟩
        case measure=>have:=ag.out; simp [intOf]; omega
       ·have d6:((lv:Int) == (L:Int))=false:=by
         rw [beq_eq_false_iff_ne]; omega
        have HQ:Hid ((rs.take (k+1)).filter (fun r=>decide (dX rs r.head.name=L))=ys):=η (by rw [cv.out,HY.out,if_neg (by simp [← bp,hq])]);clear bp hq;go_wp2;go_roundw
        case rel=>exact ⟨k+1,_,_,_,_,ag.out,by go_num,rfl,HQ.out.symm,bR.out⟩
        case measure=>have:=ag.out; simp [intOf]; omega
      ·have dg:k=rs.length:=by omega
       have d3:¬ (k:Int) < (rs.length:Int):=by omega
       have cA:Hid (ys=TQ rs L):=η (by rw [HY.out,ϕ (Nat.le_of_eq dg.symm)]; rfl);obtain ⟨d7,aq,b8⟩:=hV.coll;obtain ⟨b6,br,y⟩:=aq.slice;obtain ⟨a0,bt⟩:∃ a0,a0=b5 ++ b6.filter (fun b=>decide (W0.heap.size≤b)):=⟨_,rfl⟩
       have bc:jd (z+3) (z+2) z (z+1) (fun _=>True) a0 fs rn wr:=bt ▸ aR.out.more hV.bel _ fun x hx=>by
        obtain ⟨h1,h2⟩:=List.mem_filter.1 hx;exact ⟨of_decide_eq_true h2,bG.lt br x h1⟩
       have cB:Hid (∀ w',Below w.heap.size w w'→(∀ x ∈ a0,w'.heap[x]? = wr.heap[x]?)→dI w' [.slice Av ys.length cp] ys b6):=η fun w' h1 h2=>bG.keep br fun b hb=>by
        by_cases di:W0.heap.size≤b
        ·exact h2 b (bt ▸ Ω _ (List.mem_filter.2 ⟨hb,decide_eq_true di⟩))
        ·rcases y b hb with h3 | h3
         ·omega
         ·have h4:=bG.lt HH.out.1 b (b8 b h3)
          exact (h1.block b h4).trans (hB.block b h4).symm
       have cD:Hid (∀ x ∈ b5,x ∈ a0):=η fun x hx=>bt ▸ Ξ _ hx
       have dj:Hid (∀ x ∈ b5,wr.heap[x]? = w3.heap[x]?):=η fun x hx=>(hV.bel.block x (aR.out.lt.2.2 x hx)).trans (bz.out x hx)
       have e9:=η hB;have a2:oZ rs xs L ys ys fs rn number:=cV.out.enter;have cE:Hid (Ve rs xs L z ys a0 w wr ys fs rn number wr):=η ⟨a2,fun q hq=>hq,bc,hB,fun x _=>rfl⟩;have cG:Hid (dI wr [.slice Av ys.length cp] ys b6):=η br;clear hV aq br y bt bc hB a2 HY b8;obtain ⟨W9,dk⟩:∃ W9,W9=wr:=⟨_,rfl⟩;subst dk;go_wp2
       go_loopg [9,14] 1000 (fun gg v9 dl cI=>∃ (next:List Ru) (bX:Option Addr) (c0:Nat) (c4:List Nat) (I:List A) (a4:List Nat) (J:Nat),v9=.int .i64 J∧dl=.slice bX next.length c0∧2 * (300 - I.length)+(if next = [] then 0 else 1)≤gg∧Aside (Ve rs xs L z ys a0 w W9 next I a4 J cI)∧Aside (dI cI [.slice bX next.length c0] next c4))
       case atStart=>exact ⟨ys,Av,cp,b6,fs,rn,number,rfl,rfl,by split <;> omega,cE.out,cG.out⟩
       case round=>
        obtain ⟨next,bX,c0,c4,I,a4,J,rfl,rfl,bu,a5,c6⟩:=hrel;clear cE cG;by_cases bf:next = []
        ·subst bf
         have HD:Hid (oW rs xs (L+1) I a4 J∧jd (z+3) (z+2) z (z+1) (fun _=>True) b5 I a4 wr∧Below w.heap.size w wr∧∀ x ∈ b5,wr.heap[x]? = w3.heap[x]?):=η ⟨a5.out.mid.done ap.out (Nat.le_of_lt b4.out) (cA.out ▸ TR rs L),a5.out.qK.sub cD.out,a5.out.bel,fun x hx=>(a5.out.kep x (cD.out x hx)).trans (dj.out x hx)⟩;clear a5 c6 bu;go_wp2;go_roundw
         case rel=>exact ⟨L+1,I,a4,J,b4.out,by go_num,rfl,HD.out⟩
         case measure=>have:=b4.out; simp [intOf]; omega
        ·have dE:0 < next.length:=List.length_pos_iff.2 bf
         rw [if_neg bf] at bu;have ea:(0:Int) < (next.length:Int):=by omega
         obtain ⟨c7,dp,eb,am⟩:=a5.out.mid.few;have ab:OwnAt rs L ys:=cA.out ▸ TR rs L;have ac:=P6 (z+3) (z+2) z (z+1) (fun _=>True) (fun _ _=>trivial) a0 I a4 next _ c4 (J+1) w.heap.size wr a5.out.qK c6.out am c7 (by omega) (fun r hr=>ap.out.fol r ((ab r).1 (a5.out.sub r hr)).1) (by have:=co.out; omega);have dT:(0:Int)≤(J:Int):=by omega
         have e0:(J:Int)≤300:=by omega
         have bg:((J+1:Nat):Int)=(J:Int)+1:=by omega
         rw [bg] at ac;clear bg;have HG:=η bu;have cJ:=η bf;have bh:=η a5.out;have cK:=η ab;clear bu bf a5 c6 am ab dp
         go_wp2_with fail
         refine ac.mono ?_;rintro e w5 ⟨bi,a9⟩;clear ac
         rcases a9 with ⟨new,mc,n,Lm,fm,rfl,ar,bj,av,c8,aw,aa,bv,ec,bl,c9⟩ | ⟨rfl,new,ar,bj,av⟩
         ·have U:=bh.out.bel.trans bi
          have a3:∀ x ∈ a0,w5.heap[x]? = W9.heap[x]?:=fun x hx=>(aa x hx).trans (bh.out.kep x hx)
          have a2:=bh.out.mid.round ap.out (Nat.le_of_lt b4.out) cK.out cJ.out ar av c8;have HT:=η (Jy mc n Lm fm ys (.slice Av ys.length cp) b6 w5 (cB.out w5 U a3) bv c9 bL.out);have bw:=η bv;by_cases hz:new = []
          ·have ae:Lm = []:=List.eq_nil_iff_forall_not_mem.2 fun s hs=>by
            obtain ⟨t,ht,_⟩:=(bl s).1 hs;rw [hz] at ht; simp at ht
           have bn:jd (z+3) (z+2) z (z+1) (fun _=>True) a0 I a4 w5:=by
            rw [hz] at aw; simpa using aw
           have HN:Hid ((ys.filter fun r=>r.body.any (kQ Lm)) = []∧∀ w6,Below w5.heap.size w5 w6→Ve rs xs L z ys a0 w W9 (ys.filter fun r=>r.body.any (kQ Lm)) I a4 J w6):=η ⟨DU ae,fun w6 y=>by
            rw [DU ae]
            exact ⟨a2.1 hz,fun q hq=>by simp at hq,bn.later y,U.trans (y.mono U.size),fun x hx=>(y.block x (bn.lt.2.2 x hx)).trans (a3 x hx)⟩⟩
           have ds:(Lm.length:Int)=0:=by rw [ae]; rfl
           clear bi aw bn aa bv bl c9 U a3 a2 ae ar bj av c8
           go_wp2_with (at_len; refine dN _ rfl _ _ rfl Tryz.underlying116 _ _ Lm _ rfl bw.out ?_)
           go_wp2_with fail
           refine HT.out.mono ?_;rintro e w6 ⟨y,dt,du,dv,rfl,a8⟩;have ca:=η (HN.out.2 w6 y);have cb:=η a8;have dx:=η HN.out.1;clear y a8 HT HN bw;go_wp2
           go_roundg (2 * (300 - I.length))
           case measure=>have:=HG.out; omega
           case rel=>exact ⟨_,_,_,_,I,a4,J,rfl,rfl,by rw [if_pos dx.out]; omega,ca.out,cb.out⟩
          ·have ed:0 < new.length:=List.length_pos_iff.2 hz
           have ae:Lm ≠ []:=fun e=>by
            obtain ⟨t,ht⟩:=List.exists_mem_of_ne_nil _ hz;have:=(bl t.name).2 ⟨t,ht,rfl⟩;rw [e] at this; simp at this
           have ds:(0:Int) < (Lm.length:Int):=by have:=List.length_pos_iff.2 ae; omega
           have HN:Hid (∀ w6,Below w5.heap.size w5 w6→Ve rs xs L z ys a0 w W9 (ys.filter fun r=>r.body.any (kQ Lm)) (I ++ new) (a4 ++ List.replicate new.length (J+1)) (J+1) w6):=η fun w6 y=>by
            have h1:=a2.2 hz;rw [← TT bl] at h1;exact ⟨h1,fun q hq=>(List.mem_filter.1 hq).1,aw.later y,U.trans (y.mono U.size),fun x hx=>(y.block x (aw.lt.2.2 x hx)).trans (a3 x hx)⟩
           have dy:Hid (2 * (300 - (I ++ new).length)+1 < 2 * (300 - I.length)+1):=η (by rw [χ]; omega);clear bi aw aa bv bl c9 U a3 a2 ae ar bj av c8
           go_wp2_with (at_len; refine dN _ rfl _ _ rfl Tryz.underlying116 _ _ Lm _ rfl bw.out ?_)
           go_wp2_with fail
           refine HT.out.mono ?_;rintro e w6 ⟨y,dt,du,dv,rfl,a8⟩;have ca:=η (HN.out w6 y);have cb:=η a8;clear y a8 HT HN bw;go_wp2
           go_roundg (2 * (300 - (I ++ new).length)+1)
           case measure=>have:=HG.out; have:=dy.out; omega
           case rel=>exact ⟨_,_,_,_,I ++ new,_,J+1,by go_num,rfl,by split <;> omega,ca.out,cb.out⟩
         ·have HP:Hid (AX rs xs w (.returned (.tuple #[.pointer none,.bool false])) w5):=η ⟨bh.out.bel.trans bi,.inr ⟨fun _=>bh.out.mid.over ap.out (Nat.le_of_lt b4.out) cK.out cJ.out ar bj av,rfl⟩⟩
          clear bi ar bj av;go_wp2;go_ret2;exact HP.out
    ·have dz:L=rs.length:=by omega
     have cW:¬ (L:Int) < (rs.length:Int):=by omega
     have HP:Hid (AX rs xs w (.returned (.tuple #[.pointer (some ⟨z+2,0,none⟩),.bool true])) wr):=η (by
      rw [dz] at a6;obtain ⟨h1,h2,h3,h4,h5⟩:=a6.fin ap.out
      exact ⟨af,.inl ⟨HF.out,h1,z,b5,fs,rn,co.out,rfl,a1,h2,h4,h5⟩⟩)
     clear a6 a1 af aM;go_wp2;go_ret2;exact HP.out
theorem D.FN {rs:List Ru} {xs:List A} (h:fD rs xs=true) (I:(gu rs xs).2=true):oh (gu rs xs).1∧(∀ x ∈ (gu rs xs).1.1,aT x)∧(gu rs xs).1.1.length≤300∧∀ t,t ∈ (gu rs xs).1.1 ↔ AA rs (fun x=>x ∈ xs) t:=by
 have hK:=qA h
 rcases KA (Tn ((lG rs).2 hK.fine)) hK.gB (fun f hf=>yx (hK.facts f hf)) (by have:=hK.n; omega) with ⟨_,y,J,U,h6⟩ | ⟨y,_⟩
 ·exact ⟨J,U,y,h6⟩
 ·rw [I] at y; cases y
theorem D.xq {rs:List Ru} {xs:List A} (h:fD rs xs=true) (y:(gu rs xs).2=true):eX rs xs=((gu rs xs).1.1,true):=by unfold eX; rw [if_pos h,if_pos y]
theorem D.AY {rs:List Ru} {xs:List A} (h:fD rs xs=true→(gu rs xs).2=false):eX rs xs=([],false):=by
 unfold eX;by_cases y:fD rs xs=true
 ·rw [if_pos y,h y]; rfl
 ·rw [if_neg y]
theorem P7 (rs:List Ru) (xs:List A) (v1 v2:Value) (b1 b2:List Nat) (w:World) (h:dI w [v1] rs b1) (h2:aV w [v2] xs b2) (hg:lY w):
  Calls Tryz.prog 53 #[v1,v2] w fun e w'=>Below w.heap.size w w'∧∃ Av cp bs,e=.returned (.tuple #[.slice Av (eX rs xs).1.length cp,.bool (eX rs xs).2])∧aV w' [.slice Av (eX rs xs).1.length cp] (eX rs xs).1 bs:=by
 have c1:=He rs xs v1 v2 b1 b2 w h h2 hg;obtain ⟨Ad,cap,rfl,a7,a8⟩:=ak h;obtain ⟨ac,cap2,rfl,_,_⟩:=ak h2;clear h h2 hg a7 a8
 go_enter Tryz.func53,Tryz.ntmps53
 go_wp2_with fail
 refine c1.mono ?_;rintro e w1 ⟨y,a2⟩;clear c1
 rcases a2 with ⟨hok,I,z,fr,fs,rn,hz,rfl,a4,U,a0,hlen⟩ | ⟨a5,rfl⟩
 ·obtain ⟨Af,cf,Lf,Ar,cr,Lr,ou,bf,S,_,_⟩:=a4
  have hC:=S.cF;have c2:=G8 fs _ Lf bf (z+3) w1 hC (by omega);have x0:w1.cell? ⟨z+2,0,none⟩=some (.slice Af fs.length cf):=ai S.blk;have lx:=lt_of_cell x0
  have hE:Hid (∀ w2 ys L' bs',ys.Perm fs→ys.Pairwise (fun a b=>¬ dL b a < 0)→aW 2 aI (z+3) 33 w2 (.slice Af fs.length cf) L' ys bs'→fO (fun x=>(Value.slice Af fs.length cf).ownBlock=some x) w1 w2→
    w2.cell? ⟨z+2,0,none⟩=some (.slice Af fs.length cf)∧Below w.heap.size w w2∧(eX rs xs).2=true∧(eX rs xs).1.length=fs.length∧∃ b9,aV w2 [.slice Af fs.length cf] (eX rs xs).1 b9):=η fun w2 ys L' bs' q1 q2 q3 J=>by
   have a6:∀ x,(Value.slice Af fs.length cf).ownBlock=some x→z+3≤x:=fun x hx=>by
    have h9:¬ x < z+3:=fun h=>aO hC.own h hx
    exact Nat.le_of_not_lt h9
   obtain ⟨r1,r2,r3,r4⟩:=FN hok I;have a3:=U.fst r1;have a1:∀ t ∈ ys,aT t:=fun t ht=>a0 t (q1.mem_iff.1 ht)
   have a9:ys.Nodup:=(q1.trans a3).nodup_iff.2 (jZ r1.gB);have aa:ys=(gu rs xs).1.1:=Kv (Nq a1 a9 q2) r1.gB a1 r2 fun t=>by rw [q1.mem_iff,a3.mem_iff]
   obtain ⟨b9,ab,_⟩:=q3.slice;rw [xq hok I];refine ⟨(World.cell?_of_block (J.block (z+2) (lt_of_cell x0) (fun e=>by have:=a6 (z+2) e; omega))).trans x0,⟨J.os.trans y.os,J.tape.trans y.tape,J.output.trans y.output,τ y.size J.size,fun k hk=>(J.block k (κ hk y.size) fun e=>by have:=a6 k e; omega).trans (y.block k hk)⟩,rfl,a3.length_eq.symm,b9,?_⟩;rw [← aa];exact ab
  clear S hC U a0 y hok I
  go_wp2_with fail
  refine c2.mono ?_;rintro e w2 ⟨rfl,ys,L',bs',q1,q2,_,J,q5⟩;obtain ⟨y0,y1,y2,y3,b9,y4⟩:=hE.out w2 ys L' bs' q1 q2 J q5;have HB:=η y1;have H4:=η y4;have H2:=η y2;have H3:=η y3;clear hE c2 q1 q2 J q5 y1 y4 y2 y3 x0;go_wp2;go_ret2;rw [H2.out,H3.out];exact ⟨HB.out,Af,cf,b9,rfl,H4.out⟩
 ·have HE:=η (AY a5)
  clear a5;go_wp2;go_ret2;rw [HE.out];exact ⟨y,none,0,[],rfl,⟨none,0,rfl,ν,ε,fun _=>rfl,fun h=>absurd rfl h⟩⟩
theorem FO (rs:List Ru) (xs:List A) (v1 v2:Value) (b1 b2:List Nat) (w:World) (h:dI w [v1] rs b1) (h2:aV w [v2] xs b2) (hg:lY w):
  Calls Tryz.prog 13 #[v1,v2] w (QA aV (eX rs xs) w.heap.size w):=by
 have c1:=P7 rs xs v1 v2 b1 b2 w h h2 hg;obtain ⟨Ad,cap,rfl,a1,a2⟩:=ak h;obtain ⟨a3,cap2,rfl,_,_⟩:=ak h2
 have HN:Hid ((eX rs xs).1.length≤16777216∧∀ a ∈ (eX rs xs).1,a.args.length≤16777216):=η (by
  by_cases hc:fD rs xs=true∧(gu rs xs).2=true
  ·obtain ⟨r1,r2,r3,r4⟩:=FN hc.1 hc.2
   rw [xq hc.1 hc.2];exact ⟨by show (gu rs xs).1.1.length≤_; omega,fun a ha=>by have:=DJ (r2 a ha).ok; omega⟩
  ·rw [AY (fun h=>by
    cases hr:(gu rs xs).2
    ·rfl
    ·exact absurd ⟨h,hr⟩ hc)]
   exact ⟨ε,fun a ha=>by simp at ha⟩)
 clear h h2 hg a1 a2;generalize eX rs xs=ev at *;obtain ⟨el,eb⟩:=ev;dsimp only at *
 go_enter Tryz.func13,Tryz.ntmps13
 go_wp2_with fail
 refine c1.mono ?_;rintro e w1 ⟨I,Av,cp,bs,rfl,J⟩;have c2:=DZ el _ bs w1 J HN.out.1 HN.out.2;have y:=η I;clear c1 J I
 go_wp2_with fail
 refine c2.mono ?_;rintro e w2 ⟨U,v9,b9,rfl,h9,a0⟩;obtain ⟨A9,c9,rfl,_,_⟩:=ak h9;have HZ:Hid (QA aV (el,eb) w.heap.size w (.returned (.tuple #[.slice A9 el.length c9,.bool eb])) w2):=η ⟨y.out.trans (U.mono y.out.size),_,b9,rfl,h9,a0.mono y.out.size⟩;clear c2 U h9 a0;go_wp2;go_ret2;exact HZ.out
end
section
open Go.RowKit D
theorem D.Nr (rs:List Ru) (xs:List A):(fD rs xs=true∧(gu rs xs).2=true∧eX rs xs=((gu rs xs).1.1,true))∨eX rs xs=([],false):=by
 by_cases hc:fD rs xs=true∧(gu rs xs).2=true
 ·exact .inl ⟨hc.1,hc.2,xq hc.1 hc.2⟩
 ·refine .inr (AY fun h=>?_)
  cases hr:(gu rs xs).2
  ·rfl
  ·exact absurd ⟨h,hr⟩ hc
theorem D.V6 {xs:List A} (h1:xs.length≤300) (y:∀ x ∈ xs,aT x) (I:gB xs=true):kH xs=true:=by
 unfold kH;simp only [ο,decide_eq_true_eq,List.all_eq_true];exact ⟨⟨h1,fun x J=>sU (y x J)⟩,I⟩
theorem D.P8 {rs:List Ru} {xs:List A} (h0:dJ rs=0) (h1:xs.length≤40) (y:∀ x ∈ xs,aT x) (I:gB xs=true) (J:qh (aB rs) xs=true):fD rs xs=true:=by
 unfold fD okB;simp only [ο,decide_eq_true_eq,List.all_eq_true];exact ⟨⟨h0,⟨fun x U=>sU (y x U),I⟩,h1⟩,J⟩
structure D.TU (rs:List Ru) (xs:List A):Prop where
 prog:dJ rs=0
 few:xs.length≤40
 fact:∀ x ∈ xs,aT x
 gB:gB xs=true
 fit:qh (aB rs) xs=true
theorem D.FP {rs:List Ru} {xs:List A}:fD rs xs=true ↔ TU rs xs:=by
 constructor
 ·intro h
  have hK:=qA h;exact ⟨(lG rs).2 hK.fine,hK.n,fun x y=>yx (hK.facts x y),hK.gB,hK.fit⟩
 ·exact fun h=>P8 h.prog h.few h.fact h.gB h.fit
theorem D.TU.rules {rs:List Ru} {xs:List A} (h:TU rs xs):qI rs:=Tn h.prog
theorem D.Ns {rs:List Ru} {xs:List A} (h:TU rs xs):(∃ ys,eX rs xs=(ys,true)∧gB ys=true∧(∀ y ∈ ys,aT y)∧ys.length≤300∧∀ t,t ∈ ys ↔ AA rs (fun x=>x ∈ xs) t) ∨
  (eX rs xs=([],false)∧∃ L:List A,L.Nodup∧300 < L.length∧∀ t ∈ L,AA rs (fun x=>x ∈ xs) t):=by
 have hok:=FP.2 h
 rcases KA h.rules h.gB h.fact (by have:=h.few; omega) with ⟨I,J,U,h5,h6⟩ | ⟨I,hL⟩
 ·exact .inl ⟨_,xq hok I,U.gB,h5,J,h6⟩
 ·exact .inr ⟨AY fun _=>I,hL⟩
theorem D.rV {rs:List Ru} {xs:List A} (h:(eX rs xs).2=true):TU rs xs∧gB (eX rs xs).1=true∧(∀ y ∈ (eX rs xs).1,aT y)∧(eX rs xs).1.length≤300∧∀ t,t ∈ (eX rs xs).1 ↔ AA rs (fun x=>x ∈ xs) t:=by
 rcases Nr rs xs with ⟨h1,h2,e⟩ | e
 ·have hin:=FP.1 h1
  rcases Ns hin with ⟨ys,I,J,U,h5,h6⟩ | ⟨I,_⟩
  ·rw [I]
   exact ⟨hin,J,U,h5,h6⟩
  ·rw [I] at h; cases h
 ·rw [e] at h; cases h
section
variable {rs:List Ru} {xs:List A}
end
theorem D.Nu {rs:List Ru} {xs xs':List A} {N:ByteArray→Prop} (h:(eX rs xs).2=true) (h':(eX rs xs').2=true) (U:∀ r ∈ rs,N r.head.name→∀ p ∈ r.body,N p.atom.name) (y:∀ t:A,N t.name→(t ∈ xs ↔ t ∈ xs')) {n:ByteArray} (hn:N n):
  (eX rs xs).1.filter (fun t=>decide (t.name=n))=(eX rs xs').1.filter (fun t=>decide (t.name=n)):=by
 obtain ⟨_,h2,h3,_,h5⟩:=rV h;obtain ⟨_,k2,k3,_,k5⟩:=rV h';refine Kv (AP h2 List.filter_sublist) (AP k2 List.filter_sublist) (fun x y=>h3 x (List.mem_filter.1 y).1) (fun x y=>k3 x (List.mem_filter.1 y).1) fun t=>?_
 rw [List.mem_filter,List.mem_filter,decide_eq_true_iff];constructor
 ·rintro ⟨J,I⟩
  exact ⟨(k5 t).2 ((DL U y (by rw [I]; exact hn)).1 ((h5 t).1 J)),I⟩
 ·rintro ⟨J,I⟩
  exact ⟨(h5 t).2 ((DL U y (by rw [I]; exact hn)).2 ((k5 t).1 J)),I⟩
def D.gI (xs:List A) (nd:List ByteArray):List A:=xs.filter fun t=>decide (t.name ∈ nd)
theorem D.KL (xs:List A) (nd:List ByteArray) (k:Nat) (h:k < xs.length):gI (xs.take (k+1)) nd=if xs[k].name ∈ nd then gI (xs.take k) nd ++ [xs[k]] else gI (xs.take k) nd:=by
 unfold gI;rw [ρ h,List.filter_append]
 by_cases y:xs[k].name ∈ nd <;> simp [y]
theorem D.P9 {rs:List Ru} {s:ByteArray} (J:dJ rs=0) (y:s ∈ yt rs):s ∈ iM rs s∧∀ r ∈ rs,r.head.name ∈ iM rs s→∀ p ∈ r.body,p.atom.name ∈ iM rs s:=by
 unfold yt SI at y;rw [if_pos J,kY] at y;have e:iM rs s=needs rs s:=by unfold iM; rw [if_pos ⟨J,y⟩]
 rw [e];exact ⟨sQ.2 .self,fun r hr U p I=>sQ.2 (.step (sQ.1 U) hr I)⟩
theorem D.Qa {rs:List Ru} {xs ys zs:List A} {s:ByteArray} (h:eX rs xs=(ys,true)) (I:s ∈ yt rs) (y:eX rs (gI xs (iM rs s))=(zs,true)):Fg ys s=Fg zs s:=by
 have J:=(rV (rs:=rs) (xs:=xs) (by rw [h])).1.prog;obtain ⟨h1,U⟩:=P9 J I;have:=Nu (rs:=rs) (xs:=xs) (xs':=gI xs (iM rs s)) (N:=fun n=>n ∈ iM rs s) (by rw [h]) (by rw [y]) U (fun t ht=>by unfold gI; rw [List.mem_filter]; exact ⟨fun h=>⟨h,decide_eq_true ht⟩,fun h=>h.1⟩) h1;rw [h,y] at this;exact this
end
section
open Go.RowKit D
attribute [local go_sem ↓] Go.wp_at_zero Go.wp_at_succ
theorem xu (cs:List UInt8) (v1:Value) (bu:List Nat) (a4:List UInt8) (v2:Value) (cz:List Nat) (w:World) (h1:qL w [v1] cs bu) (h2:qL w [v2] a4 cz) (hg:lY w):
  Calls Tryz.prog 6 #[v1,v2] w fun e w'=>e=.returned (.bool true)∧Below w.heap.size w w':=by
 obtain ⟨Ad,cap,rfl,hl,hm⟩:=ak h1;have dg:=aA (τ hl hm);obtain ⟨di,cap2,rfl,a7,a8⟩:=ak h2;have da:=aA (τ a7 a8);clear a7 a8 h2;have HG:=η hg;clear hl hm hg;obtain ⟨i0,hi,cA,cB,cD⟩:=info_parts Fe;by_cases hn:cs.length≤1048576
 ·have cE:¬ (1048576:Int) < (cs.length:Int):=by omega
  by_cases hq:a4.length≤1048576
  ·have cG:¬ (1048576:Int) < (a4.length:Int):=by omega
   have hd:=GX _ cs bu w h1 hn;clear h1 hn hq
   go_enter Tryz.func6,Tryz.ntmps6
   go_wp2_with fail
   refine hd.mono ?_;rintro e w1 ⟨rs,A0,c0,b0,xs,A1,c1,b1,rfl,aw,az,bv,bw,aD⟩;obtain ⟨ys,z,hE⟩:∃ ys z,eX rs xs=(ys,z):=⟨_,_,rfl⟩;have HE:=η hE;have y:=η aD;have a5:=η (ι aw az);have cI:=η (ι bv bw);have aE:=FO rs xs _ _ b0 b1 w1 aw az (HG.out.below aD);rw [hE] at aE;clear hd aw az aD hE bv bw
   go_wp2_with fail
   refine aE.mono ?_;rintro e w2 ⟨af,v2,b2,rfl,aL,_⟩;obtain ⟨A2,c2,rfl,a7,a8⟩:=ak aL;have db:=aA (τ a7 a8);have bx:=η af;have a1:=η aL;have aM:=eval_any rs xs _ _ b0 b1 w2 (bG.below a5.out.1 af) (au.below a5.out.2 af);rw [HE.out] at aM;clear aE af aL a7 a8
   go_wp2_with fail
   refine aM.mono ?_;rintro e w3 ⟨aR,v3,b3,rfl,b4⟩;obtain ⟨A3,c3,rfl,_,_⟩:=ak b4;have a2:=η (bx.out.trans (aR.mono bx.out.size));replace a1:=η (au.below a1.out aR);have a9:=η b4;have dj:(z != z)=false:=by simp
   have dk:(z == z)=true:=by simp
   clear aM aR b4;have bz:=Au rs _ b0 w3 (bG.below a5.out.1 a2.out) (HG.out.below (y.out.trans (a2.out.mono y.out.size)))
   go_wp2_with fail
   refine bz.mono ?_;rintro e wn ⟨ag,vn,bn,rfl,hN,_⟩;obtain ⟨An,cn,rfl,bA,bB⟩:=ak hN;have dc:=aA (τ bA bB);replace a2:=η (a2.out.trans (ag.mono a2.out.size));replace a1:=η (au.below a1.out ag);replace a9:=η (au.below a9.out ag);have HN:=η hN;generalize hns:yt rs=ns at *;have cJ:=η hns;clear bz ag hN bA bB hns;have aa:=uF ys ys _ _ b2 b3 wn a1.out a9.out
   go_wp2_with fail
   refine aa.mono ?_;rintro e w4 ⟨r4,rfl,bE,ab⟩;obtain rfl:r4=true:=bE.2 (by first | trivial | rfl);have J:=η (a2.out.trans (ab.mono a2.out.size));have bc:=η (ι (au.below a1.out ab) (au.below a9.out ab));replace HN:=η (bH.below HN.out ab);clear aa bE ab a1 a9;have U:=uF ys ys _ _ b2 b3 w4 bc.out.1 bc.out.2;cases z
   ·go_wp2_with fail
    refine U.mono ?_;rintro e w5 ⟨r5,rfl,a0,I⟩;obtain rfl:r5=true:=a0.2 (by first | trivial | rfl);have a3:=η (J.out.trans (I.mono J.out.size));clear U a0 I;go_wp2;go_ret;exact ⟨rfl,y.out.trans (a3.out.mono y.out.size)⟩
   ·by_cases cK:ns.length=0
    ·have bL:((ns.length:Int) == 0)=true:=by rw [beq_iff_eq]; omega
     go_wp2_with fail
     refine U.mono ?_;rintro e w5 ⟨r5,rfl,a0,I⟩;obtain rfl:r5=true:=a0.2 (by first | trivial | rfl);have a3:=η (J.out.trans (I.mono J.out.size));clear U a0 I;go_wp2;go_ret;exact ⟨rfl,y.out.trans (a3.out.mono y.out.size)⟩
    ·have bL:((ns.length:Int) == 0)=false:=beq_eq_false_iff_ne.2 (by omega)
     have bO:0 < ns.length:=by omega
     have cL:=η bO;clear U cK bO;have bR:=cL.out;obtain ⟨n,hn⟩:∃ n,n=a4.length % ns.length:=⟨_,rfl⟩;have de:((a4.length:Int) % (ns.length:Int))=(n:Int):=by rw [hn]; omega
     have bf:n < ns.length:=by rw [hn]; exact Nat.mod_lt _ bR
     clear hn;obtain ⟨dl,dp,cP,-,g0,aa⟩:=kZ HN.out bf;subst cP;have ds:(0:Int)≤(n:Int):=by omega
     have dt:(n:Int) < (ns.length:Int):=by omega
     have du:¬ ((ns.length:Int)=0):=by omega
     have cQ:Hid (ns[n] ∈ yt rs):=η (by rw [cJ.out]; exact δ bf);have cT:=η aa;generalize ns[n]=s at *;have bX:=DI rs s _ b0 w4 (bG.below a5.out.1 J.out) (HG.out.below (y.out.trans (J.out.mono y.out.size))) cT.out;have c4:Hid (∀ zs,eX rs (gI xs (iM rs s))=(zs,true)→Fg ys s=Fg zs s):=η fun zs hz=>Qa HE.out cQ.out hz
     generalize iM rs s=nd at *;clear aa bf bR
     go_wp2_with fail
     refine bX.mono ?_;rintro e w5 ⟨I,v5,b5,rfl,bg,_⟩;obtain ⟨A5,c5,rfl,_,_⟩:=ak bg;have a3:=η (J.out.trans (I.mono J.out.size));have cU:=η bg;have cV:=η (au.below bc.out.1 I);have c6:=η (au.below a5.out.2 a3.out);have ca:Below w5.heap.size w5 (w5.alloc (.cells #[] 33)):=ζ;have cb:=aW.empty (n:=2) (R:=aI) (e:=33) (ω w5 (.cells #[] 33)) (Nat.le_refl w5.heap.size);have dv:(xs.length:Int)≤50:=by have:=cI.out.2; omega
     clear bX I bg;go_wp2
     go_loopw [14,15] (fun v i wr=>∃ (k m:Nat) (At:Option Addr) (ct:Nat) (L:List Value) (bb:List Nat),k≤xs.length∧i=.int .i64 k∧v=.slice At m ct∧m=(gI (xs.take k) nd).length∧aW 2 aI w5.heap.size 33 wr (.slice At m ct) L (gI (xs.take k) nd) bb∧Below w5.heap.size w5 wr) (fun _ i _=>xs.length - (intOf i).toNat)
     case atStart=>exact ⟨0,0,_,_,_,_,ε,rfl,rfl,rfl,cb,ca⟩
     case round=>
      obtain ⟨k,m,At,ct,L,bb,hk,rfl,rfl,cc,hC,hb⟩:=hrel;clear cb ca;have dx:m≤50:=by have h1:(gI (xs.take k) nd).length≤(xs.take k).length:=List.length_filter_le _ _; rw [List.length_take] at h1; omega
      have HM:=η cc;clear cc;by_cases ac:k < xs.length
      ·have am:=η ac
       obtain ⟨b,o,Ae,ce,bk,rfl,-,f0,f1,cd,cg⟩:=dY (au.below c6.out hb) ac;have dy:(0:Int)≤(k:Int):=by omega
       have cW:(k:Int) < (xs.length:Int):=by omega
       have ao:=η (KL xs nd k ac);have cX:Hid (∀ c ∈ bk,c < w5.heap.size):=η fun c hc=>au.lt c6.out c (cg c hc)
       have ci:=ML nd xs[k].name _ b5 wr (bH.below cU.out hb);have HC:=η hC;have HB:=η hb;have ae:=η cd;clear hC cd cg hk hb;generalize xs[k]=a at *;clear ac
       go_wp2_with fail
       refine ci.mono ?_;rintro e w6 ⟨rfl,a6⟩;replace f0:=ξ a6 f0;replace f1:=ξ a6 f1;have bh:=η (HB.out.trans (a6.mono HB.out.size));replace HC:=η (HC.out.below aj a6);replace ae:=η (aj.below ae.out a6);clear ci a6;by_cases hin:a.name ∈ nd
       ·have cY:decide (a.name ∈ nd)=true:=decide_eq_true hin
        have HT:Hid (gI (xs.take (k+1)) nd=gI (xs.take k) nd ++ [a]):=η (by rw [ao.out,if_pos hin]);have ap:Below w6.heap.size w6 (w6.alloc (.cells #[.string a.name,.slice Ae a.args.length ce] 33)):=ζ;have ar:=η (bh.out.trans (ap.mono bh.out.size));have d0:=η (HC.out.below aj ap);have HL:=η (aP (ω w6 (.cells #[.string a.name,.slice Ae a.args.length ce] 33)));have d1:=η (aQ.cu (n:=2) (R:=aI) dZ (aj.below ae.out ap));have HF:Hid (∀ c ∈ bk,(Value.slice At m ct).ownBlock ≠ some c):=η (fun c hc=>aO HC.out.own (cX.out c hc));have cj:Hid ((gI (xs.take k) nd).length=m):=η HM.out.symm;clear ap ae hin ao
        go_wp2_with (at_builtin; refine bJ rfl _ _ _ rfl w5.heap.size 33 i0 (.agg #[.string ⟨#[]⟩,.slice none 0 0]) 2 40 Tryz.underlying24 hi cA cB cD rfl (by omega) aj (.slice At m ct) m _ _ _ rfl d0.out cj.out (some ⟨w6.heap.size,0,none⟩) 1 1 _ [a] _ rfl d1.out rfl HL.out HF.out (by unfold maxLen; omega) (by omega) w5 w5.heap.size ar.out ν ar.out.size ?_; intro A6 d2 w7 ck d3 dz _)
        have d4:=η ck;clear ck;go_wp2;go_roundw
        case rel=>exact ⟨k+1,m+1,A6,d2,_,_,am.out,by go_num,rfl,by rw [HT.out,χ,cj.out]; rfl,by rw [HT.out]; exact d4.out,d3⟩
        case measure=>have:=am.out; simp [intOf]; omega
       ·have cY:decide (a.name ∈ nd)=false:=decide_eq_false hin
        have HT:Hid (gI (xs.take (k+1)) nd=gI (xs.take k) nd):=η (by rw [ao.out,if_neg hin]);clear hin ao ae;go_wp2;go_roundw
        case rel=>exact ⟨k+1,m,At,ct,L,bb,am.out,by go_num,rfl,by rw [HT.out]; exact HM.out,by rw [HT.out]; exact HC.out,bh.out⟩
        case measure=>have:=am.out; simp [intOf]; omega
      ·have he:k=xs.length:=by omega
       subst he;rw [ϕ ν] at hC;obtain ⟨b6,cl,_⟩:=hC.slice;have cW:¬ (xs.length:Int) < (xs.length:Int):=by omega
       have aq:=η (a3.out.trans (hb.mono a3.out.size));have cm:=η hb;obtain ⟨zs,t,hz⟩:∃ zs t,eX rs (gI xs nd)=(zs,t):=⟨_,_,rfl⟩;have bi:=FO rs (gI xs nd) _ _ b0 b6 wr (bG.below a5.out.1 aq.out) cl (HG.out.below (y.out.trans (aq.out.mono y.out.size)));rw [hz] at bi;have co:=η (c4.out zs);have HZ:=η hz;clear hC cl ac hk hz hb
       go_wp2_with fail
       refine bi.mono ?_;rintro e w7 ⟨bj,v7,b7,rfl,bl,_⟩;obtain ⟨A7,c7,rfl,_,_⟩:=ak bl;have bo:=η (aq.out.trans (bj.mono aq.out.size));have av:=η (cm.out.trans (bj.mono cm.out.size));have d5:=η bl;clear bi bj bl;cases t
       ·go_wp2
        go_ret;exact ⟨rfl,y.out.trans (bo.out.mono y.out.size)⟩
       ·have he:Fg ys s=Fg zs s:=co.out HZ.out
        have d6:ys.length≤300:=by have:=(rV (rs:=rs) (xs:=xs) (by rw [HE.out])).2.2.2.1; rw [HE.out] at this; exact this
        have d7:zs.length≤300:=by have:=(rV (rs:=rs) (xs:=gI xs nd) (by rw [HZ.out])).2.2.2.1; rw [HZ.out] at this; exact this
        have cp:=JA zs s _ b7 w7 d5.out (by omega);have cq:=η (fun w' (hb:Below w7.heap.size w7 w')=>JA ys s _ b2 w' (au.below cV.out (av.out.trans (hb.mono av.out.size))) (by omega));rw [he] at cq;clear d6 d7 co HZ c4 he;generalize Fg zs s=os at *
        go_wp2_with fail
        refine cp.mono ?_;rintro e w8 ⟨bp,v8,b8,rfl,bq⟩;obtain ⟨A8,c8,rfl,_,_⟩:=ak bq;have cr:=η (bo.out.trans (bp.mono bo.out.size));have d8:=η bq;have cv:=cq.out w8 bp;clear cp bp bq
        go_wp2_with fail
        refine cv.mono ?_;rintro e w9 ⟨br,v9,b9,rfl,bt⟩;obtain ⟨A9,c9,rfl,_,_⟩:=ak bt;have cw:=η (cr.out.trans (br.mono cr.out.size));have cx:=uF os os _ _ b8 b9 w9 (au.below d8.out br) bt;clear cv br bt
        go_wp2_with fail
        refine cx.mono ?_;rintro e wd ⟨r5,rfl,a0,cy⟩;obtain rfl:r5=true:=a0.2 (by first | trivial | rfl);have d9:=η (cw.out.trans (cy.mono cw.out.size));clear cx a0 cy;go_wp2;go_ret;exact ⟨rfl,y.out.trans (d9.out.mono y.out.size)⟩
  ·have cG:(1048576:Int) < (a4.length:Int):=by omega
   clear h1
   go_enter Tryz.func6,Tryz.ntmps6
   go_wp2;go_ret;exact ⟨rfl,ϑ⟩
 ·have cE:(1048576:Int) < (cs.length:Int):=by omega
  clear h1
  go_enter Tryz.func6,Tryz.ntmps6
  go_wp2;go_ret;exact ⟨rfl,ϑ⟩
end
end Go.Proofs.YtkjinanbccloeaaGreatDoor
