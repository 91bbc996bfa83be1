/- Of the proof of FnEvalOnly: RouI, InoJ. -/
import Derived.Deep.CutBlock
import Derived.Test.YtkjinanbccloeaaGreatDoorB42
set_option linter.unusedVariables false
set_option maxHeartbeats 4000000
set_option maxRecDepth 100000
namespace Go.Proofs.YtkjinanbccloeaaGreatDoor
open Go.RowKit D
attribute [local go_sem ↓] Go.wp_at_zero Go.wp_at_succ
theorem D.V3 (w:World):(Instr.makeChan 262 (.int .i64 301)).run Tryz.prog w=.ok (.chan (some w.heap.size)) (w.alloc (.chan 301 #[] false 0 0 false)):=by
 obtain ⟨i,y,I⟩:∃ i,Tryz.prog.info? 33=some i∧i.bytes=40:=by
  obtain ⟨i,y,_,_,J⟩:=info_parts OD;exact ⟨i,y,J⟩
 simpa using Go.Conc.run_makeChan (P:=Tryz.prog) (w:=w) Tryz.underlying262 y .i64 301 (by omega) (by rw [I]; omega)
def D.Io (B sb mu mp:Nat) (Fb:Nat→Prop) (fr:List Nat) (fs:List A) (rn:List Nat) (next:List Ru) (nr B0:Nat) (w:World) (e:Ending) (w':World):Prop:=
 Below B0 w w'∧((∃ new mc n L f,e=.returned (.tuple #[.map (some mc),.bool true])∧new.Nodup∧(∀ t ∈ new,aI t)∧(∀ t,t ∈ new ↔ t ∉ fs∧∃ q ∈ next,ja fs q t)∧fs.length+new.length≤300∧
   gK B sb mu mp Fb fr (fs ++ new) (rn ++ List.replicate new.length nr) w'∧(∀ x ∈ fr,w'.heap[x]? = w.heap[x]?)∧gI mc n L f w'∧w.heap.size≤mc∧(∀ s,s ∈ L ↔ ∃ t ∈ new,t.name=s)∧∀ s ∈ L,1≤f s∧f s≤1000000) ∨
  (e=.returned (.tuple #[.map none,.bool false])∧∃ new:List A,new.Nodup∧(∀ t ∈ new,t ∉ fs∧∃ q ∈ next,ja fs q t)∧300 < fs.length+new.length))
structure D.UI (x:pI) (fs:List A) (bst:List Nat) (next:List Ru) (w:World) (k:Nat) (wr:World):Prop where
 ex:∃ told fb,lY x w.heap.size fs bst wr told fb∧∀ t,t ∈ told ↔ ∃ r ∈ next.take k,ja fs r t
 bel:Below w.heap.size w wr
theorem V4 {x:Wl} (X:LH x) {w:World} {k:Nat} (hk:k < x.new.length) {c:Value} {ba:List Nat} {wr:World} (h:qy x w k x.new[k] c ba wr):
  Calls Tryz.prog 112 #[.pointer (some ⟨x.sb,0,none⟩),.agg #[.string x.new[k].name,c],.int .i64 x.nr] (wr.alloc (.cells #[.string x.new[k].name,c] 33)) fun e J=>e=.returned (.tuple #[])∧Below x.B0 wr J∧
   gK x.B x.sb x.mu x.mp x.Fb x.f2 (x.fs ++ x.new.take k ++ [x.new[k]]) (x.rn ++ List.replicate k x.nr ++ [x.nr]) J∧(∀ j ∈ x.f2,J.heap[j]? = wr.heap[j]?)∧J.heap[wr.heap.size]? = some (.cells #[.string x.new[k].name,c] 33 (0,0)):=by
 have U:Below wr.heap.size wr (wr.alloc (.cells #[.string x.new[k].name,c] 33)):=ζ;have h1:=h.later X U;have hs:=h.oK.more U [wr.heap.size] (fun j y=>by simp at y; subst y; exact ⟨ν,by simp⟩);have a0:=h.oK.lt;have a2:=X.few;have I:x.new[k] ∈ x.new:=δ hk;have a1:=X.nd;refine (OI (fr:=x.f2 ++ [wr.heap.size]) hs h1.at' (fun j y=>Ξ _ (h1.bas j y).1) (fun j y=>(h1.bas j y).2) (fun f hf=>?_) (X.nok _ I) (fun hm=>?_) ?_ ?_ x.nr x.B0 X.b0).mono ?_
 ·rcases μ.1 hf with hf | hf
  ·exact X.fok f hf
  ·exact X.nok f (List.mem_of_mem_take hf)
 ·rcases μ.1 hm with hm | hm
  ·exact X.no _ I hm
  ·obtain ⟨i,hi,e⟩:=List.getElem_of_mem hm
   rw [List.length_take] at hi;rw [List.getElem_take] at e;have:=(List.getElem_inj a1).1 e;omega
 ·rw [χ,List.length_take]; omega
 ·have:=X.rfew
  rw [χ,List.length_replicate]; omega
 ·rintro e J ⟨rfl,hb,hS,hf⟩
  refine ⟨rfl,?_,hS.sub fun j y=>Ξ _ y,fun j y=>(hf j (Ξ _ y)).trans (U.block j (a0.2.2 j y)),(hf _ (Ω _ (List.mem_singleton.2 rfl))).trans (ω _ _)⟩;have:=X.b0;exact (U.mono (by omega)).trans hb
theorem QE (B sb mu mp:Nat) (Fb:Nat→Prop) (bl:∀ x,B≤x→Fb x) (fr:List Nat) (fs:List A) (rn:List Nat) (next:List Ru) (v:Value) (bn:List Nat) (nr B0:Nat) (w:World) (S:gK B sb mu mp Fb fr fs rn w) (h:dS w [v] next bn)
  (ag:∀ f ∈ fs,aI f) (bo:fs.length≤300) (bp:rn.length≤300) (hR:∀ r ∈ next,jC r) (aD:B0≤sb∧B0≤mu∧B0≤mp∧B0≤B):
  Calls Tryz.prog 134 #[.pointer (some ⟨sb,0,none⟩),v,.int .i64 nr] w (Io B sb mu mp Fb fr fs rn next nr B0 w):=by
 obtain ⟨Ad,cap,rfl,aE,aL⟩:=ak h;have c3:=aA (τ aE aL);have HH:=η h;have HS:=η S;clear h S aE aL;have aM:=@run_makeMap Tryz.prog;have br:=V3
 go_enter Tryz.func134,Tryz.ntmps134
 go_wp2;obtain ⟨a2,am⟩:=HS.out.view;have aR:Hid (UI (rx w.heap.size sb nr) fs a2 next w 0 (rW w sb nr)):=η ⟨⟨[],_,QA w sb nr fs rn a2 am bo,fun t=>by simp⟩,LG w sb nr⟩;have eW:(((((((w.alloc (.cells #[.pointer (some ⟨sb,0,none⟩)] 100)).alloc (.cells #[.int .i64 nr] 3)).alloc (.chan 301 #[] false 0 0 false)).alloc (.cells #[.chan (some (w.heap.size+1+1))] 262)).alloc (.map #[] 0)).alloc (.cells #[.map (some (w.heap.size+1+1+1+1))] 116)).alloc (.cells #[.bool true] 4))=rW w sb nr:=rfl;rw [eW];have bt:Hid (∀ x ∈ a2,x < w.heap.size):=η am.lt;generalize rW w sb nr=W at *;clear eW am
 go_loopw [19] (fun i wr=>∃ k:Nat,k≤next.length∧i=.int .i64 k∧UI (rx w.heap.size sb nr) fs a2 next w k wr) (fun i _=>next.length - (intOf i).toNat)
 case atStart=>exact ⟨0,ε,rfl,aR.out⟩
 case round=>
  obtain ⟨k,hk,rfl,hI⟩:=hrel;clear aR;by_cases a0:k < next.length
  ·have c4:(0:Int)≤(k:Int):=by omega
   have bu:(k:Int) < (next.length:Int):=by omega
   obtain ⟨⟨told,fb,hF,J⟩,y⟩:=hI;obtain ⟨bq,oq,Ae,ce,Af,cf,bk,rfl,_,f0,f1,f2,b1,ae⟩:=gy (bJ.below HH.out y) a0;have hA:Below wr.heap.size wr (wr.alloc (.cells #[.string next[k].head.name,.slice Ae next[k].head.args.length ce,.slice Af next[k].body.length cf] 40)):=ζ;have ao:=hF.keep (fun x hx=>hA.block x (hF.lt x hx)) hA.size;obtain ⟨bv,b2⟩:=ao.st
   have U:=DW sb fs bv a2 next[k] (.string next[k].head.name) (.slice Ae next[k].head.args.length ce) (.slice Af next[k].body.length cf) bk (Qx (rx w.heap.size sb nr) w.heap.size fs a2 ag) told fb _ b2 ag (by omega) (aV.below b1 hA) (hR _ (δ a0)) ao (fun x hx e=>(hF.oK x hx).2 (by rcases e with rfl | rfl | rfl <;> simp [pI.own])) (fun x hx e=>by
    have h1:=bJ.lt HH.out x (ae x hx)
    rcases e with rfl | rfl | rfl <;> (simp only [rx] at h1; omega))
   have HN:Hid (∀ w9 ts a7 more,UE (rx w.heap.size sb nr) w.heap.size fs a2 more w9 (told ++ ts) a7→dQ (rx w.heap.size sb nr).K (wr.alloc (.cells #[.string next[k].head.name,.slice Ae next[k].head.args.length ce,.slice Af next[k].body.length cf] 40)) w9→(∀ t ∈ ts,ja fs next[k] t)→(more=true→∀ t,ja fs next[k] t→t ∈ ts)→(more=false→Uz fs (told ++ ts)=false)→
     w9.cell? ⟨w.heap.size+1+1+1+1+1+1,0,none⟩=some (.bool more)∧(more=true→UI (rx w.heap.size sb nr) fs a2 next w (k+1) w9)∧(more=false→Io B sb mu mp Fb fr fs rn next nr B0 w (.returned (.tuple #[.map none,.bool false])) w9)):=η fun w9 ts a7 more q1 q3 q4 q5 q6=>by
    have hz:=y.size;have b4:Below w.heap.size w w9:=⟨q3.os.trans (hA.os.trans y.os),q3.tape.trans (hA.tape.trans y.tape),q3.output.trans (hA.output.trans y.output),τ hz (τ hA.size q3.size),fun x hx=>(q3.block x (by have:=hA.size; omega) (fun e=>by rcases e with e | e | e <;> (simp only [rx] at e; omega))).trans ((hA.block x (by omega)).trans (y.block x hx))⟩;refine ⟨?_,fun hm=>?_,fun hm=>?_⟩
    ·cases more with
     | true=>exact ai (lY.cF q1)
     | false=>exact ai (qx.cF q1)
    ·subst hm
     refine ⟨⟨told ++ ts,a7,q1,fun t=>?_⟩,b4⟩;rw [μ,J,UG a0];exact or_congr Iff.rfl ⟨q4 t,q5 rfl t⟩
    ·subst hm
     have hg:=Qs (q6 rfl);have hn:=pq fs (told ++ ts);refine ⟨b4.mono (by have:=HS.out.lt; omega),.inr ⟨rfl,newL fs (told ++ ts),hn.1,fun t ht=>?_,hg⟩⟩;obtain ⟨h1,h2⟩:=(hn.2 t).1 ht;refine ⟨h2,?_⟩
     rcases μ.1 h1 with h1 | h1
     ·obtain ⟨r,hr,hf⟩:=(J t).1 h1
      exact ⟨r,List.mem_of_mem_take hr,hf⟩
     ·exact ⟨next[k],δ a0,q4 t h1⟩
   have y0:wr.cell? ⟨w.heap.size,0,none⟩=some (.pointer (some ⟨sb,0,none⟩)):=ai hF.cS;have c5:w.heap.size < wr.heap.size:=hF.lt _ (hF.ow _ (by show _ ∈ [_,_,_,_,_,_,_]; simp [rx]));have a8:=η a0;clear hF J ao b2 y hA b1 ae hk;generalize next[k]=r at *;obtain ⟨⟨c6,ra⟩,rb⟩:=r;dsimp only at *;clear a0;unfold rx pI.ug at U
   go_wp2_with fail
   refine U.mono ?_;rintro e w9 ⟨rfl,ts,a7,more,q1,q2,q3,q4,q5,q6⟩;obtain ⟨y1,b5,b6⟩:=HN.out w9 ts a7 more q1 q3 q4 q5 q6;have ap:=η b5;have aq:=η b6;clear U HN q1 q2 q3 q4 q5 q6 b5 b6
   cases more with
   | false=>
    have HP:=η (aq.out rfl);clear ap aq;go_wp2;go_ret2;exact HP.out
   | true=>
    have HI:=η (ap.out rfl);clear ap aq;go_wp2;go_roundw
    case rel=>exact ⟨k+1,a8.out,by go_num,HI.out⟩
    case measure=>have:=a8.out; simp [intOf]; omega
  ·have he:k=next.length:=by omega
   have bu:¬ (k:Int) < (next.length:Int):=by omega
   obtain ⟨⟨told,fb,hF,J⟩,y⟩:=hI;rw [ϕ (Nat.le_of_eq he.symm)] at J;obtain ⟨vs,sd,bb,a1,a9,b7⟩:=hF.cH;have b8:w.heap.size < wr.heap.size:=hF.lt _ (hF.ow _ (by show _ ∈ [_,_,_,_,_,_,_]; simp [rx]));have y0:wr.cell? ⟨w.heap.size+1+1+1,0,none⟩=some (.chan (some (w.heap.size+1+1))):=ai hF.cC;have b9:Hid (∀ t,t ∈ newL fs told ↔ t ∉ fs∧∃ q ∈ next,ja fs q t):=η fun t=>by rw [(pq fs told).2,J]; exact And.comm
   have HX:=η (Xh (sd:=sd) (B0:=B0) (bb:=bb) HS.out hF b8 rfl aD ag bp);have HI:=η (QB (sd:=sd) bl HS.out hF y aD a1 a9 b7);have bw:∀ ar ty,(Builtin.close_ ar ty #[.chan (some (w.heap.size+1+1))]).run Tryz.prog wr=.ok (.tuple #[]) (wr.setChan (w.heap.size+1+1) 301 ⟨vs⟩ true sd 0 false):=fun ar ty=>run_close_open ar ty a1
   have av:(wr.setChan (w.heap.size+1+1) 301 ⟨vs⟩ true sd 0 false).heap.size=wr.heap.size:=by simp [World.setChan]
   have af:=aM 116 (wr.setChan (w.heap.size+1+1) 301 ⟨vs⟩ true sd 0 false);rw [av] at af;have bc:w.heap.size+1+1+1 < wr.heap.size:=lt_of_cell y0
   have y1:((wr.setChan (w.heap.size+1+1) 301 ⟨vs⟩ true sd 0 false).alloc (.map #[] 0)).cell? ⟨w.heap.size+1+1+1,0,none⟩=some (.chan (some (w.heap.size+1+1))):=by
    refine (World.cell?_of_block ?_).trans y0;show (World.alloc _ _).heap[w.heap.size+1+1+1]? = _;rw [Below.heap_alloc _ _ _ (by rw [av]; exact bc)];simp only [World.setChan];rw [Array.getElem?_setIfInBounds_ne (by omega)]
   have aw:w.heap.size≤wr.heap.size:=y.size;clear hF J a9 b7 a1 aM br y bt;go_wp2;clear bw y0 av bc;generalize (wr.setChan (w.heap.size+1+1) 301 ⟨vs⟩ true sd 0 false).alloc (.map #[] 0)=W2 at *;clear af;have bx:=η aw;generalize wr.heap.size=mc at *;clear b8
   go_loopg [34] (newL fs told).length (fun gg _ bz=>∃ I:Nat,I≤(newL fs told).length∧(newL fs told).length - I≤gg∧Aside (DX (rcv B sb mu mp nr B0 w.heap.size mc sd Fb fr bb fs rn (newL fs told)) w I bz))
   case atStart=>exact ⟨0,ε,by omega,HI.out⟩
   case round=>
    obtain ⟨I,c7,hg,hI⟩:=hrel;clear HI y1;by_cases a0:I < (newL fs told).length
    ·obtain ⟨c,a4,ba,a1,hM⟩:=DX.recv HX.out hI.out a0
     have a3:wr.heap[w.heap.size+1+1]? = some (.chan 301 ⟨.agg #[.string (newL fs told)[I].name,c] :: a4⟩ true sd I false):=a1;have a6:qy (rcv B sb mu mp nr B0 w.heap.size mc sd Fb fr bb fs rn (newL fs told)) w I (newL fs told)[I] c ba (wr.setChan (w.heap.size+1+1) 301 ⟨a4⟩ true sd (I+1) false):=hM;have hex:(⟨.agg #[.string (newL fs told)[I].name,c] :: a4⟩:Array Value).extract 1 (⟨.agg #[.string (newL fs told)[I].name,c] :: a4⟩:Array Value).size=⟨a4⟩:=by simp
     clear hM a1
     go_upto_region 14 with fail
     refine uD ?_;refine RV (i:=0) (w':=wr) (ok:=true) (z:=.agg #[.string ⟨#[]⟩,.slice none 0 0]) (by rfl) (by rfl) (by go_simp; rfl) a3 (by simp) ?_;rw [hex];refine sG (i:=1) (by rfl) (by rfl) (v:=.bool true) (w':=wr.setChan (w.heap.size+1+1) 301 ⟨a4⟩ true sd (I+1) false) (by simp [Go.Conc.got]; go_simp) ?_;refine GR (show Exit.then _ _ Exit.normal _ _ from ?_);generalize wr.setChan (w.heap.size+1+1) 301 ⟨a4⟩ true sd (I+1) false=W3 at *;clear hex a3;obtain ⟨Ae,ce,_,rfl⟩:=aY a6.at';have z0:W3.cell? ⟨w.heap.size,0,none⟩=some (.pointer (some ⟨sb,0,none⟩)):=ai a6.cS;have z1:W3.cell? ⟨w.heap.size+1,0,none⟩=some (.int .i64 nr):=ai a6.cN;have bA:=lt_of_cell z0;have bB:=lt_of_cell z1;have U:=V4 HX.out a0 a6;have ab:=η a6;clear a6;simp only [Go.Conc.got,if_true]
     go_wp2_with fail
     refine U.mono ?_;rintro e w5 ⟨rfl,q1,q2,q3,q4⟩;obtain ⟨n,L,f,m1,m2,m3,m4⟩:=ab.out.cam;have bf:Hid (gI mc n L f w5):=η (m1.same (q3 _ HX.out.mM));obtain ⟨v,hv⟩:∃ v,(if (newL fs told)[I].name ∈ L then f (newL fs told)[I].name else 0)=v:=⟨_,rfl⟩;have a5:=HX.out.few;have c8:I≤300:=by have:fs.length+(newL fs told).length≤300:=a5; omega
     have c9:0≤v:=by
      rw [← hv]
      split
      ·rename_i hm; have:=m4 _ hm; omega
      ·omega
     have ca:v≤300:=by
      rw [← hv]
      split
      ·rename_i hm; have:=m4 _ hm; omega
      ·omega
     have bg:Hid (∀ w6,gI mc (n+1) (fO L (newL fs told)[I].name) (fun t=>if t=(newL fs told)[I].name then v+1 else f t) w6→w5.grownBy w6 (some mc)→DX (rcv B sb mu mp nr B0 w.heap.size mc sd Fb fr bb fs rn (newL fs told)) w (I+1) w6):=η fun w6 h6 ac=>qy.done HX.out a0 ab.out q1 q2 q3 (by rw [← hv] at h6; exact h6) ac m2 m3 m4
     have bh:Hid ((newL fs told)[I].name.size≤maxLen):=η (by obtain ⟨_,_,hs,_⟩:=ab.out.at'; exact hs);have z5:w5.cell? ⟨W3.heap.size,0,none⟩=some (.string (newL fs told)[I].name):=ai q4;have cb:=lt_of_cell z5;have HV:=η hv;have a8:=η a0;have bE:n < maxLen:=by unfold maxLen; omega
     clear q1 q2 q3 q4 m1 m2 m3 m4 U ab a5 hv z0 z1 bA bB hI;generalize (newL fs told)[I]=a at *;clear a0
     go_wp2_with (first | (at_lookup; refine qZ _ rfl _ _ _ rfl Tryz.underlying116 _ _ L _ rfl bf.out a.name rfl bh.out v HV.out ?_) | (at_mapUpdate; refine jW _ rfl _ _ _ _ rfl Tryz.underlying116 _ _ L _ rfl bf.out a.name rfl bh.out (v+1) rfl bE (by omega) ?_; intro w6 bi ac))
     have bL:=η (bg.out w6 bi ac);clear bi ac bg
     go_roundg ((newL fs told).length - (I+1))
     case measure=>have:=a8.out; omega
     case rel=>exact ⟨I+1,a8.out,ν,bL.out⟩
    ·have bO:I=(newL fs told).length:=by omega
     obtain ⟨az,b3,a1,a9,_⟩:=hI.out.chn;have aa:Ir wr az ((newL fs told).drop I) b3:=a9;rw [List.drop_of_length_le (by omega)] at aa
     have bR:az = []:=by
      cases az with
      | nil=>rfl
      | cons v vs=>exact aa.elim
     subst bR;have a3:wr.heap[w.heap.size+1+1]? = some (.chan 301 #[] true sd I false):=a1
     have HP:Hid (Io B sb mu mp Fb fr fs rn next nr B0 w (.returned (.tuple #[.map (some mc),.bool true])) wr):=η (by
      have h:=hI.out;have hX:=HX.out;have hn:=pq fs told;obtain ⟨n,L,f,m1,m2,m3,m4⟩:=h.cam;have et:(newL fs told).take I=newL fs told:=ϕ (by omega);have hs:gK B sb mu mp (fun k=>Fb k∧k ≠ w.heap.size+2∧k ≠ mc) (fr ++ ([w.heap.size,w.heap.size+1,w.heap.size+2,mc] ++ bb)) (fs ++ (newL fs told).take I) (rn ++ List.replicate I nr) wr:=h.oK;have bj:∀ s,s ∈ L ↔ ∃ t ∈ (newL fs told).take I,t.name=s:=m3;have a5:fs.length+(newL fs told).length≤300:=hX.few;rw [et] at hs bj;rw [bO] at hs;refine ⟨h.bel,.inl ⟨newL fs told,mc,n,L,f,rfl,hn.1,fun t ht=>hX.nok t ht,b9.out,a5,(hs.mono fun x hx _=>hx.1).sub fun x hx=>Ξ _ hx,h.kep,m1,bx.out,bj,fun s bX=>?_⟩⟩;have:=m4 s bX
      omega)
     clear hI a9 aa a1 HX b9
     go_upto_region 14 with fail
     refine uD ?_;refine RX (i:=0) (w':=wr) (ok:=true) (z:=.agg #[.string ⟨#[]⟩,.slice none 0 0]) (by rfl) (by rfl) (by go_simp; rfl) a3 ?_;refine sG (i:=1) (by rfl) (by rfl) (v:=.bool false) (w':=wr) (by simp [Go.Conc.got]; go_simp) ?_;refine GR (show Exit.then _ _ Exit.normal _ _ from ?_);simp only [Go.Conc.got,if_true];clear a3;go_wp2;go_ret2;exact HP.out
structure D.LK (sb:Nat) (fs:List A) (rn:List Nat) (Af:Option Addr) (cf:Nat) (Ar:Option Addr) (cr:Nat) (bf br:List Nat) (w:World):Prop where
 c0:w.cell? ⟨sb,0,none⟩=some (.slice Af fs.length cf)
 c1:w.cell? ⟨sb,1,none⟩=some (.slice Ar rn.length cr)
 fa:aU w [.slice Af fs.length cf] fs bf
 ra:gU w [.slice Ar rn.length cr] rn br
theorem D.LK.below {sb:Nat} {fs:List A} {rn:List Nat} {I:Option Addr} {cf:Nat} {J:Option Addr} {U:Nat} {bf br:List Nat} {w w':World} (h:LK sb fs rn I cf J U bf br w) (y:Below w.heap.size w w'):LK sb fs rn I cf J U bf br w':=
 ⟨ξ y h.c0,ξ y h.c1,au.below h.fa y,aW.below h.ra y⟩
theorem D.gK.old {B sb mu mp:Nat} {Fb:Nat→Prop} {fr:List Nat} {fs:List A} {rn:List Nat} {w:World} (h:gK B sb mu mp Fb fr fs rn w):∃ y cf I J U br,LK sb fs rn y cf I J U br w:=by
 obtain ⟨y,cf,Lf,I,J,Lr,ou,U,S,_,_⟩:=h;obtain ⟨b1,h1,_⟩:=S.cF.slice;obtain ⟨b2,h2,_⟩:=S.cR.slice;exact ⟨y,cf,I,J,b1,b2,ai S.blk,ai S.blk,h1,h2⟩
def D.zZ (fs:List A) (q:Nat):A:=fs.getD q ⟨⟨#[]⟩,[]⟩
theorem D.mV {fs:List A} {q:Nat} (h:q < fs.length):zZ fs q=fs[q]:=by unfold zZ; simp [List.getD,h]
def D.qC (n k:Nat):List Nat:=List.range k ++ List.replicate (n - k) 0
theorem D.QF {n k:Nat} (h:k < n):(qC n k).set k k=qC n (k+1):=by
 unfold qC;obtain ⟨m,hm⟩:∃ m,n - k=m+1:=⟨n - k - 1,by omega⟩;rw [hm,show n - (k+1)=m by omega,List.range_succ,List.replicate_succ,List.set_append_right _ _ (by simp)];simp
theorem D.QG {n k:Nat} (h:k≤n):(qC n k).length=n:=by unfold qC; simp; omega
theorem D.QI (n:Nat):qC n n=List.range n:=by unfold qC; simp
theorem D.gK.low {B sb mu mp:Nat} {Fb:Nat→Prop} {fr:List Nat} {fs:List A} {rn:List Nat} {w:World} (h:gK B sb mu mp Fb fr fs rn w) (xs:List Nat) (y:∀ x ∈ xs,x < B∧x ≠ sb∧x ≠ mu∧x ≠ mp):gK B sb mu mp Fb (fr ++ xs) fs rn w:=by
 obtain ⟨I,cf,Lf,J,U,Lr,ou,bf,S,h1,h2⟩:=h;refine ⟨I,cf,Lf,J,U,Lr,ou,bf,S,h1,fun x hm=>(μ.1 hm).elim (h2 x) fun hm=>⟨S.low (y x hm),?_⟩⟩;have:=(y x hm).1;have:=S.oC;omega
structure D.UJ (w:World) (sb z:Nat) (bf qs:List Nat) (fs:List A) (rn:List Nat) (k:Nat) (wr:World):Prop where
 bel:Below w.heap.size w wr
 box:wr.heap[w.heap.size]? = some (.cells #[.pointer (some ⟨sb,0,none⟩)] 100 (0,0))
 pl:∀ k q,qs[k]? = some q→wr.cell? ⟨w.heap.size+1,k,none⟩=some (.int .i64 (q:Nat))
 oK:gK (z+3) (z+2) z (z+1) (fun _=>True) (bf ++ [w.heap.size,w.heap.size+1]) ((qs.take k).map (zZ fs)) ((qs.take k).map (fU rn)) wr
theorem LM (sb:Nat) (fs:List A) (rn:List Nat) (Af:Option Addr) (cf:Nat) (Ar:Option Addr) (cr:Nat) (bf br:List Nat) (w:World) (O:LK sb fs rn Af cf Ar cr bf br w) (av:∀ f ∈ fs,aI f) (b9:fs.Nodup) (hl:fs.length≤300) (hr:rn.length=fs.length):
  Calls Tryz.prog 73 #[.pointer (some ⟨sb,0,none⟩)] w fun e w'=>Below w.heap.size w w'∧∃ (z:Nat) (y:List Nat),w.heap.size≤z∧e=.returned (.pointer (some ⟨z+2,0,none⟩))∧y.Perm (List.range fs.length)∧
   y.Pairwise (fun a b=>∀ (ha:a < fs.length) (hb:b < fs.length),¬ dD fs[b] fs[a] < 0)∧gK (z+3) (z+2) z (z+1) (fun _=>True) bf (y.map (zZ fs)) (y.map (fU rn)) w':=by
 have aw:=fun w'=>run_make_row' (P:=Tryz.prog) 49 3 (.int .i64 0) 8 Tryz.underlying49 wL rfl .i64 .i64 fs.length (by omega) (by omega) w'
 simp only [wH] at aw;have HO:=η O;have x0:=O.c0;have bt:sb < w.heap.size:=lt_of_cell x0;have a7:Below w.heap.size w (w.alloc (.cells #[.pointer (some ⟨sb,0,none⟩)] 100)):=ζ;have x1:=ξ a7 x0;have az:Below w.heap.size w ((w.alloc (.cells #[.pointer (some ⟨sb,0,none⟩)] 100)).alloc (.cells (uM (List.replicate fs.length 0)) 3)):=a7.alloc a7.size _
 have aD:Hid (Below w.heap.size w ((w.alloc (.cells #[.pointer (some ⟨sb,0,none⟩)] 100)).alloc (.cells (uM (List.replicate fs.length 0)) 3))∧((w.alloc (.cells #[.pointer (some ⟨sb,0,none⟩)] 100)).alloc (.cells (uM (List.replicate fs.length 0)) 3)).heap[w.heap.size]? = some (.cells #[.pointer (some ⟨sb,0,none⟩)] 100 (0,0))∧
   ((w.alloc (.cells #[.pointer (some ⟨sb,0,none⟩)] 100)).alloc (.cells (uM (List.replicate fs.length 0)) 3)).heap[w.heap.size+1]? = some (.cells (uM (qC fs.length 0)) 3 (0,0))):=η ⟨az,(Below.heap_alloc _ _ _ (by simp)).trans (ω _ _),by
  have:=ω (w.alloc (.cells #[.pointer (some ⟨sb,0,none⟩)] 100)) (.cells (uM (List.replicate fs.length 0)) 3)
  simpa [qC] using this⟩
 have bu:(0:Int)≤(fs.length:Int):=by omega
 have bv:(fs.length:Int)≤300:=by omega
 clear O a7 az
 go_enter Tryz.func73,Tryz.ntmps73
 go_wp2;generalize ((w.alloc (.cells #[.pointer (some ⟨sb,0,none⟩)] 100)).alloc (.cells (uM (List.replicate fs.length 0)) 3))=W at *;clear x0 x1 aw
 go_loopw [16] (fun i wr=>∃ k:Nat,k≤fs.length∧i=.int .i64 k∧Below w.heap.size w wr∧wr.heap[w.heap.size]? = some (.cells #[.pointer (some ⟨sb,0,none⟩)] 100 (0,0))∧wr.heap[w.heap.size+1]? = some (.cells (uM (qC fs.length k)) 3 (0,0))) (fun i _=>fs.length - (intOf i).toNat)
 case atStart=>exact ⟨0,ε,rfl,aD.out⟩
 case round=>
  obtain ⟨k,hk,rfl,a0,a4,U⟩:=hrel;clear aD;by_cases a1:k < fs.length
  ·have bc:(0:Int)≤(k:Int):=by omega
   have am:(k:Int) < (fs.length:Int):=by omega
   have y0:wr.cell? ⟨w.heap.size+1,k,none⟩=some (.int .i64 (fU (qC fs.length k) k:Nat)):=(ai U).trans (uN (by rw [QG hk]; exact a1));have y1:wr.frozen? ⟨w.heap.size+1,k,none⟩=false:=ax U
   have HN:Hid (Below w.heap.size w (wr.setCell ⟨w.heap.size+1,k,none⟩ (.int .i64 (k:Nat)))∧(wr.setCell ⟨w.heap.size+1,k,none⟩ (.int .i64 (k:Nat))).heap[w.heap.size]? = some (.cells #[.pointer (some ⟨sb,0,none⟩)] 100 (0,0))∧(wr.setCell ⟨w.heap.size+1,k,none⟩ (.int .i64 (k:Nat))).heap[w.heap.size+1]? = some (.cells (uM (qC fs.length (k+1))) 3 (0,0))):=η ⟨a0.setCell (Nat.le_succ _) _,(π _ _ _ _ (by show w.heap.size ≠ w.heap.size+1; omega)).trans a4,by
    rw [bK U,zV,QF a1]⟩
   have a5:=η a1;clear a0 a4 U a1;go_wp2;go_roundw
   case rel=>exact ⟨k+1,a5.out,by go_num,HN.out⟩
   case measure=>have:=a5.out; simp [intOf]; omega
  ·have he:k=fs.length:=by omega
   have am:¬ (k:Int) < (fs.length:Int):=by omega
   rw [he,QI] at U;have hO:=HO.out.below a0;have bw:=a0.size
   have a2:=DZ w.heap.size sb (w.heap.size+1) fs.length Af cf fs bf (List.range fs.length) wr (ai a4) hO.c0 hO.fa (fun p hp=>List.mem_range.1 hp) (fun k p hp=>by
    obtain ⟨h1,rfl⟩:=List.getElem?_eq_some_iff.1 hp;have h2:k < fs.length:=by simpa using h1
    rw [ai U,uN h1];unfold fU
    simp [List.getD,h2]) (fun q=>ax U) (ψ U) (by omega) (by omega) (fun hm=>by have:=au.lt HO.out.fa _ hm; omega) (by simp; omega)
   rw [List.length_range] at a2;have ao:=η a4;have J:=η a0;have aE:=η U;clear a4 U a0 hO
   go_wp2_with fail
   refine a2.mono ?_;rintro e w2 ⟨rfl,y,q1,q2,q3,q4⟩;have a3:=η q1;have bg:Hid (y.Pairwise (fun a b=>∀ (ha:a < fs.length) (hb:b < fs.length),¬ dD fs[b] fs[a] < 0)):=η (q2.imp fun h ha hb=>by have:=h ha hb; omega);have aL:Below w.heap.size w w2:=⟨q4.os.trans J.out.os,q4.tape.trans J.out.tape,q4.output.trans J.out.output,τ J.out.size q4.size,fun k hk=>(q4.block k (κ hk J.out.size) (by omega)).trans (J.out.block k hk)⟩;have ac:=(q4.block w.heap.size (ψ ao.out) (by omega)).trans ao.out;have bh:w.heap.size+1 < w2.heap.size:=κ (ψ aE.out) q4.size;have aM:=rV [] (.slice none 0 0) [] w2 ⟨none,0,rfl,ν,ε,fun _=>rfl,fun h=>absurd rfl h⟩ (fun f hf=>by simp at hf) List.Pairwise.nil ε;have a8:=η aL;have ae:=η ac;have aR:=η q3;clear q1 q2 q3 q4 a2 aL ac
   go_wp2_with fail
   refine aM.mono ?_;rintro e w3 ⟨rfl,hS⟩;obtain ⟨a9,b1⟩:=hS.oK (fun x hx=>by simp at hx)
   have af:=(b1.mono (Fb':=fun _=>True) fun _ _ _=>trivial).low (bf ++ [w.heap.size,w.heap.size+1]) fun x hx=>by
    have:x < w2.heap.size:=by
     rcases μ.1 hx with hx | hx
     ·have:=au.lt HO.out.fa x hx; have:=a8.out.size; omega
     ·simp at hx; omega
    omega
   have b2:Hid (UJ w sb w2.heap.size bf y fs rn 0 w3):=η ⟨a8.out.trans (a9.mono a8.out.size),(a9.block _ (by omega)).trans ae.out,fun k q hq=>(World.cell?_of_block (a9.block _ bh)).trans (aR.out k q hq),by simpa using af⟩;have b3:y.length=fs.length:=by rw [a3.out.length_eq,List.length_range]
   have b4:Hid (w.heap.size+1 < w2.heap.size):=η (by omega);have b5:=η b3;clear aM hS a9 b1 af b3 a8 ae aR ao J;go_wp2;generalize w2.heap.size=z at *
   go_loopw [30] (fun i wr=>∃ k:Nat,k≤fs.length∧i=.int .i64 k∧UJ w sb z bf y fs rn k wr) (fun i _=>fs.length - (intOf i).toNat)
   case atStart=>exact ⟨0,ε,rfl,b2.out⟩
   case round=>
    obtain ⟨k,hk,rfl,hI⟩:=hrel;clear b2;by_cases a1:k < fs.length
    ·have aa:k < y.length:=by rw [b5.out]; exact a1
     have hq:y[k]? = some y[k]:=Ψ aa;have I:y[k] < fs.length:=List.mem_range.1 (a3.out.mem_iff.1 (δ aa));have y0:=hI.pl k _ hq;have y1:wr.cell? ⟨w.heap.size,0,none⟩=some (.pointer (some ⟨sb,0,none⟩)):=ai hI.box;have hO:=HO.out.below hI.bel;have y2:=hO.c0;have y3:=hO.c1;obtain ⟨bq,oq,Ae,ce,ba,rfl,_,f0,f1,b6,ag⟩:=dJ hO.fa I;obtain ⟨b7,o7,rfl,_,e7⟩:=nK (k:=y[k]) hO.ra (by rw [hr]; exact I);have bc:(0:Int)≤(k:Int):=by omega
     have am:(k:Int) < (fs.length:Int):=by omega
     have bx:(0:Int)≤(y[k]:Int):=by omega
     have bz:(y[k]:Int) < (fs.length:Int):=by omega
     have ap:(y[k]:Int) < (rn.length:Int):=by omega
     have aq:zZ fs y[k] ∉ (y.take k).map (zZ fs):=fun hm=>by
      obtain ⟨q',ar,e⟩:=List.mem_map.1 hm;obtain ⟨i,hi,rfl⟩:=List.getElem_of_mem ar;rw [List.length_take] at hi;rw [List.getElem_take] at e;have bi:i < y.length:=by omega
      have bj:y[i] < fs.length:=List.mem_range.1 (a3.out.mem_iff.1 (δ bi));rw [mV bj,mV I] at e;have e1:=(List.getElem_inj b9).1 e;have bk:y.Nodup:=a3.out.nodup_iff.2 List.nodup_range;have:=(List.getElem_inj bk).1 e1;omega
     have b8:aI fs[y[k]]:=av _ (δ I)
     have a6:=OI (fr:=bf ++ [w.heap.size,w.heap.size+1]) (hI.oK.later ((Below.refl wr.heap.size wr).drew)) (aj.keep b6 fun _ _=>rfl) (fun x hx=>Ξ _ (ag x hx)) (fun _ _=>trivial) (fun f hf=>by
      obtain ⟨q',ar,rfl⟩:=List.mem_map.1 hf;have ap:q' < fs.length:=List.mem_range.1 (a3.out.mem_iff.1 (List.mem_of_mem_take ar))
      rw [mV ap]; exact av _ (δ ap)) b8 (by rw [mV I] at aq; exact aq) (by rw [List.length_map,List.length_take]; omega) (by rw [List.length_map,List.length_take]; omega) (rn[y[k]]'(by rw [hr]; exact I)) z (by omega)
     have HN:Hid (∀ w5,Below z wr.drew w5→gK (z+3) (z+2) z (z+1) (fun _=>True) (bf ++ [w.heap.size,w.heap.size+1]) ((y.take k).map (zZ fs) ++ [fs[y[k]]]) ((y.take k).map (fU rn) ++ [rn[y[k]]'(by rw [hr]; exact I)]) w5→UJ w sb z bf y fs rn (k+1) w5):=η fun w5 h5 ab=>by
      have bA:=b4.out;have bB:z≤wr.heap.size:=by have:=hI.oK.lt.1; omega
      refine ⟨hI.bel.trans ((Below.refl w.heap.size wr).drew.trans (h5.mono (by omega))),(h5.block _ (by have:=lt_of_cell y1; omega)).trans hI.box,fun j q hj=>(World.cell?_of_block (h5.block (w.heap.size+1) (by omega))).trans (hI.pl j q hj),?_⟩;rw [ρ aa,List.map_append,List.map_append];show gK (z+3) (z+2) z (z+1) _ _ (_ ++ [zZ fs y[k]]) (_ ++ [fU rn y[k]]) w5;rw [mV I,show fU rn y[k]=rn[y[k]]'(by rw [hr]; exact I) from by unfold fU; simp [List.getD,hr,I]];exact ab
     have HC:=η a6;have a5:=η a1;clear a6 b6 hI hO aq b8 ag a1 hq;have bl:y[k] < rn.length:=by rw [hr]; exact I
     generalize rn[y[k]]=rv at *;generalize fs[y[k]]=a at *;generalize y[k]=q at *;clear bl I aa;obtain ⟨an,bn⟩:=a;dsimp only at *;have bp:=lt_of_cell y2
     go_wp2_with fail
     go_region_law
      (go_simp; go_at_call 112; refine HC.out.mono ?_; rintro e w5 ⟨rfl,h5,ab,_⟩; have bo:=η (HN.out w5 h5 ab); clear h5 ab)
     all_goals
      clear HC HN y0 y1 y2 y3 f0 f1 e7;go_wp2;go_roundw
      case rel=>exact ⟨k+1,a5.out,by go_num,bo.out⟩
      case measure=>have:=a5.out; simp [intOf]; omega
    ·have he:k=fs.length:=by omega
     have am:¬ (k:Int) < (fs.length:Int):=by omega
     have HD:Hid (Below w.heap.size w wr∧gK (z+3) (z+2) z (z+1) (fun _=>True) bf (y.map (zZ fs)) (y.map (fU rn)) wr):=η ⟨hI.bel,by
      have h1:=hI.oK;rw [ϕ (by rw [b5.out]; omega)] at h1
      exact h1.sub fun x hx=>Ξ _ hx⟩
     have bE:=b4.out;clear hI;go_wp2;go_ret;exact ⟨HD.out.1,z,by omega,rfl,y,a3.out,bg.out,HD.out.2⟩
end Go.Proofs.YtkjinanbccloeaaGreatDoor
