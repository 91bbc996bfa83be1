/- Of the proof of FnEval,FnEvalOrder,FnEvalMore: RouI, InoJ, OncI. -/
import Derived.Deep.CutBlock
import Derived.Test.YtkjinanbccloeaaGreatDoorM43
set_option linter.unusedVariables false
set_option maxHeartbeats 4000000
set_option maxRecDepth 100000
namespace Go.Proofs.YtkjinanbccloeaaGreatDoor
open Go.RowKit D
attribute [local go_sem ↓] Go.wp_at_zero Go.wp_at_succ
theorem D.Xi (w:World):(Instr.makeChan 262 (.int .i64 301)).run Tryz.prog w=.ok (.chan (some w.heap.size)) (w.alloc (.chan 301 #[] false 0 0 false)):=by
 obtain ⟨i,y,I⟩:∃ i,Tryz.prog.info? 33=some i∧i.bytes=40:=by
  obtain ⟨i,y,_,_,J⟩:=info_parts PS;exact ⟨i,y,J⟩
 simpa using Go.Conc.run_makeChan (P:=Tryz.prog) (w:=w) Tryz.underlying262 y .i64 301 (by omega) (by rw [I]; omega)
def D.I7 (B sb mu mp:Nat) (Fb:Nat→Prop) (fr:List Nat) (fs:List A) (rn:List Nat) (next:List Ru) (nr B0:Nat) (w:World) (e:Ending) (w':World):Prop:=
 Below B0 w w'∧((∃ new mc n L f,e=.returned (.tuple #[.map (some mc),.bool true])∧new.Nodup∧(∀ t ∈ new,aN t)∧(∀ t,t ∈ new ↔ t ∉ fs∧∃ q ∈ next,iW fs q t)∧fs.length+new.length≤300∧
   jf B sb mu mp Fb fr (fs ++ new) (rn ++ List.replicate new.length nr) w'∧(∀ x ∈ fr,w'.heap[x]? = w.heap[x]?)∧gG mc n L f w'∧w.heap.size≤mc∧(∀ s,s ∈ L ↔ ∃ t ∈ new,t.name=s)∧∀ s ∈ L,1≤f s∧f s≤1000000) ∨
  (e=.returned (.tuple #[.map none,.bool false])∧∃ new:List A,new.Nodup∧(∀ t ∈ new,t ∉ fs∧∃ q ∈ next,iW fs q t)∧300 < fs.length+new.length))
structure D.VE (x:pO) (fs:List A) (bst:List Nat) (next:List Ru) (w:World) (k:Nat) (wr:World):Prop where
 ex:∃ told fb,lY x w.heap.size fs bst wr told fb∧∀ t,t ∈ told ↔ ∃ r ∈ next.take k,iW fs r t
 bel:Below w.heap.size w wr
theorem Xj {x:Xu} (X:MQ x) {w:World} {k:Nat} (hk:k < x.new.length) {c:Value} {ba:List Nat} {wr:World} (h:qE x w k x.new[k] c ba wr):
  Calls Tryz.prog 112 #[.pointer (some ⟨x.sb,0,none⟩),.agg #[.string x.new[k].name,c],.int .i64 x.nr] (wr.alloc (.cells #[.string x.new[k].name,c] 33)) fun e J=>e=.returned (.tuple #[])∧Below x.B0 wr J∧
   jf x.B x.sb x.mu x.mp x.Fb x.f2 (x.fs ++ x.new.take k ++ [x.new[k]]) (x.rn ++ List.replicate k x.nr ++ [x.nr]) J∧(∀ j ∈ x.f2,J.heap[j]? = wr.heap[j]?)∧J.heap[wr.heap.size]? = some (.cells #[.string x.new[k].name,c] 33 (0,0)):=by
 have U:Below wr.heap.size wr (wr.alloc (.cells #[.string x.new[k].name,c] 33)):=(Below.refl _ _).alloc (Nat.le_refl _) _;have h1:=h.later X U;have hs:=h.qK.more U [wr.heap.size] (fun j y=>by simp at y; subst y; exact ⟨Nat.le_refl _,by simp⟩);have a0:=h.qK.lt;have a2:=X.few;have I:x.new[k] ∈ x.new:=List.getElem_mem hk;have a1:=X.nd;refine (Xc (fr:=x.f2 ++ [wr.heap.size]) hs h1.at' (fun j y=>List.mem_append_left _ (h1.bas j y).1) (fun j y=>(h1.bas j y).2) (fun f hf=>?_) (X.nok _ I) (fun hm=>?_) ?_ ?_ x.nr x.B0 X.b0).mono ?_
 ·rcases List.mem_append.1 hf with hf | hf
  ·exact X.fok f hf
  ·exact X.nok f (List.mem_of_mem_take hf)
 ·rcases List.mem_append.1 hm with hm | hm
  ·exact X.no _ I hm
  ·obtain ⟨i,hi,e⟩:=List.getElem_of_mem hm
   rw [List.length_take] at hi;rw [List.getElem_take] at e;have:=(List.getElem_inj a1).1 e;omega
 ·rw [List.length_append,List.length_take]; omega
 ·have:=X.rfew
  rw [List.length_append,List.length_replicate]; omega
 ·rintro e J ⟨rfl,hb,hS,hf⟩
  refine ⟨rfl,?_,hS.sub fun j y=>List.mem_append_left _ y,fun j y=>(hf j (List.mem_append_left _ y)).trans (U.block j (a0.2.2 j y)),(hf _ (List.mem_append_right _ (List.mem_singleton.2 rfl))).trans (heap_alloc_new _ _)⟩;have:=X.b0;exact (U.mono (by omega)).trans hb
theorem Sr (B sb mu mp:Nat) (Fb:Nat→Prop) (bl:∀ x,B≤x→Fb x) (fr:List Nat) (fs:List A) (rn:List Nat) (next:List Ru) (v:Value) (bn:List Nat) (nr B0:Nat) (w:World) (S:jf B sb mu mp Fb fr fs rn w) (h:dS w [v] next bn)
  (ag:∀ f ∈ fs,aN f) (bo:fs.length≤300) (bp:rn.length≤300) (hR:∀ r ∈ next,jw r) (aD:B0≤sb∧B0≤mu∧B0≤mp∧B0≤B):
  Calls Tryz.prog 134 #[.pointer (some ⟨sb,0,none⟩),v,.int .i64 nr] w (I7 B sb mu mp Fb fr fs rn next nr B0 w):=by
 obtain ⟨Ad,cap,rfl,aE,aL⟩:=ak h;have c0:=ay (Nat.le_trans aE aL);have HH:=η h;have HS:=η S;clear h S aE aL;have aM:=@run_makeMap Tryz.prog;have br:=Xi
 go_enter Tryz.func134,Tryz.ntmps134
 go_wp2;obtain ⟨a2,am⟩:=HS.out.view;have aR:Hid (VE (rx w.heap.size sb nr) fs a2 next w 0 (rW w sb nr)):=η ⟨⟨[],_,RZ w sb nr fs rn a2 am bo,fun t=>by simp⟩,MP w sb nr⟩;have eW:(((((((w.alloc (.cells #[.pointer (some ⟨sb,0,none⟩)] 100)).alloc (.cells #[.int .i64 nr] 3)).alloc (.chan 301 #[] false 0 0 false)).alloc (.cells #[.chan (some (w.heap.size+1+1))] 262)).alloc (.map #[] 0)).alloc (.cells #[.map (some (w.heap.size+1+1+1+1))] 116)).alloc (.cells #[.bool true] 4))=rW w sb nr:=rfl;rw [eW];have bt:Hid (∀ x ∈ a2,x < w.heap.size):=η am.lt;generalize rW w sb nr=W at *;clear eW am
 go_loopw [19] (fun i wr=>∃ k:Nat,k≤next.length∧i=.int .i64 k∧VE (rx w.heap.size sb nr) fs a2 next w k wr) (fun i _=>next.length - (intOf i).toNat)
 case atStart=>exact ⟨0,Nat.zero_le _,rfl,aR.out⟩
 case round=>
  obtain ⟨k,hk,rfl,hI⟩:=hrel;clear aR;by_cases a0:k < next.length
  ·have c3:(0:Int)≤(k:Int):=by omega
   have bu:(k:Int) < (next.length:Int):=by omega
   obtain ⟨⟨told,fb,hF,J⟩,y⟩:=hI;obtain ⟨bq,oq,Ae,ce,Af,cf,bk,rfl,_,f0,f1,f2,b1,ae⟩:=fH (aV.below HH.out y) a0;have hA:Below wr.heap.size wr (wr.alloc (.cells #[.string next[k].head.name,.slice Ae next[k].head.args.length ce,.slice Af next[k].body.length cf] 40)):=(Below.refl _ _).alloc (Nat.le_refl _) _;have ao:=hF.keep (fun x hx=>hA.block x (hF.lt x hx)) hA.size;obtain ⟨bv,b2⟩:=ao.st
   have U:=EG sb fs bv a2 next[k] (.string next[k].head.name) (.slice Ae next[k].head.args.length ce) (.slice Af next[k].body.length cf) bk (RV (rx w.heap.size sb nr) w.heap.size fs a2 ag) told fb _ b2 ag (by omega) (aU.below b1 hA) (hR _ (List.getElem_mem a0)) ao (fun x hx e=>(hF.qK x hx).2 (by rcases e with rfl | rfl | rfl <;> simp [pO.own])) (fun x hx e=>by
    have h1:=aV.lt HH.out x (ae x hx)
    rcases e with rfl | rfl | rfl <;> (simp only [rx] at h1; omega))
   have HN:Hid (∀ w9 ts a7 more,Vz (rx w.heap.size sb nr) w.heap.size fs a2 more w9 (told ++ ts) a7→dX (rx w.heap.size sb nr).K (wr.alloc (.cells #[.string next[k].head.name,.slice Ae next[k].head.args.length ce,.slice Af next[k].body.length cf] 40)) w9→(∀ t ∈ ts,iW fs next[k] t)→(more=true→∀ t,iW fs next[k] t→t ∈ ts)→(more=false→Vr fs (told ++ ts)=false)→
     w9.cell? ⟨w.heap.size+1+1+1+1+1+1,0,none⟩=some (.bool more)∧(more=true→VE (rx w.heap.size sb nr) fs a2 next w (k+1) w9)∧(more=false→I7 B sb mu mp Fb fr fs rn next nr B0 w (.returned (.tuple #[.map none,.bool false])) w9)):=η fun w9 ts a7 more q1 q3 q4 q5 q6=>by
    have hz:=y.size;have b4:Below w.heap.size w w9:=⟨q3.os.trans (hA.os.trans y.os),q3.tape.trans (hA.tape.trans y.tape),q3.output.trans (hA.output.trans y.output),Nat.le_trans hz (Nat.le_trans hA.size q3.size),fun x hx=>(q3.block x (by have:=hA.size; omega) (fun e=>by rcases e with e | e | e <;> (simp only [rx] at e; omega))).trans ((hA.block x (by omega)).trans (y.block x hx))⟩;refine ⟨?_,fun hm=>?_,fun hm=>?_⟩
    ·cases more with
     | true=>exact ai (lY.cF q1)
     | false=>exact ai (qC.cF q1)
    ·subst hm
     refine ⟨⟨told ++ ts,a7,q1,fun t=>?_⟩,b4⟩;rw [List.mem_append,J,VB a0];exact or_congr Iff.rfl ⟨q4 t,q5 rfl t⟩
    ·subst hm
     have hg:=RI (q6 rfl);have hn:=pI fs (told ++ ts);refine ⟨b4.mono (by have:=HS.out.lt; omega),.inr ⟨rfl,newL fs (told ++ ts),hn.1,fun t ht=>?_,hg⟩⟩;obtain ⟨h1,h2⟩:=(hn.2 t).1 ht;refine ⟨h2,?_⟩
     rcases List.mem_append.1 h1 with h1 | h1
     ·obtain ⟨r,hr,hf⟩:=(J t).1 h1
      exact ⟨r,List.mem_of_mem_take hr,hf⟩
     ·exact ⟨next[k],List.getElem_mem a0,q4 t h1⟩
   have y0:wr.cell? ⟨w.heap.size,0,none⟩=some (.pointer (some ⟨sb,0,none⟩)):=ai hF.cS;have c4:w.heap.size < wr.heap.size:=hF.lt _ (hF.ow _ (by show _ ∈ [_,_,_,_,_,_,_]; simp [rx]));have a8:=η a0;clear hF J ao b2 y hA b1 ae hk;generalize next[k]=r at *;obtain ⟨⟨c5,ra⟩,rb⟩:=r;dsimp only at *;clear a0;unfold rx pO.uy at U
   go_wp2_with fail
   refine U.mono ?_;rintro e w9 ⟨rfl,ts,a7,more,q1,q2,q3,q4,q5,q6⟩;obtain ⟨y1,b5,b6⟩:=HN.out w9 ts a7 more q1 q3 q4 q5 q6;have ap:=η b5;have aq:=η b6;clear U HN q1 q2 q3 q4 q5 q6 b5 b6
   cases more with
   | false=>
    have HP:=η (aq.out rfl);clear ap aq;go_wp2;go_ret2;exact HP.out
   | true=>
    have HI:=η (ap.out rfl);clear ap aq;go_wp2;go_roundw
    case rel=>exact ⟨k+1,a8.out,by go_num,HI.out⟩
    case measure=>have:=a8.out; simp [intOf]; omega
  ·have he:k=next.length:=by omega
   have bu:¬ (k:Int) < (next.length:Int):=by omega
   obtain ⟨⟨told,fb,hF,J⟩,y⟩:=hI;rw [List.take_of_length_le (Nat.le_of_eq he.symm)] at J;obtain ⟨vs,sd,bb,a1,a9,b7⟩:=hF.cH;have b8:w.heap.size < wr.heap.size:=hF.lt _ (hF.ow _ (by show _ ∈ [_,_,_,_,_,_,_]; simp [rx]));have y0:wr.cell? ⟨w.heap.size+1+1+1,0,none⟩=some (.chan (some (w.heap.size+1+1))):=ai hF.cC;have b9:Hid (∀ t,t ∈ newL fs told ↔ t ∉ fs∧∃ q ∈ next,iW fs q t):=η fun t=>by rw [(pI fs told).2,J]; exact And.comm
   have HX:=η (Yb (sd:=sd) (B0:=B0) (bb:=bb) HS.out hF b8 rfl aD ag bp);have HI:=η (Si (sd:=sd) bl HS.out hF y aD a1 a9 b7);have bw:∀ ar ty,(Builtin.close_ ar ty #[.chan (some (w.heap.size+1+1))]).run Tryz.prog wr=.ok (.tuple #[]) (wr.setChan (w.heap.size+1+1) 301 ⟨vs⟩ true sd 0 false):=fun ar ty=>run_close_open ar ty a1
   have av:(wr.setChan (w.heap.size+1+1) 301 ⟨vs⟩ true sd 0 false).heap.size=wr.heap.size:=by simp [World.setChan]
   have af:=aM 116 (wr.setChan (w.heap.size+1+1) 301 ⟨vs⟩ true sd 0 false);rw [av] at af;have bc:w.heap.size+1+1+1 < wr.heap.size:=lt_of_cell y0
   have y1:((wr.setChan (w.heap.size+1+1) 301 ⟨vs⟩ true sd 0 false).alloc (.map #[] 0)).cell? ⟨w.heap.size+1+1+1,0,none⟩=some (.chan (some (w.heap.size+1+1))):=by
    refine (World.cell?_of_block ?_).trans y0;show (World.alloc _ _).heap[w.heap.size+1+1+1]? = _;rw [Below.heap_alloc _ _ _ (by rw [av]; exact bc)];simp only [World.setChan];rw [Array.getElem?_setIfInBounds_ne (by omega)]
   have aw:w.heap.size≤wr.heap.size:=y.size;clear hF J a9 b7 a1 aM br y bt;go_wp2;clear bw y0 av bc;generalize (wr.setChan (w.heap.size+1+1) 301 ⟨vs⟩ true sd 0 false).alloc (.map #[] 0)=W2 at *;clear af;have bx:=η aw;generalize wr.heap.size=mc at *;clear b8
   go_loopg [34] (newL fs told).length (fun gg _ bz=>∃ I:Nat,I≤(newL fs told).length∧(newL fs told).length - I≤gg∧Aside (EH (rcv B sb mu mp nr B0 w.heap.size mc sd Fb fr bb fs rn (newL fs told)) w I bz))
   case atStart=>exact ⟨0,Nat.zero_le _,by omega,HI.out⟩
   case round=>
    obtain ⟨I,c6,hg,hI⟩:=hrel;clear HI y1;by_cases a0:I < (newL fs told).length
    ·obtain ⟨c,a4,ba,a1,hM⟩:=EH.recv HX.out hI.out a0
     have a3:wr.heap[w.heap.size+1+1]? = some (.chan 301 ⟨.agg #[.string (newL fs told)[I].name,c] :: a4⟩ true sd I false):=a1;have a6:qE (rcv B sb mu mp nr B0 w.heap.size mc sd Fb fr bb fs rn (newL fs told)) w I (newL fs told)[I] c ba (wr.setChan (w.heap.size+1+1) 301 ⟨a4⟩ true sd (I+1) false):=hM;have hex:(⟨.agg #[.string (newL fs told)[I].name,c] :: a4⟩:Array Value).extract 1 (⟨.agg #[.string (newL fs told)[I].name,c] :: a4⟩:Array Value).size=⟨a4⟩:=by simp
     clear hM a1
     go_upto_region 14 with fail
     refine uN ?_;refine TR (i:=0) (w':=wr) (ok:=true) (z:=.agg #[.string ⟨#[]⟩,.slice none 0 0]) (by rfl) (by rfl) (by go_simp; rfl) a3 (by simp) ?_;rw [hex];refine sN (i:=1) (by rfl) (by rfl) (v:=.bool true) (w':=wr.setChan (w.heap.size+1+1) 301 ⟨a4⟩ true sd (I+1) false) (by simp [Go.Conc.got]; go_simp) ?_;refine Ig (show Exit.then _ _ Exit.normal _ _ from ?_);generalize wr.setChan (w.heap.size+1+1) 301 ⟨a4⟩ true sd (I+1) false=W3 at *;clear hex a3;obtain ⟨Ae,ce,_,rfl⟩:=aZ a6.at';have z0:W3.cell? ⟨w.heap.size,0,none⟩=some (.pointer (some ⟨sb,0,none⟩)):=ai a6.cS;have z1:W3.cell? ⟨w.heap.size+1,0,none⟩=some (.int .i64 nr):=ai a6.cN;have bA:=lt_of_cell z0;have bB:=lt_of_cell z1;have U:=Xj HX.out a0 a6;have ab:=η a6;clear a6;simp only [Go.Conc.got,if_true]
     go_wp2_with fail
     refine U.mono ?_;rintro e w5 ⟨rfl,q1,q2,q3,q4⟩;obtain ⟨n,L,f,m1,m2,m3,m4⟩:=ab.out.cam;have bf:Hid (gG mc n L f w5):=η (m1.same (q3 _ HX.out.mM));obtain ⟨v,hv⟩:∃ v,(if (newL fs told)[I].name ∈ L then f (newL fs told)[I].name else 0)=v:=⟨_,rfl⟩;have a5:=HX.out.few;have c7:I≤300:=by have:fs.length+(newL fs told).length≤300:=a5; omega
     have c8:0≤v:=by
      rw [← hv]
      split
      ·rename_i hm; have:=m4 _ hm; omega
      ·omega
     have c9:v≤300:=by
      rw [← hv]
      split
      ·rename_i hm; have:=m4 _ hm; omega
      ·omega
     have bg:Hid (∀ w6,gG mc (n+1) (fM L (newL fs told)[I].name) (fun t=>if t=(newL fs told)[I].name then v+1 else f t) w6→w5.grownBy w6 (some mc)→EH (rcv B sb mu mp nr B0 w.heap.size mc sd Fb fr bb fs rn (newL fs told)) w (I+1) w6):=η fun w6 h6 ac=>qE.done HX.out a0 ab.out q1 q2 q3 (by rw [← hv] at h6; exact h6) ac m2 m3 m4
     have bh:Hid ((newL fs told)[I].name.size≤maxLen):=η (by obtain ⟨_,_,hs,_⟩:=ab.out.at'; exact hs);have z5:w5.cell? ⟨W3.heap.size,0,none⟩=some (.string (newL fs told)[I].name):=ai q4;have ca:=lt_of_cell z5;have HV:=η hv;have a8:=η a0;have bE:n < maxLen:=by unfold maxLen; omega
     clear q1 q2 q3 q4 m1 m2 m3 m4 U ab a5 hv z0 z1 bA bB hI;generalize (newL fs told)[I]=a at *;clear a0
     go_wp2_with (first | (at_lookup; refine rC _ rfl _ _ _ rfl Tryz.underlying116 _ _ L _ rfl bf.out a.name rfl bh.out v HV.out ?_) | (at_mapUpdate; refine jW _ rfl _ _ _ _ rfl Tryz.underlying116 _ _ L _ rfl bf.out a.name rfl bh.out (v+1) rfl bE (by omega) ?_; intro w6 bi ac))
     have bL:=η (bg.out w6 bi ac);clear bi ac bg
     go_roundg ((newL fs told).length - (I+1))
     case measure=>have:=a8.out; omega
     case rel=>exact ⟨I+1,a8.out,Nat.le_refl _,bL.out⟩
    ·have bO:I=(newL fs told).length:=by omega
     obtain ⟨az,b3,a1,a9,_⟩:=hI.out.chn;have aa:Jd wr az ((newL fs told).drop I) b3:=a9;rw [List.drop_of_length_le (by omega)] at aa
     have bR:az = []:=by
      cases az with
      | nil=>rfl
      | cons v vs=>exact aa.elim
     subst bR;have a3:wr.heap[w.heap.size+1+1]? = some (.chan 301 #[] true sd I false):=a1
     have HP:Hid (I7 B sb mu mp Fb fr fs rn next nr B0 w (.returned (.tuple #[.map (some mc),.bool true])) wr):=η (by
      have h:=hI.out;have hX:=HX.out;have hn:=pI fs told;obtain ⟨n,L,f,m1,m2,m3,m4⟩:=h.cam;have et:(newL fs told).take I=newL fs told:=List.take_of_length_le (by omega);have hs:jf B sb mu mp (fun k=>Fb k∧k ≠ w.heap.size+2∧k ≠ mc) (fr ++ ([w.heap.size,w.heap.size+1,w.heap.size+2,mc] ++ bb)) (fs ++ (newL fs told).take I) (rn ++ List.replicate I nr) wr:=h.qK;have bj:∀ s,s ∈ L ↔ ∃ t ∈ (newL fs told).take I,t.name=s:=m3;have a5:fs.length+(newL fs told).length≤300:=hX.few;rw [et] at hs bj;rw [bO] at hs;refine ⟨h.bel,.inl ⟨newL fs told,mc,n,L,f,rfl,hn.1,fun t ht=>hX.nok t ht,b9.out,a5,(hs.mono fun x hx _=>hx.1).sub fun x hx=>List.mem_append_left _ hx,h.kep,m1,bx.out,bj,fun s bX=>?_⟩⟩;have:=m4 s bX
      omega)
     clear hI a9 aa a1 HX b9
     go_upto_region 14 with fail
     refine uN ?_;refine TT (i:=0) (w':=wr) (ok:=true) (z:=.agg #[.string ⟨#[]⟩,.slice none 0 0]) (by rfl) (by rfl) (by go_simp; rfl) a3 ?_;refine sN (i:=1) (by rfl) (by rfl) (v:=.bool false) (w':=wr) (by simp [Go.Conc.got]; go_simp) ?_;refine Ig (show Exit.then _ _ Exit.normal _ _ from ?_);simp only [Go.Conc.got,if_true];clear a3;go_wp2;go_ret2;exact HP.out
theorem D.yL {E:List Fe} {mf:Nat} {w:World} (h:fV isStr mf (E.map Fe.kv) w):(E.map (·.t)).Nodup∧E.Nodup∧∀ x ∈ E,∀ y ∈ E,bP x.t=bP y.t→x=y:=by
 have h1:=h.once;rw [List.pairwise_map] at h1;have U:E.Pairwise fun x y=>bP x.t ≠ bP y.t:=h1.imp fun {a b} I e=>I (by unfold Fe.kv; rw [e])
 refine ⟨List.pairwise_map.2 (U.imp fun {a b} I e=>I (by rw [e])),U.imp fun {a b} I e=>I (by rw [e]),fun x hx y hy e=>?_⟩;obtain ⟨i,hi,rfl⟩:=List.getElem_of_mem hx;obtain ⟨j,hj,rfl⟩:=List.getElem_of_mem hy
 rcases Nat.lt_trichotomy i j with J | J | J
 ·exact absurd e (List.pairwise_iff_getElem.1 U i j hi hj J)
 ·subst J; rfl
 ·exact absurd e.symm (List.pairwise_iff_getElem.1 U j i hj hi J)
theorem D.Sv {E:List Fe} {w0:World} {U:Nat} {w:World} (h:fV isStr U (E.map Fe.kv) w) {xs:List (vI E w0)} (hc:tq (E.map Fe.kv) xs):(xs.map (·.1)).Perm E:=by
 obtain ⟨h1,h2,h3⟩:=yL h
 have hn:(xs.map (·.1)).Nodup:=by
  refine List.pairwise_map.2 ?_;have:=hc.1;rw [List.nodup_iff_pairwise_ne,List.pairwise_map] at this;exact this.imp fun {a b} J e=>J (by rw [e])
 refine (List.perm_ext_iff_of_nodup hn h2).2 fun x=>⟨fun I=>?_,fun I=>?_⟩
 ·obtain ⟨y,_,rfl⟩:=List.mem_map.1 I
  exact y.2.1
 ·obtain ⟨y,hy,e⟩:=hc.2 x.kv (List.mem_map.2 ⟨x,I,rfl⟩)
  unfold Fe.kv at e;have:x=y.1:=h3 x I y.1 y.2.1 (by simpa using e);exact List.mem_map.2 ⟨y,hy,this.symm⟩
theorem O6 (b:Nat) (w:World):Calls Tryz.prog 63 #[.map (some b)] w fun e w'=>e=.returned (.func (.func 123) #[] #[.pointer (some ⟨w.heap.size,0,none⟩)])∧w'=w.alloc (.cells #[.map (some b)] 102):=
 (callsIn_wide (n:=3)).1 (values_in _ 3 trivial rfl b w)
def D.Got (E:List Fe) (w w':World) (v:Value):Prop:=∃ xs:List (vI E w),tq (E.map Fe.kv) xs∧w'.ownsRow w.heap.size 33 2 v xs.length (xJ xs)∧Below w.heap.size w w'
theorem FM (I y:Nat) (E:List Fe) (w:World) (hm:w.cell? ⟨I,0,none⟩=some (.map (some y))) (U:fV isStr y (E.map Fe.kv) w) (hT:iM y w) (hE:∀ x ∈ E,aN x.t∧aG w [.string x.t.name,x.c1] x.t x.ba) (hN:E.length≤100000000000):
  Calls Tryz.prog 181 #[.slice none 0 0,.func (.func 123) #[] #[.pointer (some ⟨I,0,none⟩)]] w fun e w'=>∃ v,e=.returned v∧Got E w w' v:=by
 refine ((callsIn_wide (n:=3)).1 (appendSeq_in _ 3 trivial trivial rfl (Nat.le_refl _) I y E w (E.map Fe.kv) w hm U hT (fun p hp=>?_) (by simp [maxLen]; omega) (by simp; omega))).mono ?_
 ·obtain ⟨x,J,rfl⟩:=List.mem_map.1 hp
  exact ⟨⟨x,J,hE x J⟩,rfl⟩
 ·rintro e w' ⟨xs,v,rfl,h1,h2,h3⟩
  exact ⟨v,rfl,xs,h1,h2,h3⟩
theorem MR (I y:Nat) (E:List Fe) (w:World) (hm:w.cell? ⟨I,0,none⟩=some (.map (some y))) (J:fV isStr y (E.map Fe.kv) w) (U:iM y w) (hE:∀ x ∈ E,aN x.t∧aG w [.string x.t.name,x.c1] x.t x.ba) (hN:E.length≤100000000000):
  Calls Tryz.prog 122 #[.func (.func 123) #[] #[.pointer (some ⟨I,0,none⟩)]] w fun e w'=>∃ v,e=.returned v∧Got E w w' v:=by
 have c1:=FM I y E w hm J U hE hN;clear hm J U hE hN
 go_enter Tryz.func122,Tryz.ntmps122
 go_wp2_with fail
 refine c1.mono ?_;rintro e w1 ⟨v,rfl,hG⟩;have HG:=η hG;obtain ⟨xs,_,⟨_,h⟩,_⟩:=hG
 have hv:∃ p n c,v=.slice p n c:=by
  rcases h with ⟨rfl,_⟩ | ⟨g,cap,_,rfl,_⟩
  ·exact ⟨_,_,_,rfl⟩
  ·exact ⟨_,_,_,rfl⟩
 obtain ⟨p,n,c,rfl⟩:=hv;clear h c1;go_wp2;go_ret;exact ⟨_,rfl,HG.out⟩
theorem D.VF {E:List Fe} {U:List A} (h1:(E.map (·.t)).Nodup) (y:∀ x ∈ E,x.t ∈ U):E.length≤U.length:=by
 classical
 have:=lm h1 (l2:=U) fun t I=>by
  obtain ⟨x,J,rfl⟩:=List.mem_map.1 I;exact y x J
 simpa using this
theorem D.VG {w:World} {base y e n k:Nat} {v:Value} {L:List Value} (h:w.ownsRow base e n v k L) (J:y≤base):w.ownsRow y e n v k L:=by
 refine ⟨h.1,h.2.imp id ?_⟩;rintro ⟨g,cap,I,h1,U,h3⟩;exact ⟨g,cap,I,h1,Nat.le_trans J U,h3⟩
theorem D.VH {E:List Fe} {w w1:World} {v:Value} {a6 mf:Nat} (h:Got E w w1 v) (hL:fV isStr mf (E.map Fe.kv) w) (hE:∀ x ∈ E,aN x.t∧aG w [.string x.t.name,x.c1] x.t x.ba) (hN:New a6 w (E.flatMap (·.ba))) (ha:a6≤w.heap.size):
  Below w.heap.size w w1∧∃ L ts bs,aY 2 aG a6 33 w1 v L ts bs∧ts.Perm (E.map (·.t))∧bs.Perm (E.flatMap (·.ba))∧New a6 w1 bs∧(∀ x,v.ownBlock=some x→w.heap.size≤x):=by
 obtain ⟨xs,hA,U,hb⟩:=h;have hp:=Sv hL hA
 have hR:=yK (w:=w1) (zs:=xs.map fun x=>(⟨x.1.t,x.1.c1,x.1.ba⟩:Fq)) fun z hz=>by
  obtain ⟨x,_,rfl⟩:=List.mem_map.1 hz;exact aj.below x.2.2.2 hb
 have e1:(xs.map fun x=>(⟨x.1.t,x.1.c1,x.1.ba⟩:Fq)).flatMap (·.cs)=xJ xs:=by rw [List.flatMap_map]; rfl
 have e2:(xs.map fun x=>(⟨x.1.t,x.1.c1,x.1.ba⟩:Fq)).map (·.t)=(xs.map (·.1)).map (·.t):=by rw [List.map_map,List.map_map]; rfl
 have e3:(xs.map fun x=>(⟨x.1.t,x.1.c1,x.1.ba⟩:Fq)).flatMap (·.ba)=(xs.map (·.1)).flatMap (·.ba):=by rw [List.flatMap_map,List.flatMap_map]
 rw [e1,e2,e3] at hR;have y:((xs.map (·.1)).flatMap (·.ba)).Perm (E.flatMap (·.ba)):=hp.flatMap_right _
 have I:∀ x,v.ownBlock=some x→w.heap.size≤x:=fun x hx=>by
  rcases U.2 with ⟨rfl,_⟩ | ⟨g,cap,a0,rfl,hg,_⟩
  ·simp [Value.ownBlock] at hx
  ·have:g=x:=by simpa [Value.ownBlock] using hx
   omega
 refine ⟨hb,xJ xs,(xs.map (·.1)).map (·.t),(xs.map (·.1)).flatMap (·.ba),⟨?_,hR,fun b J e=>?_⟩,hp.map _,y,⟨y.nodup_iff.2 hN.nodup,fun b J=>?_⟩,I⟩
 ·rw [List.length_map,List.length_map]
  exact VG U ha
 ·have h1:=hN.lt (y.mem_iff.1 J)
  have:=I b e;omega
 ·have h1:=hN.own b (y.mem_iff.1 J)
  refine ⟨h1.1,?_⟩;rw [hb.block b (hN.lt (y.mem_iff.1 J))];exact h1.2
theorem EJ (a6 mf Bm:Nat) (told U:List A) (fb:List Nat) (w:World) (F:lX a6 mf w told fb) (hm:w.cell? ⟨Bm,0,none⟩=some (.map (some mf))) (hU:∀ t ∈ told,t ∈ U) (a2:U.length≤100000000000) (ha:a6≤w.heap.size):
  Calls Tryz.prog 62 #[.func (.func 123) #[] #[.pointer (some ⟨Bm,0,none⟩)],.func (.func 64) #[] #[]] w fun e w'=>
   Below w.heap.size w w'∧∃ v I bs,e=.returned v∧aW w' [v] I bs∧New a6 w' bs∧fJ I=true∧(∀ t ∈ I,aN t)∧∀ t,t ∈ I ↔ t ∈ told:=by
 obtain ⟨E,h1,h2,h3,h4⟩:=F.map;have hE:∀ x ∈ E,aN x.t∧aG w [.string x.t.name,x.c1] x.t x.ba:=fun x hx=>⟨(h2 x hx).2.1,(h2 x hx).2.2.1⟩
 have a3:E.length≤100000000000:=Nat.le_trans (VF (yL h1).1 fun x hx=>hU _ (h2 x hx).1) a2;have c1:=MR Bm mf E w hm h1 F.tm hE a3;have HG:=η fun w1 v (hg:Got E w w1 v)=>VH hg h1 hE h4 ha
 have HM:Hid ((E.map (·.t)).Nodup∧∀ t,t ∈ E.map (·.t) ↔ t ∈ told):=η ⟨(yL h1).1,fun t=>⟨fun ht=>by
  obtain ⟨x,hx,rfl⟩:=List.mem_map.1 ht
  exact (h2 x hx).1,fun ht=>by
  obtain ⟨x,hx,e⟩:=h3 t ht
  exact List.mem_map.2 ⟨x,hx,sV (h2 x hx).2.1.ok (F.tok t ht).ok e⟩⟩⟩
 have HT:=η F.tok;clear hm h1 h2 h3 h4 F hE hU a2
 go_enter Tryz.func62,Tryz.ntmps62
 go_wp2_with fail
 refine c1.mono ?_;rintro e w1 ⟨v,rfl,hG⟩;obtain ⟨y,L,I,bs,hC,a0,a4,hN,hO⟩:=HG.out w1 v hG
 have hv:∃ p n c,v=.slice p n c:=by
  rcases hC.own.2 with ⟨rfl,_⟩ | ⟨g,cap,_,rfl,_⟩
  ·exact ⟨_,_,_,rfl⟩
  ·exact ⟨_,_,_,rfl⟩
 have c2:=xO I v L bs a6 w1 hC (by have:=a0.length_eq; simp at this; omega)
 have HR:Hid (∀ J ys L' bs',ys.Perm I→ys.Pairwise (fun a b=>¬ dJ b a < 0)→bs'.Perm bs→aY 2 aG a6 33 J v L' ys bs'→dX (fun x=>v.ownBlock=some x) w1 J→
   Below w.heap.size w J∧∃ v' I bs,v=v'∧aW J [v'] I bs∧New a6 J bs∧fJ I=true∧(∀ t ∈ I,aN t)∧∀ t,t ∈ I ↔ t ∈ told):=η fun J ys L' bs' q1 q2 q3 q4 q5=>by
  have a5:Below w.heap.size w J:=⟨q5.os.trans y.os,q5.tape.trans y.tape,q5.output.trans y.output,Nat.le_trans y.size q5.size,fun k hk=>(q5.block k (Nat.lt_of_lt_of_le hk y.size) fun e=>by have:=hO k e; omega).trans (y.block k hk)⟩
  have a7:New a6 J bs':=⟨q3.nodup_iff.2 hN.nodup,fun b hb=>by
   have h1:=hN.own b (q3.mem_iff.1 hb);refine ⟨h1.1,?_⟩;rw [q5.block b (hN.lt (q3.mem_iff.1 hb)) (fun e=>hC.far b (q3.mem_iff.1 hb) e)]
   exact h1.2⟩
  obtain ⟨b2,g1,g2⟩:=q4.new a7;have a1:∀ t,t ∈ ys ↔ t ∈ told:=fun t=>by rw [q1.mem_iff,a0.mem_iff,HM.out.2]
  have hok:∀ t ∈ ys,aN t:=fun t ht=>HT.out t ((a1 t).1 ht)
  exact ⟨a5,v,ys,b2,rfl,g1,g2,EI hok ((q1.trans a0).nodup_iff.2 HM.out.1) q2,hok,a1⟩
 obtain ⟨p,n,c,rfl⟩:=hv;clear c1 hC a0 a4 hN hO hG y HG HM HT
 go_wp2_with fail
 refine c2.mono ?_;rintro e J ⟨rfl,ys,L',bs',q1,q2,q3,q4,q5⟩;have HZ:=η (HR.out J ys L' bs' q1 q2 q3 q4 q5);clear c2 HR q1 q2 q3 q4 q5;go_wp2;go_ret;obtain ⟨z1,v',a8,a9,rfl,z2⟩:=HZ.out;exact ⟨z1,_,a8,a9,rfl,z2⟩
theorem D.Sz {rs:List Ru} {xs:List A} (h:dU rs xs=true):dQ rs=0∧fJ xs=true∧(∀ x ∈ xs,aN x)∧xs.length≤300:=by
 have h0:=h;unfold dU iP at h;simp only [Bool.and_eq_true,decide_eq_true_eq,List.all_eq_true] at h;exact ⟨h.1.1,h.1.2.2,fun x y=>tu (h.1.2.1.2 x y),h.1.2.1.1⟩
theorem D.SA {rs:List Ru} {xs:List A} (h:dU rs xs=true):(qH rs xs).length≤100000000000:=by
 have y:=FD h;have h1:=OL (list:=xs) (level:=0) (B:=8100000000) (rl:=rs.zip (List.replicate rs.length 0)) fun p I=>Et y.n (y.rules p.1 (List.of_mem_zip I).1).1
 have J:(rs.zip (List.replicate rs.length 0)).length≤8:=by simp; exact y.m
 have U:=Nat.mul_le_mul_right 8100000000 J;unfold qH;omega
structure D.VI (rs:List Ru) (xs:List A) (w0:World) (sb a6 mf:Nat) (k:Nat) (wr:World):Prop where
 st:∃ told fb,lX a6 mf wr told fb∧(∀ x ∈ fb,w0.heap.size≤x)∧∀ t,t ∈ told ↔ ∃ r ∈ rs.take k,iW xs r t
 qK:∃ rn bs,jq sb xs rn bs wr∧mf ∉ bs
 bel:Below w0.heap.size w0 wr
theorem D.VJ {rs:List Ru} {xs:List A} {k:Nat} (h:k < rs.length) (t:A):(∃ r ∈ rs.take (k+1),iW xs r t) ↔ (∃ r ∈ rs.take k,iW xs r t)∨iW xs rs[k] t:=by
 rw [List.take_succ_eq_append_getElem h];constructor
 ·rintro ⟨r,hr,hf⟩
  rcases List.mem_append.1 hr with hr | hr
  ·exact .inl ⟨r,hr,hf⟩
  ·rw [List.mem_singleton.1 hr] at hf; exact .inr hf
 ·rintro (⟨r,hr,hf⟩ | hf)
  ·exact ⟨r,List.mem_append_left _ hr,hf⟩
  ·exact ⟨_,List.mem_append_right _ (List.mem_singleton.2 rfl),hf⟩
theorem SB (rs:List Ru) (xs:List A) (v1 v2:Value) (b1 b2:List Nat) (w:World) (h:dS w [v1] rs b1) (h2:aW w [v2] xs b2) (hg:mr w):
  Calls Tryz.prog 17 #[v1,v2] w (Makes aW (rP rs xs) w.heap.size w):=by
 have c1:=oM rs xs v1 v2 b1 b2 w h h2 hg;obtain ⟨Ad,cap,rfl,ac,ae⟩:=ak h;obtain ⟨b5,cap2,rfl,_,_⟩:=ak h2;have b4:=ay (Nat.le_trans ac ae);have HH:=η (And.intro h h2);clear h h2 hg ac ae;cases hf:dU rs xs
 ·have HV:Hid (rP rs xs = []):=η (by unfold rP; rw [hf]; rfl)
  rw [hf] at c1;clear hf
  go_enter Tryz.func17,Tryz.ntmps17
  go_wp2_with fail
  refine c1.mono ?_;rintro e w1 ⟨rfl,a2⟩;have HB:=η a2;clear c1 a2;go_wp2;go_ret;rw [HV.out];exact ⟨HB.out,_,[],rfl,⟨_,_,rfl,Nat.le_refl _,Nat.zero_le _,fun _=>rfl,fun h=>absurd rfl h⟩,New.nil _ _⟩
 ·obtain ⟨hp,a7,hok,aw⟩:=Sz hf
  have HV:Hid (rP rs xs=qH rs xs):=η (by unfold rP; rw [hf]; rfl);have HL:=η (SA hf);have HR:Hid (∀ r ∈ rs,jw r):=η fun r hr=>Mc hp hr
  have HO:Hid (fJ (qH rs xs)=true∧(∀ t ∈ qH rs xs,aN t)∧∀ t,t ∈ qH rs xs ↔ ∃ r ∈ rs,iW xs r t):=η (G7 hok HR.out);have HX:Hid ((∀ x ∈ xs,aN x)∧xs.Pairwise (fun a b=>a ≠ b)∧xs.length≤1000000):=η ⟨hok,jL a7,by omega⟩;rw [hf] at c1;clear hf hp a7 hok aw
  go_enter Tryz.func17,Tryz.ntmps17
  go_wp2_with fail
  refine c1.mono ?_;rintro e w1 ⟨rfl,a2⟩;have a9:=η a2;clear c1 a2
  go_wp2_with fail
  refine (LZ xs _ b2 w1 (au.below HH.out.2 a9.out) HX.out.1 HX.out.2.1 HX.out.2.2).mono ?_;rintro e J ⟨rfl,af,rn,bs,hS,az⟩;have aD:=@run_makeMap Tryz.prog;have a3:=η (a9.out.trans (af.mono a9.out.size));have HS:=η hS;have aa:Hid (∀ x ∈ bs,x < J.heap.size):=η hS.lt;obtain ⟨sb,ag⟩:∃ sb,sb=w1.heap.size+2:=⟨_,rfl⟩;rw [← ag] at HS ⊢;clear af hS az ag;go_wp2
  have ab:Hid (VI rs xs w sb (J.heap.size+1) J.heap.size 0 ((J.alloc (.map #[] 0)).alloc (.cells #[.map (some J.heap.size)] 102))):=η (by
   have U:Below J.heap.size J ((J.alloc (.map #[] 0)).alloc (.cells #[.map (some J.heap.size)] 102)):=((Below.refl _ _).alloc (Nat.le_refl _) _).alloc (by simp) _;have am:((J.alloc (.map #[] 0)).alloc (.cells #[.map (some J.heap.size)] 102)).heap[J.heap.size]? = (J.alloc (.map #[] 0)).heap[J.heap.size]?:=Below.heap_alloc _ _ _ (by simp)
   have aE:((J.alloc (.map #[] 0)).alloc (.cells #[.map (some J.heap.size)] 102)).heap[J.heap.size+1]? = some (.cells #[.map (some J.heap.size)] 102 (0,0)):=by
    have:=heap_alloc_new (J.alloc (.map #[] 0)) (.cells #[.map (some J.heap.size)] 102);simpa using this
   refine ⟨⟨[],[J.heap.size+1,J.heap.size],lX.made aE ((fV.made J).same am) ((iM.made J).same am) (by omega),fun x hx=>?_,fun t=>by simp⟩,⟨rn,bs,HS.out.keep (fun x hx=>U.block x (aa.out x hx)) U.size,fun hm=>by have:=aa.out _ hm; omega⟩,a3.out.trans (U.mono a3.out.size)⟩;have:=a3.out.size;simp at hx
   rcases hx with rfl | rfl <;> omega)
  have HZ:Hid (w.heap.size≤J.heap.size):=η a3.out.size;obtain ⟨mf,ao⟩:∃ mf,mf=J.heap.size:=⟨_,rfl⟩;rw [← ao] at ab HZ ⊢;generalize ((J.alloc (.map #[] 0)).alloc (.cells #[.map (some mf)] 102))=W at *;clear HS aa a3 aD ao
  go_loopw [18] (fun i wr=>∃ k:Nat,k≤rs.length∧i=.int .i64 k∧VI rs xs w sb (mf+1) mf k wr) (fun i _=>rs.length - (intOf i).toNat)
  case atStart=>exact ⟨0,Nat.zero_le _,rfl,ab.out⟩
  case round=>
   obtain ⟨k,hk,rfl,hI⟩:=hrel;clear ab;by_cases a4:k < rs.length
   ·have b6:(0:Int)≤(k:Int):=by omega
    have aL:(k:Int) < (rs.length:Int):=by omega
    obtain ⟨bq,oq,Ae,ce,Af,cf,bk,rfl,_,f0,f1,f2,ap,a8⟩:=fH (aV.below HH.out.1 hI.bel) a4;obtain ⟨⟨told,fb,hF,a5,I⟩,⟨aq,bs',hS,a6⟩,y⟩:=hI;have U:Below wr.heap.size wr (wr.alloc (.cells #[.string rs[k].head.name,.slice Ae rs[k].head.args.length ce,.slice Af rs[k].body.length cf] 40)):=(Below.refl _ _).alloc (Nat.le_refl _) _
    have a0:=EG sb xs aq bs' rs[k] (.string rs[k].head.name) (.slice Ae rs[k].head.args.length ce) (.slice Af rs[k].body.length cf) bk (VA (mf+1) mf) told fb _ (hS.keep (fun x hx=>U.block x (hS.lt x hx)) U.size) HX.out.1 HX.out.2.2 (aU.below ap U) (HR.out _ (List.getElem_mem a4)) (hF.keep (fun x hx=>U.block x (hF.lt x hx)) U.size) (fun x hx e=>a6 (e ▸ hx)) (fun x hx e=>by
     have h1:=aV.lt HH.out.1 x (a8 x hx);have h2:=HZ.out
     omega)
    have HN:Hid (∀ w9 ts a1,lX (mf+1) mf w9 (told ++ ts) a1→(∀ x ∈ a1,x ∈ fb∨(wr.alloc (.cells #[.string rs[k].head.name,.slice Ae rs[k].head.args.length ce,.slice Af rs[k].body.length cf] 40)).heap.size≤x)→dX (fun k=>k=mf) (wr.alloc (.cells #[.string rs[k].head.name,.slice Ae rs[k].head.args.length ce,.slice Af rs[k].body.length cf] 40)) w9→(∀ t ∈ ts,iW xs rs[k] t)→(∀ t,iW xs rs[k] t→t ∈ ts)→VI rs xs w sb (mf+1) mf (k+1) w9):=η fun w9 ts a1 q1 q2 q3 q4 q5=>by
     have aM:=y.size;have hz:=HZ.out;refine ⟨⟨told ++ ts,a1,q1,fun x hx=>?_,fun t=>?_⟩,⟨aq,bs',(hS.keep (fun x hx=>U.block x (hS.lt x hx)) U.size).keep (fun x hx=>q3.block x (by have:=hS.lt x hx; have:=U.size; omega) fun e=>a6 (e ▸ hx)) q3.size,a6⟩,⟨q3.os.trans (U.os.trans y.os),q3.tape.trans (U.tape.trans y.tape),q3.output.trans (U.output.trans y.output),Nat.le_trans aM (Nat.le_trans U.size q3.size),fun x hx=>(q3.block x (by have:=U.size; omega) (by omega)).trans ((U.block x (by omega)).trans (y.block x hx))⟩⟩
     ·rcases q2 x hx with h1 | h1
      ·exact a5 x h1
      ·have:=U.size; omega
     ·rw [List.mem_append,I,VJ a4]
      exact or_congr Iff.rfl ⟨q4 t,q5 t⟩
    have ar:=η a4;clear hF a5 I hS a6 y U ap a8 hk;generalize rs[k]=r at *;obtain ⟨⟨b7,ra⟩,rb⟩:=r;dsimp only at *;clear a4
    go_wp2_with fail
    refine a0.mono ?_;rintro e w9 ⟨rfl,ts,a1,more,q1,q2,q3,q4,q5,q6⟩
    have av:more=true:=by
     cases more
     ·exact absurd (q6 rfl) (by decide)
     ·rfl
    have aR:=η (HN.out w9 ts a1 q1 q2 q3 q4 (q5 av));clear a0 HN q1 q2 q3 q4 q5 q6 av;go_wp2;go_roundw
    case rel=>exact ⟨k+1,ar.out,by go_num,aR.out⟩
    case measure=>have:=ar.out; simp [intOf]; omega
   ·have he:k=rs.length:=by omega
    have aL:¬ (k:Int) < (rs.length:Int):=by omega
    obtain ⟨⟨told,fb,hF,a5,I⟩,_,y⟩:=hI;rw [he,List.take_of_length_le (Nat.le_refl _)] at I;have y0:wr.cell? ⟨mf+1,0,none⟩=some (.map (some mf)):=ai hF.box;have U:Below wr.heap.size wr (wr.alloc (.cells #[.map (some mf)] 102)):=(Below.refl _ _).alloc (Nat.le_refl _) _;have a0:=EJ (mf+1) mf wr.heap.size told (qH rs xs) fb _ (hF.keep (fun x hx=>U.block x (hF.lt x hx)) U.size) (ai (heap_alloc_new wr (.cells #[.map (some mf)] 102))) (fun t ht=>(HO.out.2.2 t).2 ((I t).1 ht)) HL.out (by have:=hF.lt _ hF.own.1; simp; omega)
    have HN:Hid (∀ w9 v ts bs,Below (wr.alloc (.cells #[.map (some mf)] 102)).heap.size (wr.alloc (.cells #[.map (some mf)] 102)) w9→aW w9 [v] ts bs→New (mf+1) w9 bs→fJ ts=true→(∀ t ∈ ts,aN t)→(∀ t,t ∈ ts ↔ t ∈ told)→Makes aW (rP rs xs) w.heap.size w (.returned v) w9):=η fun w9 v ts bs q1 q2 q3 q4 q5 q6=>by
     have e:ts=qH rs xs:=xI q4 HO.out.1 q5 HO.out.2.1 fun t=>by rw [q6,I,HO.out.2.2]
     rw [HV.out,← e];exact ⟨(y.trans (U.mono y.size)).trans (q1.mono (Nat.le_trans y.size U.size)),v,bs,rfl,q2,q3.mono (by have:=HZ.out; omega)⟩
    have cv:=O6 mf wr;clear hF a5 I y U hk HO HV HX HR HL he
    go_wp2_with fail
    refine cv.mono ?_;rintro e w8 ⟨rfl,rfl⟩;clear cv y0
    go_wp2_with fail
    refine a0.mono ?_;rintro e w9 ⟨q1,v,ts,bs,rfl,q2,q3,q4,q5,q6⟩;have b3:=η (HN.out w9 v ts bs q1 q2 q3 q4 q5 q6);obtain ⟨p9,n9,rfl,_⟩:=ak q2;clear a0 HN q1 q2 q3 q4 q5 q6;go_wp2;go_ret;exact b3.out
end Go.Proofs.YtkjinanbccloeaaGreatDoor
