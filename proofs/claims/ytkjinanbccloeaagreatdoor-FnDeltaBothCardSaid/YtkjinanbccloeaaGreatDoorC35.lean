/- Of the proof of FnDeltaBoth: SrtP, RouI, StAl. -/
import Derived.Test.YtkjinanbccloeaaGreatDoorC34
import Derived.Deep.CutBlock
set_option linter.unusedVariables false
set_option maxHeartbeats 4000000
set_option maxRecDepth 100000
namespace Go.Proofs.YtkjinanbccloeaaGreatDoor
section
open Go.RowKit D
theorem D.Tz {α β:Type} (f:α→β) {ys xs:List β} (h:ys.Perm xs):∀ L:List α,xs=L.map f→∃ I:List α,I.Perm L∧ys=I.map f:=by
 induction h with
 | nil=>intro L e; exact ⟨L,List.Perm.refl _,e⟩
 | cons x _ ih=>
  intro L e
  cases L with
  | nil=>simp at e
  | cons a L=>
   simp only [List.map_cons,List.cons.injEq] at e;obtain ⟨I,h1,J⟩:=ih L e.2;exact ⟨a :: I,h1.cons a,by rw [List.map_cons,e.1,J]⟩
 | swap x y l=>
  intro L e
  match L,e with
  | [],e=>simp at e
  | [a],e=>simp at e
  | a :: b :: L,e=>
   simp only [List.map_cons,List.cons.injEq] at e;exact ⟨b :: a :: L,List.Perm.swap a b L,by rw [List.map_cons,List.map_cons,e.1,e.2.1,e.2.2]⟩
 | trans _ _ ih1 ih2=>
  intro L e;obtain ⟨U,h1,J⟩:=ih2 L e;obtain ⟨L2,h3,h4⟩:=ih1 U J;exact ⟨L2,h3.trans h1,h4⟩
structure D.Fq where
 t:A
 c1:Value
 ba:List Nat
def D.Fq.cs (x:Fq):List Value:=[.string x.t.name,x.c1]
def D.Fq.fc (x:Fq):Fc:=⟨x.t,x.c1⟩
theorem D.chunks {L:List Value} {n:Nat} (h:L.length=n * 2):L=(List.range n).flatMap fun j=>(L.drop (j * 2)).take 2:=by
 have key:∀ k,k≤n→L.take (k * 2)=(List.range k).flatMap fun j=>(L.drop (j * 2)).take 2:=by
  intro k
  induction k with
  | zero=>intro _; simp
  | succ k ih=>
   intro y;rw [List.range_succ,List.flatMap_append,← ih (by omega),Nat.add_mul,Nat.one_mul];simp [List.take_add]
 have:=key n ν
 rwa [← h,List.take_length] at this
theorem D.TA {w:World} {L:List Value} {xs:List A} {bs:List Nat} (h:aW 2 aK w L xs bs):∃ zs:List Fq,zs.map (·.t)=xs∧zs.flatMap (·.cs)=L∧zs.flatMap (·.ba)=bs∧∀ z ∈ zs,aK w [.string z.t.name,z.c1] z.t z.ba:=by
 obtain ⟨h1,y,G,rfl,I⟩:=h
 have hex:∀ j:Fin xs.length,∃ s,(L.drop (j.1 * 2)).take 2 = [.string xs[j.1].name,s]:=fun j=>by
  obtain ⟨s,e,_⟩:=I j.1 j.2;exact ⟨s,e⟩
 let f:Fin xs.length→Fq:=fun j=>⟨xs[j.1],Classical.choose (hex j),G j.1⟩
 have hf:∀ j:Fin xs.length,(f j).cs=(L.drop (j.1 * 2)).take 2:=fun j=>(Classical.choose_spec (hex j)).symm
 have hr:∀ (γ:Type) (q:Nat→List γ),(List.finRange xs.length).flatMap (fun j=>q j.1)=(List.range xs.length).flatMap q:=fun γ q=>by
  have e:List.range xs.length=(List.finRange xs.length).map (fun j=>j.1):=by
   apply List.ext_getElem
   ·simp
   ·intro i h1 y
    simp
  rw [e,List.flatMap_map]
 refine ⟨(List.finRange xs.length).map f,?_,?_,?_,fun z J=>?_⟩
 ·apply List.ext_getElem
  ·simp
  ·intro i h1 y
   simp [f]
 ·rw [List.flatMap_map]
  rw [chunks h1]
  conv=>rhs; rw [← hr]
  refine congrArg (fun g=>List.flatMap g (List.finRange xs.length)) (funext fun j=>?_);exact hf j
 ·rw [List.flatMap_map]
  exact hr Nat G
 ·obtain ⟨j,_,rfl⟩:=List.mem_map.1 J
  have:=I j.1 j.2;rw [← hf j] at this;exact this
theorem D.IZ {w:World}:∀ {zs:List Fq},(∀ z ∈ zs,aK w [.string z.t.name,z.c1] z.t z.ba)→aW 2 aK w (zs.flatMap (·.cs)) (zs.map (·.t)) (zs.flatMap (·.ba))
 | [],_=>aW.nil
 | z :: zs,h=>by
  have h1:aW 2 aK w z.cs [z.t] z.ba:=aW.dP fJ (h z Γ);exact h1.append (IZ fun y I=>h y (Δ _ I))
theorem D.XR (zs:List Fq) (k:Nat) (h:k < zs.length):(zs.flatMap (·.cs))[k * 2]? = some (.string zs[k].t.name)∧(zs.flatMap (·.cs))[k * 2+1]? = some zs[k].c1:=by
 induction zs generalizing k with
 | nil=>simp at h
 | cons z zs ih=>
  cases k with
  | zero=>simp [Fq.cs]
  | succ k=>
   have:=ih k (by simpa using h);have y:(k+1) * 2=k * 2+2:=by omega
   have I:(k+1) * 2+1=k * 2+1+2:=by omega
   rw [y,show k * 2+2+1=k * 2+1+2 by omega];simp only [List.flatMap_cons,Fq.cs,List.cons_append,List.nil_append,List.getElem?_cons_succ,List.getElem_cons_succ];exact this
theorem D.Wh (zs:List Fq):(zs.flatMap (·.cs)).length=zs.length * 2:=by
 induction zs with
 | nil=>rfl
 | cons z zs ih=>simp only [List.flatMap_cons,χ,ih,List.length_cons]; simp [Fq.cs]; omega
theorem JR (xs:List A) (v:Value) (L:List Value) (bs:List Nat) (base:Nat) (w:World) (C:bK 2 aK base 33 w v L xs bs) (av:xs.length < 4611686018427387904):
  Calls Tryz.prog 103 #[v,.func (.func 64) #[] #[]] w fun e w'=>e=.returned (.tuple #[])∧
   ∃ ys L' bs',ys.Perm xs∧ys.Pairwise (fun a b=>¬ dh b a < 0)∧bs'.Perm bs∧bK 2 aK base 33 w' v L' ys bs'∧iC (fun x=>v.ownBlock=some x) w w':=by
 obtain ⟨zs,e1,e2,e3,hz⟩:=TA C.row;obtain ⟨hlen,a3⟩:=C.own
 rcases a3 with ⟨rfl,hL⟩ | ⟨g,cap,a9,rfl,hg,hh,aa,ab,ac,ae⟩
 ·have hx:xs = []:=List.length_eq_zero_iff.1 hL
  subst hx;refine (Go.Proofs.AnyF.slices_SortFunc_none Tryz.sortA none 0 (.func (.func 64) #[] #[]) w).mono ?_;rintro e w' ⟨rfl,rfl⟩;exact ⟨rfl,[],L,bs,List.Perm.refl _,List.Pairwise.nil,List.Perm.refl _,C,iC.refl _ _⟩
 ·have af:g < w.heap.size:=ψ hh
  have a4:zs.length=xs.length:=by rw [← e1]; simp
  have a1:∀ z ∈ zs,g ∉ z.ba:=fun z I hm=>C.far g (by rw [← e3]; exact List.mem_flatMap.2 ⟨z,I,hm⟩) rfl
  have a5:∀ q,q < xs.length * 2→w.cell? ⟨g,q,none⟩=L[q]?:=fun q hq=>by
   rw [ai hh,← ae,List.getElem?_take_of_lt hq,Array.getElem?_toList]
  have hm:=GR g cap (zs.map Fq.fc) w af (fun k x hk=>by
   rw [List.getElem?_map] at hk;obtain ⟨z,ag,rfl⟩:=Option.map_eq_some_iff.1 hk;obtain ⟨am,rfl⟩:=List.getElem?_eq_some_iff.1 ag;have:=XR zs k am;rw [e2] at this
   exact ⟨(a5 _ (by omega)).trans this.1,(a5 _ (by omega)).trans this.2⟩) (fun q=>ax hh) (fun x hx=>by
   obtain ⟨z,I,rfl⟩:=List.mem_map.1 hx
   exact ⟨z.ba,hz z I,a1 z I⟩) (by simp; omega)
  rw [List.length_map,a4] at hm;refine hm.mono ?_;rintro e w' ⟨rfl,ys,hp,hs,ao,y,a0⟩;obtain ⟨J,U,rfl⟩:=Tz Fq.fc hp zs rfl;obtain ⟨a6,a7,a8⟩:=a0 a9 _ hh;have a2:J.length=xs.length:=by rw [U.length_eq,a4]
  have aq:∀ z ∈ J,aK w' [.string z.t.name,z.c1] z.t z.ba:=fun z I=>by
   have h1:=hz z (U.mem_iff.1 I);exact au.keep h1 fun b hb=>y.block b (au.lt h1 b hb) (fun e=>a1 z (U.mem_iff.1 I) (e ▸ hb))
  refine ⟨rfl,J.map (·.t),J.flatMap (·.cs),J.flatMap (·.ba),by rw [← e1]; exact U.map _,?_,by rw [← e3]; exact U.flatMap_right _,⟨⟨?_,.inr ⟨g,cap,a6,?_,hg,a7,?_,ab,by rw [a8]; exact ac,?_⟩⟩,IZ aq,fun b hb e=>?_⟩,?_⟩
  ·rw [List.pairwise_map] at hs ⊢
   exact hs
  ·rw [Wh]; simp
  ·rw [List.length_map,a2]
  ·rw [List.length_map,a2]; exact aa
  ·apply List.ext_getElem?
   intro q;by_cases hq:q < xs.length * 2
   ·rw [List.getElem?_take_of_lt (by rw [List.length_map,a2]; exact hq),Array.getElem?_toList,← ai a7]
    have hk:q / 2 < J.length:=by omega
    have h1:=ao (q / 2) (J[q / 2].fc) (by rw [List.getElem?_map,Ψ hk]; rfl);have h2:=XR J (q / 2) hk
    rcases (show q=q / 2 * 2∨q=q / 2 * 2+1 by omega) with e | e
    ·rw [e]
     have e':q / 2 * 2 / 2=q / 2:=by omega
     simp only [e'] at *;exact h1.1.trans h2.1.symm
    ·rw [e]
     have e':(q / 2 * 2+1) / 2=q / 2:=by omega
     simp only [e'] at *;exact h1.2.trans h2.2.symm
   ·rw [List.getElem?_eq_none (by simp; omega),List.getElem?_eq_none (by rw [Wh]; omega)]
  ·obtain ⟨z,I,hb⟩:=List.mem_flatMap.1 hb
   injection e with e
   have e':g=b:=e;exact a1 z (U.mem_iff.1 I) (e' ▸ hb)
  ·exact ⟨y.os,y.tape,y.output,y.size,fun k hk ar=>y.block k hk fun e=>ar (by rw [e]; rfl)⟩
theorem D.PY {y:List A} (hf:∀ t ∈ y,bG t) (hn:y.Nodup) (J:y.Pairwise (fun a b=>¬ dh b a < 0)):gB y=true:=by
 rw [yu];intro i I;have h1:=List.pairwise_iff_getElem.1 J i (i+1) (by omega) I (by omega);have U:=List.pairwise_iff_getElem.1 hn i (i+1) (by omega) I (by omega);by_cases h0:dh y[i] y[i+1]=0
 ·exact absurd (XK (hf _ (δ _)).gr (hf _ (δ _)).gr h0) U
 ·rw [jQ] at h0 h1 ⊢
  have h4:=Jd.anti (tJ y[i+1]) (tJ y[i]);omega
end
section
open Go.RowKit D
attribute [local go_sem ↓] Go.wp_at_zero Go.wp_at_succ
theorem D.XF (w:World):(Instr.makeChan 262 (.int .i64 301)).run Tryz.prog w=.ok (.chan (some w.heap.size)) (w.alloc (.chan 301 #[] false 0 0 false)):=by
 obtain ⟨i,y,hb⟩:∃ i,Tryz.prog.info? 33=some i∧i.bytes=40:=by
  obtain ⟨i,y,_,_,I⟩:=info_parts Qv;exact ⟨i,y,I⟩
 simpa using Go.Conc.run_makeChan (P:=Tryz.prog) (w:=w) Tryz.underlying262 y .i64 301 (by omega) (by rw [hb]; omega)
def D.JS (B sb mu mp:Nat) (Fb:Nat→Prop) (fr:List Nat) (fs:List A) (rn:List Nat) (next:List Ru) (nr B0:Nat) (w:World) (e:Ending) (w':World):Prop:=
 Below B0 w w'∧((∃ new mc n L f,e=.returned (.tuple #[.map (some mc),.bool true])∧new.Nodup∧(∀ t ∈ new,bG t)∧(∀ t,t ∈ new ↔ t ∉ fs∧∃ q ∈ next,lU fs q t)∧fs.length+new.length≤300∧
   jO B sb mu mp Fb fr (fs ++ new) (rn ++ List.replicate new.length nr) w'∧(∀ x ∈ fr,w'.heap[x]? = w.heap[x]?)∧iQ mc n L f w'∧w.heap.size≤mc∧(∀ s,s ∈ L ↔ ∃ t ∈ new,t.name=s)∧∀ s ∈ L,1≤f s∧f s≤1000000) ∨
  (e=.returned (.tuple #[.map none,.bool false])∧∃ new:List A,new.Nodup∧(∀ t ∈ new,t ∉ fs∧∃ q ∈ next,lU fs q t)∧300 < fs.length+new.length))
structure D.Wi (x:rC) (fs:List A) (bst:List Nat) (next:List Ru) (w:World) (k:Nat) (wr:World):Prop where
 ex:∃ told fb,oh x w.heap.size fs bst wr told fb∧∀ t,t ∈ told ↔ ∃ r ∈ next.take k,lU fs r t
 bel:Below w.heap.size w wr
theorem XG {x:XQ} (X:N9 x) {w:World} {k:Nat} (hk:k < x.new.length) {c:Value} {ba:List Nat} {wr:World} (h:sW x w k x.new[k] c ba wr):
  Calls Tryz.prog 112 #[.pointer (some ⟨x.sb,0,none⟩),.agg #[.string x.new[k].name,c],.int .i64 x.nr] (wr.alloc (.cells #[.string x.new[k].name,c] 33)) fun e J=>e=.returned (.tuple #[])∧Below x.B0 wr J∧
   jO x.B x.sb x.mu x.mp x.Fb x.f2 (x.fs ++ x.new.take k ++ [x.new[k]]) (x.rn ++ List.replicate k x.nr ++ [x.nr]) J∧(∀ j ∈ x.f2,J.heap[j]? = wr.heap[j]?)∧J.heap[wr.heap.size]? = some (.cells #[.string x.new[k].name,c] 33 (0,0)):=by
 have U:Below wr.heap.size wr (wr.alloc (.cells #[.string x.new[k].name,c] 33)):=ζ;have h1:=h.later X U;have hs:=h.tV.more U [wr.heap.size] (fun j y=>by simp at y; subst y; exact ⟨ν,by simp⟩);have a0:=h.tV.lt;have a2:=X.few;have I:x.new[k] ∈ x.new:=δ hk;have a1:=X.nd;refine (Xz (fr:=x.f2 ++ [wr.heap.size]) hs h1.at' (fun j y=>Ξ _ (h1.bas j y).1) (fun j y=>(h1.bas j y).2) (fun f hf=>?_) (X.nok _ I) (fun hm=>?_) ?_ ?_ x.nr x.B0 X.b0).mono ?_
 ·rcases μ.1 hf with hf | hf
  ·exact X.fok f hf
  ·exact X.nok f (List.mem_of_mem_take hf)
 ·rcases μ.1 hm with hm | hm
  ·exact X.no _ I hm
  ·obtain ⟨i,hi,e⟩:=List.getElem_of_mem hm
   rw [List.length_take] at hi;rw [List.getElem_take] at e;have:=(List.getElem_inj a1).1 e;omega
 ·rw [χ,List.length_take]; omega
 ·have:=X.rfew
  rw [χ,List.length_replicate]; omega
 ·rintro e J ⟨rfl,hb,hS,hf⟩
  refine ⟨rfl,?_,hS.sub fun j y=>Ξ _ y,fun j y=>(hf j (Ξ _ y)).trans (U.block j (a0.2.2 j y)),(hf _ (Ω _ (ώ.2 rfl))).trans (ω _ _)⟩;have:=X.b0;exact (U.mono (by omega)).trans hb
theorem TB (B sb mu mp:Nat) (Fb:Nat→Prop) (bo:∀ x,B≤x→Fb x) (fr:List Nat) (fs:List A) (rn:List Nat) (next:List Ru) (v:Value) (bn:List Nat) (nr B0:Nat) (w:World) (S:jO B sb mu mp Fb fr fs rn w) (h:fA w [v] next bn)
  (ag:∀ f ∈ fs,bG f) (bp:fs.length≤300) (br:rn.length≤300) (hR:∀ r ∈ next,lD r) (aE:B0≤sb∧B0≤mu∧B0≤mp∧B0≤B):
  Calls Tryz.prog 134 #[.pointer (some ⟨sb,0,none⟩),v,.int .i64 nr] w (JS B sb mu mp Fb fr fs rn next nr B0 w):=by
 obtain ⟨Ad,cap,rfl,aL,aM⟩:=aj h;have c4:=aB (τ aL aM);have HH:=η h;have HS:=η S;clear h S aL aM;have aR:=@run_makeMap Tryz.prog;have bt:=XF
 go_enter Tryz.func134,Tryz.ntmps134
 go_wp2;obtain ⟨a2,am⟩:=HS.out.view;have b1:Hid (Wi (rx w.heap.size sb nr) fs a2 next w 0 (rW w sb nr)):=η ⟨⟨[],_,Tt w sb nr fs rn a2 am bp,fun t=>by simp⟩,N8 w sb nr⟩;have eW:(((((((w.alloc (.cells #[.pointer (some ⟨sb,0,none⟩)] 100)).alloc (.cells #[.int .i64 nr] 3)).alloc (.chan 301 #[] false 0 0 false)).alloc (.cells #[.chan (some (w.heap.size+1+1))] 262)).alloc (.map #[] 0)).alloc (.cells #[.map (some (w.heap.size+1+1+1+1))] 116)).alloc (.cells #[.bool true] 4))=rW w sb nr:=rfl;rw [eW];have bu:Hid (∀ x ∈ a2,x < w.heap.size):=η am.lt;generalize rW w sb nr=W at *;clear eW am
 go_loopw [19] (fun i wr=>∃ k:Nat,k≤next.length∧i=.int .i64 k∧Wi (rx w.heap.size sb nr) fs a2 next w k wr) (fun i _=>next.length - (intOf i).toNat)
 case atStart=>exact ⟨0,ε,rfl,b1.out⟩
 case round=>
  obtain ⟨k,hk,rfl,hI⟩:=hrel;clear b1;by_cases a0:k < next.length
  ·have c5:(0:Int)≤(k:Int):=by omega
   have bv:(k:Int) < (next.length:Int):=by omega
   obtain ⟨⟨told,fb,hF,J⟩,y⟩:=hI;obtain ⟨bq,oq,Ae,ce,Af,cf,bk,rfl,_,f0,f1,f2,b2,ae⟩:=iW (aU.below HH.out y) a0;have hA:Below wr.heap.size wr (wr.alloc (.cells #[.string next[k].head.name,.slice Ae next[k].head.args.length ce,.slice Af next[k].body.length cf] 40)):=ζ;have ao:=hF.keep (fun x hx=>hA.block x (hF.lt x hx)) hA.size;obtain ⟨bw,b4⟩:=ao.st
   have U:=PV sb fs bw a2 next[k] (.string next[k].head.name) (.slice Ae next[k].head.args.length ce) (.slice Af next[k].body.length cf) bk (Tm (rx w.heap.size sb nr) w.heap.size fs a2 ag) told fb _ b4 ag (by omega) (bI.below b2 hA) (hR _ (δ a0)) ao (fun x hx e=>(hF.tV x hx).2 (by rcases e with rfl | rfl | rfl <;> simp [rC.own])) (fun x hx e=>by
    have h1:=aU.lt HH.out x (ae x hx)
    rcases e with rfl | rfl | rfl <;> (simp only [rx] at h1; omega))
   have HN:Hid (∀ w9 ts a7 more,V8 (rx w.heap.size sb nr) w.heap.size fs a2 more w9 (told ++ ts) a7→iC (rx w.heap.size sb nr).K (wr.alloc (.cells #[.string next[k].head.name,.slice Ae next[k].head.args.length ce,.slice Af next[k].body.length cf] 40)) w9→(∀ t ∈ ts,lU fs next[k] t)→(more=true→∀ t,lU fs next[k] t→t ∈ ts)→(more=false→V3 fs (told ++ ts)=false)→
     w9.cell? ⟨w.heap.size+1+1+1+1+1+1,0,none⟩=some (.bool more)∧(more=true→Wi (rx w.heap.size sb nr) fs a2 next w (k+1) w9)∧(more=false→JS B sb mu mp Fb fr fs rn next nr B0 w (.returned (.tuple #[.map none,.bool false])) w9)):=η fun w9 ts a7 more q1 q3 q4 q5 q6=>by
    have hz:=y.size;have b5:Below w.heap.size w w9:=⟨q3.os.trans (hA.os.trans y.os),q3.tape.trans (hA.tape.trans y.tape),q3.output.trans (hA.output.trans y.output),τ hz (τ hA.size q3.size),fun x hx=>(q3.block x (by have:=hA.size; omega) (fun e=>by rcases e with e | e | e <;> (simp only [rx] at e; omega))).trans ((hA.block x (by omega)).trans (y.block x hx))⟩;refine ⟨?_,fun hm=>?_,fun hm=>?_⟩
    ·cases more with
     | true=>exact ai (oh.cF q1)
     | false=>exact ai (sV.cF q1)
    ·subst hm
     refine ⟨⟨told ++ ts,a7,q1,fun t=>?_⟩,b5⟩;rw [μ,J,V9 a0];exact or_congr Iff.rfl ⟨q4 t,q5 rfl t⟩
    ·subst hm
     have hg:=Td (q6 rfl);have hn:=qZ fs (told ++ ts);refine ⟨b5.mono (by have:=HS.out.lt; omega),.inr ⟨rfl,newL fs (told ++ ts),hn.1,fun t ht=>?_,hg⟩⟩;obtain ⟨h1,h2⟩:=(hn.2 t).1 ht;refine ⟨h2,?_⟩
     rcases μ.1 h1 with h1 | h1
     ·obtain ⟨r,hr,hf⟩:=(J t).1 h1
      exact ⟨r,List.mem_of_mem_take hr,hf⟩
     ·exact ⟨next[k],δ a0,q4 t h1⟩
   have y0:wr.cell? ⟨w.heap.size,0,none⟩=some (.pointer (some ⟨sb,0,none⟩)):=ai hF.cS;have c6:w.heap.size < wr.heap.size:=hF.lt _ (hF.ow _ (by show _ ∈ [_,_,_,_,_,_,_]; simp [rx]));have a8:=η a0;clear hF J ao b4 y hA b2 ae hk;generalize next[k]=r at *;obtain ⟨⟨c7,ra⟩,rb⟩:=r;dsimp only at *;clear a0;unfold rx rC.wU at U
   go_wp2_with fail
   refine U.mono ?_;rintro e w9 ⟨rfl,ts,a7,more,q1,q2,q3,q4,q5,q6⟩;obtain ⟨y1,b6,b7⟩:=HN.out w9 ts a7 more q1 q3 q4 q5 q6;have aq:=η b6;have ar:=η b7;clear U HN q1 q2 q3 q4 q5 q6 b6 b7
   cases more with
   | false=>
    have HP:=η (ar.out rfl);clear aq ar;go_wp2;go_ret2;exact HP.out
   | true=>
    have HI:=η (aq.out rfl);clear aq ar;go_wp2;go_roundw
    case rel=>exact ⟨k+1,a8.out,by go_num,HI.out⟩
    case measure=>have:=a8.out; simp [intOf]; omega
  ·have he:k=next.length:=by omega
   have bv:¬ (k:Int) < (next.length:Int):=by omega
   obtain ⟨⟨told,fb,hF,J⟩,y⟩:=hI;rw [ϕ (Nat.le_of_eq he.symm)] at J;obtain ⟨vs,sd,bb,a1,a9,b8⟩:=hF.cH;have b9:w.heap.size < wr.heap.size:=hF.lt _ (hF.ow _ (by show _ ∈ [_,_,_,_,_,_,_]; simp [rx]));have y0:wr.cell? ⟨w.heap.size+1+1+1,0,none⟩=some (.chan (some (w.heap.size+1+1))):=ai hF.cC;have bc:Hid (∀ t,t ∈ newL fs told ↔ t ∉ fs∧∃ q ∈ next,lU fs q t):=η fun t=>by rw [(qZ fs told).2,J]; exact And.comm
   have HX:=η (Yz (sd:=sd) (B0:=B0) (bb:=bb) HS.out hF b9 rfl aE ag br);have HI:=η (Tv (sd:=sd) bo HS.out hF y aE a1 a9 b8);have bx:∀ av ty,(Builtin.close_ av ty #[.chan (some (w.heap.size+1+1))]).run Tryz.prog wr=.ok (.tuple #[]) (wr.setChan (w.heap.size+1+1) 301 ⟨vs⟩ true sd 0 false):=fun av ty=>run_close_open av ty a1
   have aw:(wr.setChan (w.heap.size+1+1) 301 ⟨vs⟩ true sd 0 false).heap.size=wr.heap.size:=by simp [World.setChan]
   have af:=aR 116 (wr.setChan (w.heap.size+1+1) 301 ⟨vs⟩ true sd 0 false);rw [aw] at af;have bf:w.heap.size+1+1+1 < wr.heap.size:=lt_of_cell y0
   have y1:((wr.setChan (w.heap.size+1+1) 301 ⟨vs⟩ true sd 0 false).alloc (.map #[] 0)).cell? ⟨w.heap.size+1+1+1,0,none⟩=some (.chan (some (w.heap.size+1+1))):=by
    refine (World.cell?_of_block ?_).trans y0;show (World.alloc _ _).heap[w.heap.size+1+1+1]? = _;rw [Below.heap_alloc _ _ _ (by rw [aw]; exact bf)];simp only [World.setChan];rw [Array.getElem?_setIfInBounds_ne (by omega)]
   have az:w.heap.size≤wr.heap.size:=y.size;clear hF J a9 b8 a1 aR bt y bu;go_wp2;clear bx y0 aw bf;generalize (wr.setChan (w.heap.size+1+1) 301 ⟨vs⟩ true sd 0 false).alloc (.map #[] 0)=W2 at *;clear af;have bz:=η az;generalize wr.heap.size=mc at *;clear b9
   go_loopg [34] (newL fs told).length (fun gg _ bA=>∃ I:Nat,I≤(newL fs told).length∧(newL fs told).length - I≤gg∧Aside (Gf (rcv B sb mu mp nr B0 w.heap.size mc sd Fb fr bb fs rn (newL fs told)) w I bA))
   case atStart=>exact ⟨0,ε,by omega,HI.out⟩
   case round=>
    obtain ⟨I,c8,hg,hI⟩:=hrel;clear HI y1;by_cases a0:I < (newL fs told).length
    ·obtain ⟨c,a4,ba,a1,hM⟩:=Gf.recv HX.out hI.out a0
     have a3:wr.heap[w.heap.size+1+1]? = some (.chan 301 ⟨.agg #[.string (newL fs told)[I].name,c] :: a4⟩ true sd I false):=a1;have a6:sW (rcv B sb mu mp nr B0 w.heap.size mc sd Fb fr bb fs rn (newL fs told)) w I (newL fs told)[I] c ba (wr.setChan (w.heap.size+1+1) 301 ⟨a4⟩ true sd (I+1) false):=hM;have hex:(⟨.agg #[.string (newL fs told)[I].name,c] :: a4⟩:Array Value).extract 1 (⟨.agg #[.string (newL fs told)[I].name,c] :: a4⟩:Array Value).size=⟨a4⟩:=by simp
     clear hM a1
     go_upto_region 14 with fail
     refine xw ?_;refine Uu (i:=0) (w':=wr) (ok:=true) (z:=.agg #[.string ⟨#[]⟩,.slice none 0 0]) (by rfl) (by rfl) (by go_simp; rfl) a3 (by simp) ?_;rw [hex];refine vO (i:=1) (by rfl) (by rfl) (v:=.bool true) (w':=wr.setChan (w.heap.size+1+1) 301 ⟨a4⟩ true sd (I+1) false) (by simp [Go.Conc.got]; go_simp) ?_;refine Jg (show Exit.then _ _ Exit.normal _ _ from ?_);generalize wr.setChan (w.heap.size+1+1) 301 ⟨a4⟩ true sd (I+1) false=W3 at *;clear hex a3;obtain ⟨Ae,ce,_,rfl⟩:=bY a6.at';have z0:W3.cell? ⟨w.heap.size,0,none⟩=some (.pointer (some ⟨sb,0,none⟩)):=ai a6.cS;have z1:W3.cell? ⟨w.heap.size+1,0,none⟩=some (.int .i64 nr):=ai a6.cN;have bB:=lt_of_cell z0;have bE:=lt_of_cell z1;have U:=XG HX.out a0 a6;have ab:=η a6;clear a6;simp only [Go.Conc.got,if_true]
     go_wp2_with fail
     refine U.mono ?_;rintro e w5 ⟨rfl,q1,q2,q3,q4⟩;obtain ⟨n,L,f,m1,m2,m3,m4⟩:=ab.out.cam;have bg:Hid (iQ mc n L f w5):=η (m1.same (q3 _ HX.out.mM));obtain ⟨v,hv⟩:∃ v,(if (newL fs told)[I].name ∈ L then f (newL fs told)[I].name else 0)=v:=⟨_,rfl⟩;have a5:=HX.out.few;have c9:I≤300:=by have:fs.length+(newL fs told).length≤300:=a5; omega
     have ca:0≤v:=by
      rw [← hv]
      split
      ·rename_i hm; have:=m4 _ hm; omega
      ·omega
     have cb:v≤300:=by
      rw [← hv]
      split
      ·rename_i hm; have:=m4 _ hm; omega
      ·omega
     have bh:Hid (∀ w6,iQ mc (n+1) (ig L (newL fs told)[I].name) (fun t=>if t=(newL fs told)[I].name then v+1 else f t) w6→w5.grownBy w6 (some mc)→Gf (rcv B sb mu mp nr B0 w.heap.size mc sd Fb fr bb fs rn (newL fs told)) w (I+1) w6):=η fun w6 h6 ac=>sW.done HX.out a0 ab.out q1 q2 q3 (by rw [← hv] at h6; exact h6) ac m2 m3 m4
     have bi:Hid ((newL fs told)[I].name.size≤maxLen):=η (by obtain ⟨_,_,hs,_⟩:=ab.out.at'; exact hs);have z5:w5.cell? ⟨W3.heap.size,0,none⟩=some (.string (newL fs told)[I].name):=ai q4;have cc:=lt_of_cell z5;have HV:=η hv;have a8:=η a0;have bL:n < maxLen:=by unfold maxLen; omega
     clear q1 q2 q3 q4 m1 m2 m3 m4 U ab a5 hv z0 z1 bB bE hI;generalize (newL fs told)[I]=a at *;clear a0
     go_wp2_with (first | (at_lookup; refine uK _ rfl _ _ _ rfl Tryz.underlying116 _ _ L _ rfl bg.out a.name rfl bi.out v HV.out ?_) | (at_mapUpdate; refine lC _ rfl _ _ _ _ rfl Tryz.underlying116 _ _ L _ rfl bg.out a.name rfl bi.out (v+1) rfl bL (by omega) ?_; intro w6 bj ac))
     have bO:=η (bh.out w6 bj ac);clear bj ac bh
     go_roundg ((newL fs told).length - (I+1))
     case measure=>have:=a8.out; omega
     case rel=>exact ⟨I+1,a8.out,ν,bO.out⟩
    ·have bR:I=(newL fs told).length:=by omega
     obtain ⟨aD,b3,a1,a9,_⟩:=hI.out.chn;have aa:JW wr aD ((newL fs told).drop I) b3:=a9;rw [List.drop_of_length_le (by omega)] at aa
     have bX:aD = []:=by
      cases aD with
      | nil=>rfl
      | cons v vs=>exact aa.elim
     subst bX;have a3:wr.heap[w.heap.size+1+1]? = some (.chan 301 #[] true sd I false):=a1
     have HP:Hid (JS B sb mu mp Fb fr fs rn next nr B0 w (.returned (.tuple #[.map (some mc),.bool true])) wr):=η (by
      have h:=hI.out;have hX:=HX.out;have hn:=qZ fs told;obtain ⟨n,L,f,m1,m2,m3,m4⟩:=h.cam;have et:(newL fs told).take I=newL fs told:=ϕ (by omega);have hs:jO B sb mu mp (fun k=>Fb k∧k ≠ w.heap.size+2∧k ≠ mc) (fr ++ ([w.heap.size,w.heap.size+1,w.heap.size+2,mc] ++ bb)) (fs ++ (newL fs told).take I) (rn ++ List.replicate I nr) wr:=h.tV;have bl:∀ s,s ∈ L ↔ ∃ t ∈ (newL fs told).take I,t.name=s:=m3;have a5:fs.length+(newL fs told).length≤300:=hX.few;rw [et] at hs bl;rw [bR] at hs;refine ⟨h.bel,.inl ⟨newL fs told,mc,n,L,f,rfl,hn.1,fun t ht=>hX.nok t ht,bc.out,a5,(hs.mono fun x hx _=>hx.1).sub fun x hx=>Ξ _ hx,h.kep,m1,bz.out,bl,fun s c3=>?_⟩⟩;have:=m4 s c3
      omega)
     clear hI a9 aa a1 HX bc
     go_upto_region 14 with fail
     refine xw ?_;refine Uw (i:=0) (w':=wr) (ok:=true) (z:=.agg #[.string ⟨#[]⟩,.slice none 0 0]) (by rfl) (by rfl) (by go_simp; rfl) a3 ?_;refine vO (i:=1) (by rfl) (by rfl) (v:=.bool false) (w':=wr) (by simp [Go.Conc.got]; go_simp) ?_;refine Jg (show Exit.then _ _ Exit.normal _ _ from ?_);simp only [Go.Conc.got,if_true];clear a3;go_wp2;go_ret2;exact HP.out
theorem D.YA (rs:List Ru) (xs:List A):fK rs xs=(decide (xs.length≤40) && jT rs xs):=by
 unfold fK jT okB aN;by_cases h1:xs.length≤40
 ·have y:xs.length≤300:=by omega
  rw [decide_eq_true h1,decide_eq_true y];simp
 ·rw [decide_eq_false h1]
  simp
theorem vG (rs:List Ru) (xs:List A) (I J:Value) (b1 b2:List Nat) (w:World) (h:fA w [I] rs b1) (U:ay w [J] xs b2) (hg:qw w):
  Calls Tryz.prog 75 #[I,J] w fun e w'=>e=.returned (.bool (fK rs xs))∧Below w.heap.size w w':=by
 have c1:=GK rs xs I J b1 b2 w h U hg;have HE:=η (YA rs xs);obtain ⟨a1,cap2,rfl,_,_⟩:=aj U;clear h U hg;generalize jT rs xs=q at *;by_cases hl:(xs.length:Int)≤40
 ·have y:Hid (q=fK rs xs):=η (by rw [HE.out,decide_eq_true (by omega)]; simp)
  go_enter Tryz.func75,Tryz.ntmps75
  go_wp2_with (go_at_call 19; refine c1.mono ?_; rintro e w1 ⟨rfl,a0⟩)
  go_ret;exact ⟨aH y.out,a0⟩
 ·have y:Hid (false=fK rs xs):=η (by rw [HE.out,decide_eq_false (by omega)]; simp)
  go_enter Tryz.func75,Tryz.ntmps75
  go_wp2;go_ret;exact ⟨aH y.out,(Below.refl w.heap.size w)⟩
structure D.Bz (w:World) (b1:List Nat) (v:Value) (L:List Value) (xs:List Ru) (wr:World):Prop where
 coll:∃ bs,bK 3 iD (w.heap.size+1) 40 wr v L xs bs∧∀ b ∈ bs,b ∈ b1
 bel:Below w.heap.size w wr
theorem D.Bz.below {w wr w':World} {y:List Nat} {v:Value} {L:List Value} {xs:List Ru} (h:Bz w y v L xs wr) (hb:Below wr.heap.size wr w'):Bz w y v L xs w':=
 ⟨by obtain ⟨bs,hc,h1⟩:=h.coll; exact ⟨bs,hc.below bI hb,h1⟩,h.bel.trans (hb.mono h.bel.size)⟩
def D.Wj (rs:List Ru) (L:Nat):List Ru:=rs.filter fun r=>decide (ja rs r.head.name=L)
theorem D.Wl (rs:List Ru) (L:Nat):OwnAt rs L (Wj rs L):=fun r=>by unfold Wj; rw [List.mem_filter,decide_eq_true_iff]
theorem D.XH {rs:List Ru} (H:x9 rs) {k:Nat} (I:k < rs.length) (y:k < (aA rs).length):(aA rs)[k]=ja rs rs[k].head.name:=by
 have J:=(pO H.cyc).2 k I;have U:eH rs k=rs[k]:=by unfold eH; simp [List.getD,I]
 have e2:jb (aA rs) k=(aA rs)[k]:=by unfold jb; simp [List.getD,y]
 rw [← e2,J,U]
structure D.XI (rs:List Ru) (xs:List A) (L z:Nat) (own:List Ru) (fr:List Nat) (w W:World) (next:List Ru) (fs:List A) (rn:List Nat) (number:Nat) (wr:World):Prop where
 mid:ru rs xs L own next fs rn number
 sub:∀ q ∈ next,q ∈ own
 tV:jO (z+3) (z+2) z (z+1) (fun _=>True) fr fs rn wr
 bel:Below w.heap.size w wr
 kep:∀ x ∈ fr,wr.heap[x]? = W.heap[x]?
theorem D.Wn {own:List Ru} {new:List A} {y:List ByteArray} (h:∀ s,s ∈ y ↔ ∃ t ∈ new,t.name=s):(own.filter fun r=>r.body.any (mF y))=PW own new:=by
 classical
 unfold PW;refine List.filter_congr fun q _=>?_
 refine congrArg (fun f=>q.body.any f) (funext fun p=>?_);unfold mF;rw [decide_eq_decide.2 (h p.atom.name)]
theorem D.Gg {own:List Ru} {y:List ByteArray} (h:y = []):(own.filter fun r=>r.body.any (mF y)) = []:=by
 subst h;rw [List.filter_eq_nil_iff];intro q _ hq;obtain ⟨p,_,I⟩:=List.any_eq_true.1 hq;unfold mF at I;simp at I
def D.D9 (rs:List Ru) (xs:List A) (w:World) (e:Ending) (w':World):Prop:=
 Below w.heap.size w w'∧((fK rs xs=true∧(iO rs xs).2=true∧∃ z fr fs rn,w.heap.size≤z∧e=.returned (.tuple #[.pointer (some ⟨z+2,0,none⟩),.bool true])∧jO (z+3) (z+2) z (z+1) (fun _=>True) fr fs rn w'∧XP fs rn (iO rs xs).1∧(∀ x ∈ fs,bG x)∧fs.length≤300) ∨
  ((fK rs xs=true→(iO rs xs).2=false)∧e=.returned (.tuple #[.pointer none,.bool false])))
theorem JU (rs:List Ru) (xs:List A) (v1 v2:Value) (b1 b2:List Nat) (w:World) (h:fA w [v1] rs b1) (h2:ay w [v2] xs b2) (hg:qw w):
  Calls Tryz.prog 72 #[v1,v2] w (D9 rs xs w):=by
 have c1:=vG rs xs v1 v2 b1 b2 w h h2 hg;obtain ⟨Ad,cap,rfl,cg,ci⟩:=aj h;obtain ⟨e2,cap2,rfl,_,_⟩:=aj h2;have dE:=aB (τ cg ci);have HH:=η (ι h h2);obtain ⟨i0,hi,cP,cQ,cT⟩:=info_parts IA;clear h h2 hg cg ci
 cases hf:fK rs xs with
 | false=>
  have HP:Hid (∀ w',Below w.heap.size w w'→D9 rs xs w (.returned (.tuple #[.pointer none,.bool false])) w'):=η fun w' hb=>⟨hb,.inr ⟨Φ hf,rfl⟩⟩
  rw [hf] at c1;clear hf
  go_enter Tryz.func72,Tryz.ntmps72
  go_wp2_with fail
  refine c1.mono ?_;rintro e w1 ⟨rfl,aD⟩;have HB:=η aD;clear c1 aD;go_wp2;go_ret2;exact HP.out _ HB.out
 | true=>
  have hK:=nG hf;have HF:=η hf;rw [hf] at c1;clear hf
  go_enter Tryz.func72,Tryz.ntmps72
  go_wp2_with fail
  refine c1.mono ?_;rintro e w1 ⟨rfl,aD⟩;have ao:=η aD;clear c1 aD;have hR:=VU ((qN rs).2 hK.fine);have aE:∀ f ∈ xs,bG f:=fun f hf=>Bl (hK.facts f hf)
  have c2:=NM xs _ b2 w1 (ak.below HH.out.2 ao.out) aE (jV hK.gB) (by have:=hK.n; omega)
  go_wp2_with fail
  refine c2.mono ?_;rintro e w2 ⟨rfl,hS⟩;obtain ⟨cj,ck⟩:=hS.tV (fun x hx=>κ (ak.lt HH.out.2 x hx) ao.out.size);have bp:=η (ao.out.trans (cj.mono ao.out.size));have cl:=η ck;clear hS ck cj c2;have c3:=zh rs _ b1 w2 (aU.below HH.out.1 bp.out) hK.m hK.ok
  go_wp2_with fail
  refine c3.mono ?_;rintro e w3 ⟨bE,a9⟩;clear c3
  rcases a9 with ⟨bz,_⟩ | ⟨_,v5,b5,rfl,aL,aM⟩
  ·have:=hK.fine.no
   rw [this] at bz; cases bz
  ·obtain ⟨A5,c5,rfl,_,_⟩:=aj aL
   have a1:jO (w1.heap.size+3) (w1.heap.size+2) w1.heap.size (w1.heap.size+1) (fun _=>True) b5 xs (List.replicate xs.length 0) w3:=by
    have:=(cl.out.mono (Fb':=fun _=>True) fun _ _ _=>trivial).more bE b5 fun x hx=>⟨(aM.own x hx).1,aM.lt hx⟩
    simpa using this
   have cm:Hid (rq rs xs 0 xs (List.replicate xs.length 0) 0):=η (all_start hK.gB aE (by have:=hK.n; omega));have cn:=η a1;have co:=η (bp.out.trans (bE.mono bp.out.size));have cq:=η aL;have cU:Hid ((aA rs).length=rs.length):=η (gU rs);clear a1 aL aM bE cl;have aq:=η hR;have HK:=η hK;have cr:=η ao.out.size;have cV:rs.length≤8:=hK.m;clear aE hR hK;go_wp2;generalize w1.heap.size=z at *;clear ao bp
   go_loopw [9,30] (fun v9 i wr=>∃ (L:Nat) (fs:List A) (rn:List Nat) (number:Nat),L≤rs.length∧i=.int .i64 L∧v9=.int .i64 number∧rq rs xs L fs rn number∧jO (z+3) (z+2) z (z+1) (fun _=>True) b5 fs rn wr∧Below w.heap.size w wr∧∀ x ∈ b5,wr.heap[x]? = w3.heap[x]?) (fun _ i _=>rs.length - (intOf i).toNat)
   case atStart=>exact ⟨0,xs,_,0,ε,rfl,rfl,cm.out,cn.out,co.out,fun x _=>rfl⟩
   case round=>
    obtain ⟨L,fs,rn,number,hL,rfl,rfl,a6,a1,af,aR⟩:=hrel;clear cm cn co;have cW:=η a6;have b3:=η a1;have b4:=η af;have bA:=η aR;by_cases a7:L < rs.length
    ·have cu:Hid (Bz wr b1 (.slice none 0 0) [] [] wr):=η ⟨⟨[],bK.nil _,fun b hb=>by simp at hb⟩,ϑ⟩
     have e3:(0:Int)≤(L:Int):=by omega
     have cX:(L:Int) < (rs.length:Int):=by omega
     have b8:=η a7;clear a6 a1 af aR;obtain ⟨W0,cY⟩:∃ W0,W0=wr:=⟨_,rfl⟩;subst cY;go_wp2
     go_loopw [11,35] (fun v i d3=>∃ (k:Nat) (Av:Option Addr) (cp:Nat) (M:List Value) (ys:List Ru),k≤rs.length∧i=.int .i64 k∧v=.slice Av ys.length cp∧ys=(rs.take k).filter (fun r=>decide (ja rs r.head.name=L))∧Bz W0 b1 (.slice Av ys.length cp) M ys d3) (fun _ i _=>rs.length - (intOf i).toNat)
     case atStart=>exact ⟨0,none,0,[],[],ε,rfl,rfl,rfl,cu.out⟩
     case round=>
      obtain ⟨k,Av,cp,M,ys,hk,rfl,rfl,bL,hV⟩:=hrel;clear cu;have HY:=η bL
      have bO:Hid (ys.length≤1000000):=η (by
       rw [bL];refine τ (List.length_filter_le _ _) ?_
       rw [List.length_take]; omega)
      clear bL;have hB:=b4.out.trans (hV.bel.mono b4.out.size);by_cases a7:k < rs.length
      ·obtain ⟨b,o,Ae,ce,Af,cf,bk,rfl,_,d0,d1,d2,bR,bB⟩:=iW HH.out.1 a7
       replace d0:=ξ hB d0;replace d1:=ξ hB d1;replace d2:=ξ hB d2;have aa:k < (aA rs).length:=by rw [cU.out]; exact a7
       obtain ⟨b7,o7,rfl,cv,e7⟩:=qP cq.out aa;have e8:wr.cell? ⟨b7,o7+k,none⟩=some (.int .i64 ((aA rs)[k]:Nat)):=(World.cell?_of_block ((hV.bel.block b7 (b3.out.lt.2.2 _ cv)).trans (bA.out _ cv))).trans e7;have e4:(0:Int)≤(k:Int):=by omega
       have d4:(k:Int) < (rs.length:Int):=by omega
       have e5:(k:Int) < ((aA rs).length:Int):=by omega
       have bq:=XH aq.out a7 aa;have hA:Below wr.heap.size wr (wr.alloc (.cells #[.string rs[k].head.name,.slice Ae rs[k].head.args.length ce,.slice Af rs[k].body.length cf] 40)):=ζ;have bX:=η (hV.below hA);have d5:=η (bI.below (bI.below bR hB) hA);have cw:=η (CS (fun r:Ru=>decide (ja rs r.head.name=L)) rs k a7);have d6:Hid (∀ c ∈ bk,c < W0.heap.size):=η fun c hc=>κ (bI.lt bR c hc) b4.out.size
       have cx:=η bB;have e6:W0.heap.size≤wr.heap.size:=hV.bel.size;have e9:=lt_of_cell e8;clear bR bB hV hA hB e7;generalize (aA rs)[k]=lv at *;generalize rs[k]=r at *;obtain ⟨⟨nm,args⟩,body⟩:=r;dsimp only at *;have ag:=η a7;clear a7 aa;by_cases hq:lv=L
       ·have d7:((lv:Int) == (L:Int))=true:=beq_iff_eq.2 (by omega)
        have HQ:Hid ((rs.take (k+1)).filter (fun r=>decide (ja rs r.head.name=L))=ys ++ [(⟨⟨nm,args⟩,body⟩:Ru)]):=η (by rw [cw.out,HY.out,if_pos (by simp [← bq,hq])]);have br:Below (wr.alloc (.cells #[.string nm,.slice Ae args.length ce,.slice Af body.length cf] 40)).heap.size (wr.alloc (.cells #[.string nm,.slice Ae args.length ce,.slice Af body.length cf] 40)) ((wr.alloc (.cells #[.string nm,.slice Ae args.length ce,.slice Af body.length cf] 40)).alloc (.cells #[.string nm,.slice Ae args.length ce,.slice Af body.length cf] 40)):=ζ;obtain ⟨d8,ar,b9⟩:=(bX.out.below br).coll;have HC:=η ar;have d9:=η b9;have HB:=η (bX.out.below br).bel;have HR:Hid (aW 3 iD ((wr.alloc (.cells #[.string nm,.slice Ae args.length ce,.slice Af body.length cf] 40)).alloc (.cells #[.string nm,.slice Ae args.length ce,.slice Af body.length cf] 40)) [.string nm,.slice Ae args.length ce,.slice Af body.length cf] [(⟨⟨nm,args⟩,body⟩:Ru)] bk):=η (aW.dP pF (bI.below d5.out br))
        have HL:Hid (Lies ((wr.alloc (.cells #[.string nm,.slice Ae args.length ce,.slice Af body.length cf] 40)).alloc (.cells #[.string nm,.slice Ae args.length ce,.slice Af body.length cf] 40)) (some ⟨wr.heap.size+1,0,none⟩) [.string nm,.slice Ae args.length ce,.slice Af body.length cf]):=η (by
         have:=aV (ω (wr.alloc (.cells #[.string nm,.slice Ae args.length ce,.slice Af body.length cf] 40)) (.cells #[.string nm,.slice Ae args.length ce,.slice Af body.length cf] 40))
         simpa using this)
        have HF:Hid (∀ c,c < W0.heap.size+1→(Value.slice Av ys.length cp).ownBlock ≠ some c):=η fun c hc=>aS ar.own hc
        have bc:W0.heap.size+1≤((wr.alloc (.cells #[.string nm,.slice Ae args.length ce,.slice Af body.length cf] 40)).alloc (.cells #[.string nm,.slice Ae args.length ce,.slice Af body.length cf] 40)).heap.size:=by simp; omega
        have da:=η bc;clear ar b9 br bc bq hq
        go_wp2_with (at_builtin; refine dG rfl _ _ _ rfl (W0.heap.size+1) 40 i0 (.agg #[.string ⟨#[]⟩,.slice none 0 0,.slice none 0 0]) 3 64 Tryz.underlying23 hi cP cQ cT rfl (by omega) bI (.slice Av ys.length cp) ys.length _ _ _ rfl HC.out rfl (some ⟨wr.heap.size+1,0,none⟩) 1 1 _ [⟨⟨nm,args⟩,body⟩] _ rfl HR.out rfl HL.out (fun c hc=>HF.out c (by have:=d6.out c hc; omega)) (by have:=bO.out; unfold maxLen; omega) (by have:=bO.out; omega) W0 W0.heap.size HB.out (Nat.le_succ _) da.out ?_; intro A9 db w9 cy cz dc de)
        have dg:Hid (Bz W0 b1 (.slice A9 (ys ++ [(⟨⟨nm,args⟩,body⟩:Ru)]).length db) (M ++ [.string nm,.slice Ae args.length ce,.slice Af body.length cf]) (ys ++ [(⟨⟨nm,args⟩,body⟩:Ru)]) w9):=η ⟨⟨_,by rw [χ]; exact cy,fun b hb=>(μ.1 hb).elim (d9.out b) (cx.out b)⟩,cz⟩;have cA:ys.length+1=(ys ++ [(⟨⟨nm,args⟩,body⟩:Ru)]).length:=by simp
        rw [cA];clear cy cz dc de HC HB HR HL HF cA;go_roundw
        case rel=>exact ⟨k+1,_,_,_,_,ag.out,by go_num,rfl,HQ.out.symm,dg.out⟩
        case measure=>have:=ag.out; simp [intOf]; omega
       ·have d7:((lv:Int) == (L:Int))=false:=by
         rw [beq_eq_false_iff_ne]; omega
        have HQ:Hid ((rs.take (k+1)).filter (fun r=>decide (ja rs r.head.name=L))=ys):=η (by rw [cw.out,HY.out,if_neg (by simp [← bq,hq])]);clear bq hq;go_wp2;go_roundw
        case rel=>exact ⟨k+1,_,_,_,_,ag.out,by go_num,rfl,HQ.out.symm,bX.out⟩
        case measure=>have:=ag.out; simp [intOf]; omega
      ·have di:k=rs.length:=by omega
       have d4:¬ (k:Int) < (rs.length:Int):=by omega
       have cB:Hid (ys=Wj rs L):=η (by rw [HY.out,ϕ (Nat.le_of_eq di.symm)]; rfl);obtain ⟨d8,ar,b9⟩:=hV.coll;obtain ⟨b6,bt,y⟩:=ar.slice;obtain ⟨a0,bu⟩:∃ a0,a0=b5 ++ b6.filter (fun b=>decide (W0.heap.size≤b)):=⟨_,rfl⟩
       have bf:jO (z+3) (z+2) z (z+1) (fun _=>True) a0 fs rn wr:=bu ▸ b3.out.more hV.bel _ fun x hx=>by
        obtain ⟨h1,h2⟩:=List.mem_filter.1 hx;exact ⟨of_decide_eq_true h2,aU.lt bt x h1⟩
       have cD:Hid (∀ w',Below w.heap.size w w'→(∀ x ∈ a0,w'.heap[x]? = wr.heap[x]?)→fA w' [.slice Av ys.length cp] ys b6):=η fun w' h1 h2=>aU.keep bt fun b hb=>by
        by_cases dj:W0.heap.size≤b
        ·exact h2 b (bu ▸ Ω _ (List.mem_filter.2 ⟨hb,decide_eq_true dj⟩))
        ·rcases y b hb with h3 | h3
         ·omega
         ·have h4:=aU.lt HH.out.1 b (b9 b h3)
          exact (h1.block b h4).trans (hB.block b h4).symm
       have cE:Hid (∀ x ∈ b5,x ∈ a0):=η fun x hx=>bu ▸ Ξ _ hx
       have dk:Hid (∀ x ∈ b5,wr.heap[x]? = w3.heap[x]?):=η fun x hx=>(hV.bel.block x (b3.out.lt.2.2 x hx)).trans (bA.out x hx)
       have ea:=η hB;have a2:ru rs xs L ys ys fs rn number:=cW.out.enter;have cG:Hid (XI rs xs L z ys a0 w wr ys fs rn number wr):=η ⟨a2,fun q hq=>hq,bf,hB,fun x _=>rfl⟩;have cI:Hid (fA wr [.slice Av ys.length cp] ys b6):=η bt;clear hV ar bt y bu bf hB a2 HY b9;obtain ⟨W9,dl⟩:∃ W9,W9=wr:=⟨_,rfl⟩;subst dl;go_wp2
       go_loopg [9,14] 1000 (fun gg v9 dp cJ=>∃ (next:List Ru) (c4:Option Addr) (c6:Nat) (c7:List Nat) (I:List A) (a4:List Nat) (J:Nat),v9=.int .i64 J∧dp=.slice c4 next.length c6∧2 * (300 - I.length)+(if next = [] then 0 else 1)≤gg∧Aside (XI rs xs L z ys a0 w W9 next I a4 J cJ)∧Aside (fA cJ [.slice c4 next.length c6] next c7))
       case atStart=>exact ⟨ys,Av,cp,b6,fs,rn,number,rfl,rfl,by split <;> omega,cG.out,cI.out⟩
       case round=>
        obtain ⟨next,c4,c6,c7,I,a4,J,rfl,rfl,bv,a5,c8⟩:=hrel;clear cG cI;by_cases bg:next = []
        ·subst bg
         have HD:Hid (rq rs xs (L+1) I a4 J∧jO (z+3) (z+2) z (z+1) (fun _=>True) b5 I a4 wr∧Below w.heap.size w wr∧∀ x ∈ b5,wr.heap[x]? = w3.heap[x]?):=η ⟨a5.out.mid.done aq.out (Nat.le_of_lt b8.out) (cB.out ▸ Wl rs L),a5.out.tV.sub cE.out,a5.out.bel,fun x hx=>(a5.out.kep x (cE.out x hx)).trans (dk.out x hx)⟩;clear a5 c8 bv;go_wp2;go_roundw
         case rel=>exact ⟨L+1,I,a4,J,b8.out,by go_num,rfl,HD.out⟩
         case measure=>have:=b8.out; simp [intOf]; omega
        ·have dT:0 < next.length:=List.length_pos_iff.2 bg
         rw [if_neg bg] at bv;have eb:(0:Int) < (next.length:Int):=by omega
         obtain ⟨c9,ds,ec,am⟩:=a5.out.mid.few;have ab:OwnAt rs L ys:=cB.out ▸ Wl rs L;have ac:=TB (z+3) (z+2) z (z+1) (fun _=>True) (fun _ _=>trivial) a0 I a4 next _ c7 (J+1) w.heap.size wr a5.out.tV c8.out am c9 (by omega) (fun r hr=>aq.out.fol r ((ab r).1 (a5.out.sub r hr)).1) (by have:=cr.out; omega);have e0:(0:Int)≤(J:Int):=by omega
         have e1:(J:Int)≤300:=by omega
         have bh:((J+1:Nat):Int)=(J:Int)+1:=by omega
         rw [bh] at ac;clear bh;have HG:=η bv;have cK:=η bg;have bi:=η a5.out;have cL:=η ab;clear bv bg a5 c8 am ab ds
         go_wp2_with fail
         refine ac.mono ?_;rintro e w5 ⟨bj,a9⟩;clear ac
         rcases a9 with ⟨new,mc,n,Lm,fm,rfl,av,bl,aw,ca,az,aa,bw,ed,bn,cb⟩ | ⟨rfl,new,av,bl,aw⟩
         ·have U:=bi.out.bel.trans bj
          have a3:∀ x ∈ a0,w5.heap[x]? = W9.heap[x]?:=fun x hx=>(aa x hx).trans (bi.out.kep x hx)
          have a2:=bi.out.mid.round aq.out (Nat.le_of_lt b8.out) cL.out cK.out av aw ca;have HT:=η (MP mc n Lm fm ys (.slice Av ys.length cp) b6 w5 (cD.out w5 U a3) bw cb bO.out);have bx:=η bw;by_cases hz:new = []
          ·have ae:Lm = []:=List.eq_nil_iff_forall_not_mem.2 fun s hs=>by
            obtain ⟨t,ht,_⟩:=(bn s).1 hs;rw [hz] at ht; simp at ht
           have bo:jO (z+3) (z+2) z (z+1) (fun _=>True) a0 I a4 w5:=by
            rw [hz] at az; simpa using az
           have HN:Hid ((ys.filter fun r=>r.body.any (mF Lm)) = []∧∀ w6,Below w5.heap.size w5 w6→XI rs xs L z ys a0 w W9 (ys.filter fun r=>r.body.any (mF Lm)) I a4 J w6):=η ⟨Gg ae,fun w6 y=>by
            rw [Gg ae]
            exact ⟨a2.1 hz,fun q hq=>by simp at hq,bo.later y,U.trans (y.mono U.size),fun x hx=>(y.block x (bo.lt.2.2 x hx)).trans (a3 x hx)⟩⟩
           have dt:(Lm.length:Int)=0:=by rw [ae]; rfl
           clear bj az bo aa bw bn cb U a3 a2 ae av bl aw ca
           go_wp2_with (at_len; refine iK _ rfl _ _ rfl Tryz.underlying116 _ _ Lm _ rfl bx.out ?_)
           go_wp2_with fail
           refine HT.out.mono ?_;rintro e w6 ⟨y,du,dv,dx,rfl,a8⟩;have cc:=η (HN.out.2 w6 y);have cd:=η a8;have dy:=η HN.out.1;clear y a8 HT HN bx;go_wp2
           go_roundg (2 * (300 - I.length))
           case measure=>have:=HG.out; omega
           case rel=>exact ⟨_,_,_,_,I,a4,J,rfl,rfl,by rw [if_pos dy.out]; omega,cc.out,cd.out⟩
          ·have ee:0 < new.length:=List.length_pos_iff.2 hz
           have ae:Lm ≠ []:=fun e=>by
            obtain ⟨t,ht⟩:=List.exists_mem_of_ne_nil _ hz;have:=(bn t.name).2 ⟨t,ht,rfl⟩;rw [e] at this; simp at this
           have dt:(0:Int) < (Lm.length:Int):=by have:=List.length_pos_iff.2 ae; omega
           have HN:Hid (∀ w6,Below w5.heap.size w5 w6→XI rs xs L z ys a0 w W9 (ys.filter fun r=>r.body.any (mF Lm)) (I ++ new) (a4 ++ List.replicate new.length (J+1)) (J+1) w6):=η fun w6 y=>by
            have h1:=a2.2 hz;rw [← Wn bn] at h1;exact ⟨h1,fun q hq=>(List.mem_filter.1 hq).1,az.later y,U.trans (y.mono U.size),fun x hx=>(y.block x (az.lt.2.2 x hx)).trans (a3 x hx)⟩
           have dz:Hid (2 * (300 - (I ++ new).length)+1 < 2 * (300 - I.length)+1):=η (by rw [χ]; omega);clear bj az aa bw bn cb U a3 a2 ae av bl aw ca
           go_wp2_with (at_len; refine iK _ rfl _ _ rfl Tryz.underlying116 _ _ Lm _ rfl bx.out ?_)
           go_wp2_with fail
           refine HT.out.mono ?_;rintro e w6 ⟨y,du,dv,dx,rfl,a8⟩;have cc:=η (HN.out w6 y);have cd:=η a8;clear y a8 HT HN bx;go_wp2
           go_roundg (2 * (300 - (I ++ new).length)+1)
           case measure=>have:=HG.out; have:=dz.out; omega
           case rel=>exact ⟨_,_,_,_,I ++ new,_,J+1,by go_num,rfl,by split <;> omega,cc.out,cd.out⟩
         ·have HP:Hid (D9 rs xs w (.returned (.tuple #[.pointer none,.bool false])) w5):=η ⟨bi.out.bel.trans bj,.inr ⟨fun _=>bi.out.mid.over aq.out (Nat.le_of_lt b8.out) cL.out cK.out av bl aw,rfl⟩⟩
          clear bj av bl aw;go_wp2;go_ret2;exact HP.out
    ·have dC:L=rs.length:=by omega
     have cX:¬ (L:Int) < (rs.length:Int):=by omega
     have HP:Hid (D9 rs xs w (.returned (.tuple #[.pointer (some ⟨z+2,0,none⟩),.bool true])) wr):=η (by
      rw [dC] at a6;obtain ⟨h1,h2,h3,h4,h5⟩:=a6.fin aq.out
      exact ⟨af,.inl ⟨HF.out,h1,z,b5,fs,rn,cr.out,rfl,a1,h2,h4,h5⟩⟩)
     clear a6 a1 af aR;go_wp2;go_ret2;exact HP.out
end
end Go.Proofs.YtkjinanbccloeaaGreatDoor
