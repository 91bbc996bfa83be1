/- Of the proof of FnEvalOnly: FolR, gK. -/
import Derived.Test.YtkjinanbccloeaaGreatDoorB36
set_option linter.unusedVariables false
namespace Go.Proofs.YtkjinanbccloeaaGreatDoor
open Go.RowKit D
theorem D.KX {rs:List Ru} (h:dV rs=0) {r:Ru} (hr:r ∈ rs):jC r:=by
 unfold dV at h
 split at h
 ·cases h
 ·rename_i h1
  split at h
  ·cases h
  ·split at h
   ·cases h
   ·split at h
    ·cases h
    ·rename_i h4
     have y:=List.all_eq_true.1 (by simpa using h1) r hr;have g4:=List.all_eq_true.1 (by simpa using h4) r hr;unfold dN mD at y;simp only [ο,decide_eq_true_eq,List.all_eq_true] at y;obtain ⟨t1,U⟩:=(Fg _ _).1 g4;refine ⟨y.2,y.1.2,y.1.1,fun x I=>?_⟩
     have hb:iw r.body x=true:=by
      rcases I with I | ⟨p,J,I⟩
      ·exact t1 x I
      ·unfold qN at U
       have:=List.all_eq_true.1 (by simpa using U) p J;exact (pK _ _).1 this x I
     have:=(nC _ _).1 hb;rw [gq] at this
     rcases this with h | ⟨p,J,hv⟩
     ·simp at h
     ·obtain ⟨q1,q2⟩:=List.mem_filter.1 J
      exact ⟨p,q1,by simpa using q2,hv⟩
theorem D.sV {a:A} (h:dX a=true):aI a:=by
 unfold dX jY at h;simp only [ο,Bool.not_eq_true',List.any_eq_false] at h;exact ⟨h.1,fun t y=>by simpa using h.2 t y⟩
theorem D.sW {a:A} (h:aI a):dX a=true:=by
 unfold dX jY;simp only [ο,Bool.not_eq_true',List.any_eq_false];exact ⟨h.ok,fun t y=>by simpa using h.gr t y⟩
theorem D.VT {xs:List A} (U:∀ x ∈ xs,aI x) (r:Ru) (t:A):XF xs r t ↔ ja xs r t:=by
 have J:∀ x ∈ xs,Gr x:=fun x h=>(U x h).gr
 constructor
 ·rintro ⟨σ,rfl,h⟩
  refine ⟨σ,rfl,fun p y I=>?_,fun p y I hm=>?_⟩
  ·exact (qc J (pY _ _)).1 (by rw [h p y,I]; rfl)
  ·have:=(qc J (pY σ p.atom)).2 hm
   rw [h p y,I] at this;cases this
 ·rintro ⟨σ,rfl,h1,h2⟩
  refine ⟨σ,rfl,fun p y=>?_⟩;cases I:p.no
  ·exact (qc J (pY _ _)).2 (h1 p y I)
  ·cases hb:hasB xs (fH σ p.atom)
   ·rfl
   ·exact absurd ((qc J (pY _ _)).1 hb) (h2 p y I)
theorem D.Un {xs:List A} (U:∀ x ∈ xs,aI x) {r:Ru} (R:jC r) {t:A} (h:ja xs r t):aI t:=by
 obtain ⟨σ,rfl,h1,_⟩:=h;refine ⟨?_,pY _ _⟩;have h0:=R.hok;unfold aX at h0 ⊢;unfold fH;simp only [ο,decide_eq_true_eq,List.all_eq_true,List.length_map] at h0 ⊢;refine ⟨h0.1,fun u hu=>?_⟩;obtain ⟨v,hv,rfl⟩:=List.mem_map.1 hu;have g:=h0.2 v hv;unfold iM at *;unfold wE;cases hvv:v.var
 ·simpa [hvv] using g
 ·obtain ⟨p,hp,hn,y,hy,I,J⟩:=R.tight v.name (.inl ⟨v,hv,hvv,rfl⟩)
  have hm:=(U _ (h1 p hp hn)).names (wE σ y) (List.mem_map.2 ⟨y,hy,rfl⟩);unfold wE at hm;rw [I,J] at hm;simpa using hm.2
theorem D.xC {xs:List A} (J:∀ x ∈ xs,aI x) {a:A} (ha:aI a) (x:A):x ∈ dP xs a ↔ x ∈ xs∨x=a:=by
 constructor
 ·exact sD
 ·intro h
  have U:∀ y ∈ dP xs a,Gr y:=fun y hy=>(sD hy).elim (fun h=>(J y h).gr) fun h=>h ▸ ha.gr
  have I:Gr x:=h.elim (fun h=>(J x h).gr) fun h=>h ▸ ha.gr
  refine (qc U I).1 ?_;rw [RG]
  rcases h with h | rfl
  ·rw [lF h]; rfl
  ·rw [oL]; simp
theorem D.KY {β:Type} (f:β→A):∀ (l:List β) (out:List A),fK out=true→(∀ x ∈ out,aI x)→(∀ b ∈ l,aI (f b))→
  fK (l.foldl (fun o b=>dP o (f b)) out)=true∧(∀ x ∈ l.foldl (fun o b=>dP o (f b)) out,aI x)∧∀ x,x ∈ l.foldl (fun o b=>dP o (f b)) out ↔ x ∈ out∨∃ b ∈ l,f b=x
 | [],out,h1,h2,_=>⟨h1,h2,fun x=>by simp⟩
 | b :: l,out,h1,h2,h3=>by
  have y:=h3 b Γ;obtain ⟨I,J,U⟩:=KY f l (dP out (f b)) (vM h1 _) (fun x hx=>((xC h2 y x).1 hx).elim (h2 x) fun e=>e ▸ y) fun c hc=>h3 c (Δ _ hc)
  refine ⟨I,J,fun x=>?_⟩;rw [List.foldl_cons,U,xC h2 y];constructor
  ·rintro ((h | h) | ⟨c,hc,h⟩)
   ·exact .inl h
   ·exact .inr ⟨b,Γ,h.symm⟩
   ·exact .inr ⟨c,Δ _ hc,h⟩
  ·rintro (h | ⟨c,hc,h⟩)
   ·exact .inl (.inl h)
   ·rcases List.mem_cons.1 hc with rfl | hc
    ·exact .inl (.inr h.symm)
    ·exact .inr ⟨c,hc,h⟩
theorem D.Gi {xs:List A} {level:Nat} (hx:∀ x ∈ xs,aI x) {rl:List (Ru × Nat)} (hr:∀ p ∈ rl,jC p.1):fK (fZ xs level rl)=true∧(∀ t ∈ fZ xs level rl,aI t)∧∀ t,t ∈ fZ xs level rl ↔ ∃ p ∈ rl,p.2=level∧ja xs p.1 t:=by
 have hg:∀ x ∈ xs,Gr x:=fun x h=>(hx x h).gr
 have main:∀ (l:List (Ru × Nat)) (out:List A),(∀ p ∈ l,jC p.1)→fK out=true→(∀ x ∈ out,aI x)→
   fK (l.foldl (fun out p=>if p.2=level then DF xs p.1 out else out) out)=true∧(∀ t ∈ l.foldl (fun out p=>if p.2=level then DF xs p.1 out else out) out,aI t)∧
   ∀ t,t ∈ l.foldl (fun out p=>if p.2=level then DF xs p.1 out else out) out ↔ t ∈ out∨∃ p ∈ l,p.2=level∧ja xs p.1 t:=by
  intro l
  induction l with
  | nil=>intro out _ h1 h2; exact ⟨h1,h2,fun t=>by simp⟩
  | cons q l ih=>
   intro out hl h1 h2;have R:=hl q Γ;have hq:=fun p y=>hl p (Δ _ y)
   by_cases hv:q.2=level
   ·have J:∀ t,(∃ b ∈ allB xs q.1.body,bQ q.1.head b=t) ↔ ja xs q.1 t:=fun t=>(Tc hg R.tight t).trans (VT hx q.1 t)
    obtain ⟨g1,g2,g3⟩:=KY (fun b=>bQ q.1.head b) (allB xs q.1.body) out h1 h2 fun b hb=>Un hx R ((J _).1 ⟨b,hb,rfl⟩)
    rw [List.foldl_cons,if_pos hv];obtain ⟨k1,k2,U⟩:=ih (DF xs q.1 out) hq g1 g2;refine ⟨k1,k2,fun t=>?_⟩;rw [U]
    have y:t ∈ DF xs q.1 out ↔ t ∈ out∨ja xs q.1 t:=by
     unfold DF;rw [g3,J]
    rw [y];constructor
    ·rintro ((h | h) | ⟨p,y,h⟩)
     ·exact .inl h
     ·exact .inr ⟨q,Γ,hv,h⟩
     ·exact .inr ⟨p,Δ _ y,h⟩
    ·rintro (h | ⟨p,y,I,h⟩)
     ·exact .inl (.inl h)
     ·rcases List.mem_cons.1 y with rfl | y
      ·exact .inl (.inr h)
      ·exact .inr ⟨p,y,I,h⟩
   ·rw [List.foldl_cons,if_neg hv]
    obtain ⟨k1,k2,U⟩:=ih out hq h1 h2;refine ⟨k1,k2,fun t=>?_⟩;rw [U];constructor
    ·rintro (h | ⟨p,y,h⟩)
     ·exact .inl h
     ·exact .inr ⟨p,Δ _ y,h⟩
    ·rintro (h | ⟨p,y,I,h⟩)
     ·exact .inl h
     ·rcases List.mem_cons.1 y with rfl | y
      ·exact absurd I hv
      ·exact .inr ⟨p,y,I,h⟩
 obtain ⟨k1,k2,U⟩:=main rl [] hr rfl (fun x h=>by simp at h)
 exact ⟨k1,k2,fun t=>by
  have:=U t;simp only [List.not_mem_nil,false_or] at this
  exact this⟩
theorem D.iG {xs:List A} (h:fK xs=true):xs.Nodup:=by
 refine List.pairwise_iff_getElem.2 fun i j J I y e=>?_
 have:=Gy h I y;rw [e,oL] at this;omega
theorem D.KZ {xs ys:List A} (h1:fK xs=true) (I:fK ys=true) (J:∀ x ∈ xs,aI x) (f2:∀ x ∈ ys,aI x) (h:∀ t,t ∈ xs ↔ t ∈ ys):xs=ys:=by
 refine Oj h1 I (fun x y=>sW (J x y)) (fun x y=>sW (f2 x y)) fun a=>?_
 rw [Bool.eq_iff_iff,oM,oM];constructor
 ·rintro ⟨x,y,hc⟩; exact ⟨x,(h x).1 y,hc⟩
 ·rintro ⟨x,y,hc⟩; exact ⟨x,(h x).2 y,hc⟩
def D.gK (B sb mu mp:Nat) (Fb:Nat→Prop) (fr:List Nat) (fs:List A) (rn:List Nat) (w:World):Prop:=
 ∃ y cf Lf I J Lr U bf,kK B sb mu mp y fs.length cf Lf fs bf I rn.length J Lr rn (yB fs) (idxs fs) U w∧(∀ x ∈ bf,Fb x)∧∀ x ∈ fr,Free B sb mu mp (.slice y fs.length cf) (.slice I rn.length J) U x∧x < w.heap.size
section
variable {B sb mu mp:Nat} {Fb:Nat→Prop} {fr:List Nat} {fs:List A} {rn:List Nat} {w w':World}
theorem D.kK.fresh {y:Option Addr} {I cf:Nat} {Lf:List Value} {bf:List Nat} {J:Option Addr} {nr U:Nat} {Lr:List Value} {Lp:List (Value × Value)} {G:WK→List Nat} {ou:List Nat} (h:kK B sb mu mp y I cf Lf fs bf J nr U Lr rn Lp G ou w) {x:Nat} (hx:w.heap.size≤x):Free B sb mu mp (.slice y I cf) (.slice J nr U) ou x:=by
 obtain ⟨l1,l2,l3,_⟩:=h.lo;have hs:=h.oC;exact ⟨fun e=>by have:=(bG h.cF.own e).2; omega,fun e=>by have:=(bG h.cR.own e).2; omega,fun e=>by have:=(h.ous x e).2; omega,by omega⟩
theorem D.gK.more (h:gK B sb mu mp Fb fr fs rn w) (I:Below w.heap.size w w') (xs:List Nat) (J:∀ x ∈ xs,w.heap.size≤x∧x < w'.heap.size):gK B sb mu mp Fb (fr ++ xs) fs rn w':=by
 obtain ⟨Af,cf,Lf,Ar,cr,Lr,ou,bf,S,h1,U⟩:=h;refine ⟨Af,cf,Lf,Ar,cr,Lr,ou,bf,S.later I,h1,fun x y=>?_⟩
 rcases μ.1 y with g | g
 ·exact ⟨(U x g).1,κ (U x g).2 I.size⟩
 ·exact ⟨S.fresh (J x g).1,(J x g).2⟩
theorem D.gK.later (h:gK B sb mu mp Fb fr fs rn w) (y:Below w.heap.size w w'):gK B sb mu mp Fb fr fs rn w':=by
 have:=h.more y [] (fun x I=>by simp at I);simpa using this
theorem D.gK.sub (h:gK B sb mu mp Fb fr fs rn w) {y:List Nat} (I:∀ x ∈ y,x ∈ fr):gK B sb mu mp Fb y fs rn w:=by
 obtain ⟨J,cf,Lf,U,cr,Lr,ou,bf,S,h1,h2⟩:=h;exact ⟨J,cf,Lf,U,cr,Lr,ou,bf,S,h1,fun x hx=>h2 x (I x hx)⟩
theorem D.gK.mono (h:gK B sb mu mp Fb fr fs rn w) {Fb':Nat→Prop} (I:∀ x,Fb x→x < w.heap.size→Fb' x):gK B sb mu mp Fb' fr fs rn w:=by
 obtain ⟨J,cf,Lf,U,cr,Lr,ou,bf,S,h1,h2⟩:=h;exact ⟨J,cf,Lf,U,cr,Lr,ou,bf,S,fun x y=>I x (h1 x y) (S.cF.row.lt aj x y),h2⟩
theorem D.gK.other (h:gK B sb mu mp Fb fr fs rn w) {c:Nat} (hc:c ∈ fr) (hb:¬ Fb c) (J:w.heap.size≤w'.heap.size) (I:∀ k,k < w.heap.size→k ≠ c→w'.heap[k]? = w.heap[k]?):gK B sb mu mp Fb fr fs rn w':=by
 obtain ⟨Af,cf,Lf,Ar,cr,Lr,ou,bf,S,h1,U⟩:=h;obtain ⟨l1,l2,l3,_⟩:=S.lo;have hz:=S.oC;obtain ⟨f,r,u,s⟩:=(U c hc).1
 refine ⟨Af,cf,Lf,Ar,cr,Lr,ou,bf,⟨(I sb (by omega) (by omega)).trans S.blk,S.ef,S.er,S.cF.lU aj (fun x y=>I x (bG S.cF.own y).2 (fun e=>f (e ▸ y))) (fun x y=>I x (S.cF.row.lt aj x y) (fun e=>hb (e ▸ h1 x y))),
  S.cR.lU iF (fun x y=>I x (bG S.cR.own y).2 (fun e=>r (e ▸ y))) (fun x y=>by simp at y),S.un.keep (I mu (by omega) (by omega)) (fun x y=>I x (S.ous x y).2 (fun e=>u (e ▸ y))),S.pl.same (I mp (by omega) (by omega)),S.dFR,S.dF,S.dR,S.bfs,S.lo,
  fun x y=>⟨(S.ous x y).1,κ (S.ous x y).2 J⟩,τ hz J⟩,h1,fun x y=>⟨(U x y).1,κ (U x y).2 J⟩⟩
theorem D.gK.view (h:gK B sb mu mp Fb fr fs rn w):∃ bs,jv sb fs rn bs w:=by
 obtain ⟨y,cf,Lf,I,J,U,ou,bf,S,h1,h2⟩:=h;obtain ⟨bs,g,_⟩:=S.view 0 (by omega);exact ⟨bs,g⟩
theorem D.gK.lt (h:gK B sb mu mp Fb fr fs rn w):B≤w.heap.size∧sb < B∧∀ x ∈ fr,x < w.heap.size:=by
 obtain ⟨J,cf,Lf,U,cr,Lr,ou,bf,S,h1,y⟩:=h;exact ⟨S.oC,S.lo.1,fun x I=>(y x I).2⟩
theorem OI (h:gK B sb mu mp Fb fr fs rn w) {a:A} {c1:Value} {ba:List Nat} (ha:aG w [.string a.name,c1] a ba) (J:∀ x ∈ ba,x ∈ fr) (U:∀ x ∈ ba,Fb x) (a0:∀ f ∈ fs,aI f) (hok:aI a) (a1:a ∉ fs) (a2:fs.length≤1000000) (a3:rn.length≤1000000) (rd B0:Nat) (a4:B0≤sb∧B0≤mu∧B0≤mp∧B0≤B):
  Calls Tryz.prog 112 #[.pointer (some ⟨sb,0,none⟩),.agg #[.string a.name,c1],.int .i64 rd] w fun e w'=>e=.returned (.tuple #[])∧Below B0 w w'∧gK B sb mu mp Fb fr (fs ++ [a]) (rn ++ [rd]) w'∧∀ x ∈ fr,w'.heap[x]? = w.heap[x]?:=by
 obtain ⟨Af,cf,Lf,Ar,cr,Lr,ou,bf,S,h1,h2⟩:=h;refine (put_any B sb mu mp Af cf Lf fs bf Ar cr Lr rn (yB fs) ou a c1 ba fr rd w S ha J (fun x y=>(h2 x y).1) (fun x y=>(h2 x y).2) hok.ok (KR a0 hok a1) a2 a3 B0 a4).mono ?_;rintro e w' ⟨rfl,hb,a5,a6,a7,a8,a9,aa,ab,S',I⟩;refine ⟨rfl,hb,⟨a5,a6,a7,a8,a9,aa,ab,bf ++ ba,?_,fun x y=>(μ.1 y).elim (h1 x) (U x),fun x y=>⟨?_,κ (h2 x y).2 hb.size⟩⟩,fun x y=>(I x y).2⟩
 ·rw [Gg,χ,χ]; exact S'
 ·have:=(I x y).1
  rw [χ,χ]; exact this
end
theorem D.Ih.oK {xs:List A} {y:List Nat} {w0 w:World} (h:Ih xs y w0 xs.length w) (I:∀ x ∈ y,x < w0.heap.size):Below w0.heap.size w0 w∧gK (w0.heap.size+3) (w0.heap.size+2) w0.heap.size (w0.heap.size+1) (fun x=>x ∈ y) [] xs (List.replicate xs.length 0) w:=by
 obtain ⟨h1,J,cf,Lf,U,cr,Lr,ou,bf,S,h2⟩:=h.all;exact ⟨h1,J,cf,Lf,U,cr,Lr,ou,bf,S,h2,fun x hx=>by simp at hx⟩
end Go.Proofs.YtkjinanbccloeaaGreatDoor
