/- Of the proof of FnDeltaBoth: FolQ, StoI, FolR, jO. -/
import Derived.Test.YtkjinanbccloeaaGreatDoorC30
set_option linter.unusedVariables false
set_option maxHeartbeats 4000000
set_option maxRecDepth 100000
namespace Go.Proofs.YtkjinanbccloeaaGreatDoor
section
open Go.RowKit D
def D.lU (fs:List A) (r:Ru) (t:A):Prop:=∃ σ:Wo,t=iF σ r.head∧(∀ p ∈ r.body,p.no=false→iF σ p.atom ∈ fs)∧∀ p ∈ r.body,p.no=true→iF σ p.atom ∉ fs
structure D.lD (r:Ru):Prop where
 hok:bU r.head=true
 pok:∀ p ∈ r.body,bU p.atom=true
 few:r.body.length≤4
 tight:UY r
theorem D.qX {body:List Pt} {a:A}:a ∈ iG body ↔ ∃ p ∈ body,p.no=false∧p.atom=a:=by
 unfold iG;rw [List.mem_map];constructor
 ·rintro ⟨p,I,rfl⟩
  obtain ⟨h1,y⟩:=List.mem_filter.1 I;exact ⟨p,h1,by simpa using y,rfl⟩
 ·rintro ⟨p,h1,y,rfl⟩
  exact ⟨p,List.mem_filter.2 ⟨h1,by simpa using y⟩,rfl⟩
theorem D.qY {body:List Pt} {a:A}:a ∈ eY body ↔ ∃ p ∈ body,p.no=true∧p.atom=a:=by
 unfold eY;rw [List.mem_map];constructor
 ·rintro ⟨p,I,rfl⟩
  obtain ⟨h1,y⟩:=List.mem_filter.1 I;exact ⟨p,h1,y,rfl⟩
 ·rintro ⟨p,h1,y,rfl⟩
  exact ⟨p,List.mem_filter.2 ⟨h1,y⟩,rfl⟩
theorem D.IW:∀ (l:List Pt),(∀ p ∈ l,bU p.atom=true)→je (fun p:Pt=>p.atom.args.length) l≤l.length * 3
 | [],_=>ε
 | p :: l,h=>by
  have h1:=IW l fun q hq=>h q (Δ _ hq)
  have I:=oO (h p Γ);have y:je (fun p:Pt=>p.atom.args.length) (p :: l)=p.atom.args.length+je (fun p:Pt=>p.atom.args.length) l:=by simp [je]
  rw [y,List.length_cons,Nat.add_mul];omega
theorem D.Qx {r:Ru} (R:lD r):kC (aC r.body):=by
 refine ⟨?_,xA (ny r.body uw)⟩;have h1:=pI r.body [];have y:=IW r.body R.pok;have I:=R.few;show (fO r.body []).length≤12;simp at h1;omega
theorem D.Qy {ps:List Pt}:∀ p ∈ ps,∀ t ∈ p.atom.args,t.var=true→t.name ∈ aC ps:=fun p I t J y=>(iI ps [] _).2 (.inr ⟨p,I,t,J,y,rfl⟩)
theorem D.JM {fs:List A} {r:Ru} (R:lD r) (I:∀ f ∈ fs,bG f) (J:fs.length≤1000000) {wt:Nat→Bool} (U:∀ i,i < 12→wt i=ND (aC r.body) r.head (eY r.body) i):
  sS (aC r.body) fs (iG r.body) (eY r.body) r.head wt:=by
 have hf:=R.few;have l1:(iG r.body).length≤r.body.length:=by unfold iG; rw [List.length_map]; exact List.length_filter_le _ _
 have l2:(eY r.body).length≤r.body.length:=by unfold eY; rw [List.length_map]; exact List.length_filter_le _ _
 refine ⟨Qx R,by omega,J,by omega,I,fun p y=>?_,fun n hn=>?_,R.hok,fun p y=>?_,fun n hn=>?_,fun t ht a0=>?_,U,fun b hb=>?_⟩
 ·obtain ⟨q,h1,_,rfl⟩:=qX.1 y; exact R.pok q h1
 ·obtain ⟨q,h1,_,rfl⟩:=qY.1 hn; exact R.pok q h1
 ·obtain ⟨q,h1,_,rfl⟩:=qX.1 y; exact Qy q h1
 ·obtain ⟨q,h1,_,rfl⟩:=qY.1 hn; exact Qy q h1
 ·obtain ⟨p,y,_,hv⟩:=R.tight t.name (.inl ⟨t,ht,a0,rfl⟩)
  exact (iI r.body [] _).2 (.inr ⟨p,y,hv⟩)
 ·obtain ⟨h1,h2⟩:=Ik R.tight (b:=b) fun p y hn=>hb _ (qX.2 ⟨p,y,hn,rfl⟩)
  exact ⟨h1,fun n hn=>by obtain ⟨q,h3,_,rfl⟩:=qY.1 hn; exact h2 q h3⟩
theorem D.VN {fs:List A} {r:Ru} (R:lD r) {J:List A} (h1:∀ t ∈ J,∃ σ,wG fs (iG r.body) (eY r.body) [] (2 ^ (iG r.body).length - 1) σ∧iF σ r.head=t)
  (h2:∀ σ,wG fs (iG r.body) (eY r.body) [] (2 ^ (iG r.body).length - 1) σ→iF σ r.head ∈ J) (t:A):t ∈ J ↔ lU fs r t:=by
 constructor
 ·intro h
  obtain ⟨σ,⟨_,U,g3⟩,rfl⟩:=h1 t h;refine ⟨σ,rfl,fun p y hn=>?_,fun p y hn=>g3 _ (qY.2 ⟨p,y,hn,rfl⟩)⟩;obtain ⟨j,I,e⟩:=List.getElem_of_mem (qX.2 ⟨p,y,hn,rfl⟩);rw [← e];exact U j I (by rw [Nat.testBit_two_pow_sub_one]; simpa using I)
 ·rintro ⟨σ,rfl,g1,U⟩
  refine h2 σ ⟨fun n v h=>by simp [gJ] at h,fun j I _=>?_,fun n hn=>?_⟩
  ·obtain ⟨p,y,hn,e⟩:=qX.1 (δ I)
   rw [← e]; exact g1 p y hn
  ·obtain ⟨p,y,a0,rfl⟩:=qY.1 hn
   exact U p y a0
theorem D.SX {r:Ru} (R:lD r) {b:Bd} (y:uZ b) (hc:yO b r.head.args):bG (dD r.head b):=vX R.hok y hc
end
section
open Go.RowKit D
attribute [local go_sem ↓] Go.wp_at_zero Go.wp_at_succ
def D.JO (xs:List A) (J:List Nat) (y:World) (k:Nat) (w:World):Prop:=
 ∃ U cf Lf Ar cr Lr ou I,lT (y.heap.size+3) (y.heap.size+2) y.heap.size (y.heap.size+1) U (xs.take k).length cf Lf (xs.take k) I Ar (List.replicate k 0).length cr Lr (List.replicate k 0) (Bj (xs.take k)) (idxs (xs.take k)) ou w∧Below y.heap.size y w∧∀ x ∈ I,x ∈ J
theorem NM (xs:List A) (v:Value) (bx:List Nat) (w:World) (h:ay w [v] xs bx) (hf:∀ f ∈ xs,bG f) (hn:xs.Pairwise fun a b=>a ≠ b) (hl:xs.length≤1000000):
  Calls Tryz.prog 58 #[v] w fun e w'=>e=.returned (.pointer (some ⟨w.heap.size+2,0,none⟩))∧JO xs bx w xs.length w':=by
 obtain ⟨Ad,cap,rfl,a4,hm⟩:=aj h;have aL:=aB (τ a4 hm);have hA:Below w.heap.size w (((w.alloc (.map #[] 0)).alloc (.map #[] 0)).alloc (.cells #[.slice none 0 0,.slice none 0 0,.map (some w.heap.size),.map (some (w.heap.size+1))] 127)):=((ζ).alloc (by simp) _).alloc (by simp; omega) _;have a5:qM Js w.heap.size [] 0 (((w.alloc (.map #[] 0)).alloc (.map #[] 0)).alloc (.cells #[.slice none 0 0,.slice none 0 0,.map (some w.heap.size),.map (some (w.heap.size+1))] 127)):=(qM.made (S:=Js) w).same (by rw [Below.heap_alloc _ _ _ (by simp; omega),Below.heap_alloc _ _ _ (by simp)])
 have a6:oH isStr (w.heap.size+1) [] (((w.alloc (.map #[] 0)).alloc (.map #[] 0)).alloc (.cells #[.slice none 0 0,.slice none 0 0,.map (some w.heap.size),.map (some (w.heap.size+1))] 127)):=by
  have h0:=oH.made (S:=isStr) (w.alloc (.map #[] 0));have e:(w.alloc (.map #[] 0)).heap.size=w.heap.size+1:=by simp
  rw [e] at h0;exact h0.same (by rw [Below.heap_alloc _ _ _ (by simp)])
 have a7:(((w.alloc (.map #[] 0)).alloc (.map #[] 0)).alloc (.cells #[.slice none 0 0,.slice none 0 0,.map (some w.heap.size),.map (some (w.heap.size+1))] 127)).heap[w.heap.size+2]? = some (.cells #[.slice none 0 0,.slice none 0 0,.map (some w.heap.size),.map (some (w.heap.size+1))] 127 (0,0)):=by
  have:=ω ((w.alloc (.map #[] 0)).alloc (.map #[] 0)) (.cells #[.slice none 0 0,.slice none 0 0,.map (some w.heap.size),.map (some (w.heap.size+1))] 127);simpa using this
 have a8:Hid (JO xs bx w 0 (((w.alloc (.map #[] 0)).alloc (.map #[] 0)).alloc (.cells #[.slice none 0 0,.slice none 0 0,.map (some w.heap.size),.map (some (w.heap.size+1))] 127))):=η
  ⟨none,0,[],none,0,[],[],[],⟨a7,rfl,rfl,bK.nil _,bK.nil _,⟨⟨[],0,a5,⟨fun r hr=>by simp at hr,fun r hr=>by simp at hr,fun r hr=>by simp at hr⟩,fun k _=>by simp [idxs]⟩⟩,a6,fun x y=>by simp [Value.ownBlock] at y,fun x y=>by simp at y,fun x y=>by simp at y,fun x y=>by simp at y,by omega,fun x y=>by simp at y,by simp⟩,hA,fun x y=>by simp at y⟩
 have HH:=η h;have HF:=η (ι hf hn);clear h hf hn a4 hm hA a5 a6 a7;have aM:=@run_makeMap Tryz.prog
 go_enter Tryz.func58,Tryz.ntmps58
 go_wp2;generalize (((w.alloc (.map #[] 0)).alloc (.map #[] 0)).alloc (.cells #[.slice none 0 0,.slice none 0 0,.map (some w.heap.size),.map (some (w.heap.size+1))] 127))=W at *
 go_loopw [12] (fun i wr=>∃ (k:Nat),k≤xs.length∧i=.int .i64 k∧JO xs bx w k wr) (fun i _=>xs.length - (intOf i).toNat)
 case atStart=>exact ⟨0,ε,rfl,a8.out⟩
 case round=>
  obtain ⟨k,hk,rfl,hI⟩:=hrel;clear a8;by_cases J:k < xs.length
  ·obtain ⟨Af,cf,Lf,Ar,cr,Lr,ou,bf,S,I,a9⟩:=hI
   obtain ⟨bq,oq,Ae,ce,ba,rfl,_,f0,f1,a2,a0⟩:=eG (ak.below HH.out I) J;have aR:(0:Int)≤(k:Int):=by omega
   have ae:(k:Int) < (xs.length:Int):=by omega
   have U:Below wr.heap.size wr (wr.alloc (.cells #[.string xs[k].name,.slice Ae xs[k].args.length ce] 33)):=ζ;have a3:=HF.out.1 _ (δ J)
   have aa:xs[k] ∉ xs.take k:=fun hm=>by
    obtain ⟨i,hi,e⟩:=List.getElem_of_mem hm;simp at hi e;exact List.pairwise_iff_getElem.1 HF.out.2 i k (by omega) J (by omega) e
   have a1:=put_any (w.heap.size+3) (w.heap.size+2) w.heap.size (w.heap.size+1) Af cf Lf (xs.take k) bf Ar cr Lr (List.replicate k 0) (Bj (xs.take k)) ou xs[k] (.slice Ae xs[k].args.length ce) ba ba 0 (wr.alloc (.cells #[.string xs[k].name,.slice Ae xs[k].args.length ce] 33)) (S.later U) (au.below a2 U) (fun x y=>y)
    (fun x y=>(S.later U).low (by have:=ak.lt HH.out x (a0 x y); omega)) (fun x y=>κ (au.lt a2 x y) U.size) a3.ok (NK (fun f hf=>HF.out.1 f (List.mem_of_mem_take hf)) a3 aa) (by simp; omega) (by simp; omega) w.heap.size (by omega)
   have HB:=η (I.trans (U.mono I.size));have ab:=η J;have af:Hid (∀ x ∈ bf ++ ba,x ∈ bx):=η fun x y=>(μ.1 y).elim (a9 x) (a0 x)
   have ag:Hid (xs.take (k+1)=xs.take k ++ [xs[k]]):=η (ρ J);clear S I a9 a2 a0 U a3 aa hk;generalize xs[k]=a at *;obtain ⟨an,am⟩:=a;dsimp only at *;clear J
   go_wp2_with fail
   refine a1.mono ?_;rintro e w2 ⟨rfl,ac,ao,aq,ar,av,aw,az,aD,S',-⟩
   have aE:Hid (JO xs bx w (k+1) w2):=η ⟨ao,aq,ar,av,aw,az,aD,_,by
    rw [ag.out,List.replicate_succ',IV,χ,χ]; exact S',HB.out.trans ac,af.out⟩
   clear a1 ac S';go_wp2;go_roundw
   case rel=>exact ⟨k+1,ab.out,by go_num,aE.out⟩
   case measure=>have:=ab.out; simp [intOf]; omega
  ·have he:k=xs.length:=by omega
   have ae:¬ (k:Int) < (xs.length:Int):=by omega
   have HD:Hid (JO xs bx w xs.length wr):=η (he ▸ hI);clear hI;go_wp2;go_ret;exact ⟨rfl,HD.out⟩
theorem D.JO.all {xs:List A} {bx:List Nat} {y w:World} (h:JO xs bx y xs.length w):
  Below y.heap.size y w∧∃ U cf Lf Ar cr Lr ou J,lT (y.heap.size+3) (y.heap.size+2) y.heap.size (y.heap.size+1) U xs.length cf Lf xs J Ar (List.replicate xs.length 0).length cr Lr (List.replicate xs.length 0) (Bj xs) (idxs xs) ou w∧∀ x ∈ J,x ∈ bx:=by
 obtain ⟨U,cf,Lf,Ar,cr,Lr,ou,J,S,I,a0⟩:=h;rw [List.take_length] at S;exact ⟨I,U,cf,Lf,Ar,cr,Lr,ou,J,S,a0⟩
end
section
open Go.RowKit D
theorem D.VO {rs:List Ru} (h:fV rs=0) {r:Ru} (hr:r ∈ rs):lD r:=by
 unfold fV at h
 split at h
 ·cases h
 ·rename_i h1
  split at h
  ·cases h
  ·split at h
   ·cases h
   ·split at h
    ·cases h
    ·rename_i h4
     have y:=ό.1 (by simpa using h1) r hr;have g4:=ό.1 (by simpa using h4) r hr;unfold fM ql at y;simp only [ο,decide_eq_true_eq,ό] at y;obtain ⟨t1,U⟩:=(Hu _ _).1 g4;refine ⟨y.2,y.1.2,y.1.1,fun x I=>?_⟩
     have hb:jf r.body x=true:=by
      rcases I with I | ⟨p,J,I⟩
      ·exact t1 x I
      ·unfold uy at U
       have:=ό.1 (by simpa using U) p J;exact (rJ _ _).1 this x I
     have:=(pJ _ _).1 hb;rw [iI] at this
     rcases this with h | ⟨p,J,hv⟩
     ·simp at h
     ·obtain ⟨q1,q2⟩:=List.mem_filter.1 J
      exact ⟨p,q1,by simpa using q2,hv⟩
theorem D.Bl {a:A} (h:dM a=true):bG a:=by
 unfold dM kT at h;simp only [ο,Bool.not_eq_true',List.any_eq_false] at h;exact ⟨h.1,fun t y=>by simpa using h.2 t y⟩
theorem D.vZ {a:A} (h:bG a):dM a=true:=by
 unfold dM kT;simp only [ο,Bool.not_eq_true',List.any_eq_false];exact ⟨h.ok,fun t y=>by simpa using h.gr t y⟩
theorem D.Xy {xs:List A} (J:∀ x ∈ xs,bG x) (r:Ru) (t:A):YW xs r t ↔ lU xs r t:=by
 have I:∀ x ∈ xs,Gr x:=fun x h=>(J x h).gr
 constructor
 ·rintro ⟨σ,rfl,h⟩
  refine ⟨σ,rfl,fun p y hn=>?_,fun p y hn hm=>?_⟩
  ·exact (rZ I (rY _ _)).1 (by rw [h p y,hn]; rfl)
  ·have:=(rZ I (rY σ p.atom)).2 hm
   rw [h p y,hn] at this;cases this
 ·rintro ⟨σ,rfl,h1,U⟩
  refine ⟨σ,rfl,fun p y=>?_⟩;cases hn:p.no
  ·exact (rZ I (rY _ _)).2 (h1 p y hn)
  ·cases hb:hasB xs (iF σ p.atom)
   ·rfl
   ·exact absurd ((rZ I (rY _ _)).1 hb) (U p y hn)
theorem D.VP {xs:List A} (U:∀ x ∈ xs,bG x) {r:Ru} (R:lD r) {t:A} (h:lU xs r t):bG t:=by
 obtain ⟨σ,rfl,h1,_⟩:=h;refine ⟨?_,rY _ _⟩;have h0:=R.hok;unfold bU at h0 ⊢;unfold iF;simp only [ο,decide_eq_true_eq,ό,List.length_map] at h0 ⊢;refine ⟨h0.1,fun u hu=>?_⟩;obtain ⟨v,hv,rfl⟩:=List.mem_map.1 hu;have g:=h0.2 v hv;unfold jv at *;unfold yN;cases hvv:v.var
 ·simpa [hvv] using g
 ·obtain ⟨p,hp,hn,y,hy,I,J⟩:=R.tight v.name (.inl ⟨v,hv,hvv,rfl⟩)
  have hm:=(U _ (h1 p hp hn)).names (yN σ y) (List.mem_map.2 ⟨y,hy,rfl⟩);unfold yN at hm;rw [I,J] at hm;simpa using hm.2
theorem D.zH {xs:List A} (J:∀ x ∈ xs,bG x) {a:A} (ha:bG a) (x:A):x ∈ fD xs a ↔ x ∈ xs∨x=a:=by
 constructor
 ·exact vN
 ·intro h
  have U:∀ y ∈ fD xs a,Gr y:=fun y hy=>(vN hy).elim (fun h=>(J y h).gr) fun h=>h ▸ ha.gr
  have I:Gr x:=h.elim (fun h=>(J x h).gr) fun h=>h ▸ ha.gr
  refine (rZ U I).1 ?_;rw [Ky]
  rcases h with h | rfl
  ·rw [jR h]; rfl
  ·rw [vK]; simp
theorem D.NP {β:Type} (f:β→A):∀ (l:List β) (out:List A),gB out=true→(∀ x ∈ out,bG x)→(∀ b ∈ l,bG (f b))→
  gB (l.foldl (fun o b=>fD o (f b)) out)=true∧(∀ x ∈ l.foldl (fun o b=>fD o (f b)) out,bG x)∧∀ x,x ∈ l.foldl (fun o b=>fD o (f b)) out ↔ x ∈ out∨∃ b ∈ l,f b=x
 | [],out,h1,h2,_=>⟨h1,h2,fun x=>by simp⟩
 | b :: l,out,h1,h2,h3=>by
  have hb:=h3 b Γ;obtain ⟨y,I,J⟩:=NP f l (fD out (f b)) (yx h1 _) (fun x U=>((zH h2 hb x).1 U).elim (h2 x) fun e=>e ▸ hb) fun c hc=>h3 c (Δ _ hc)
  refine ⟨y,I,fun x=>?_⟩;rw [List.foldl_cons,J,zH h2 hb];constructor
  ·rintro ((h | h) | ⟨c,hc,h⟩)
   ·exact .inl h
   ·exact .inr ⟨b,Γ,h.symm⟩
   ·exact .inr ⟨c,Δ _ hc,h⟩
  ·rintro (h | ⟨c,hc,h⟩)
   ·exact .inl (.inl h)
   ·rcases ύ.1 hc with rfl | hc
    ·exact .inl (.inr h.symm)
    ·exact .inr ⟨c,hc,h⟩
theorem D.SY {xs:List A} {level:Nat} (hx:∀ x ∈ xs,bG x) {rl:List (Ru × Nat)} (hr:∀ p ∈ rl,lD p.1):gB (jo xs level rl)=true∧(∀ t ∈ jo xs level rl,bG t)∧∀ t,t ∈ jo xs level rl ↔ ∃ p ∈ rl,p.2=level∧lU xs p.1 t:=by
 have hg:∀ x ∈ xs,Gr x:=fun x h=>(hx x h).gr
 have main:∀ (l:List (Ru × Nat)) (out:List A),(∀ p ∈ l,lD p.1)→gB out=true→(∀ x ∈ out,bG x)→
   gB (l.foldl (fun out p=>if p.2=level then Gx xs p.1 out else out) out)=true∧(∀ t ∈ l.foldl (fun out p=>if p.2=level then Gx xs p.1 out else out) out,bG t)∧
   ∀ t,t ∈ l.foldl (fun out p=>if p.2=level then Gx xs p.1 out else out) out ↔ t ∈ out∨∃ p ∈ l,p.2=level∧lU xs p.1 t:=by
  intro l
  induction l with
  | nil=>intro out _ h1 h2; exact ⟨h1,h2,fun t=>by simp⟩
  | cons q l ih=>
   intro out hl h1 h2;have R:=hl q Γ;have hq:=fun p y=>hl p (Δ _ y)
   by_cases hv:q.2=level
   ·have J:∀ t,(∃ b ∈ allB xs q.1.body,dD q.1.head b=t) ↔ lU xs q.1 t:=fun t=>(UZ hg R.tight t).trans (Xy hx q.1 t)
    obtain ⟨g1,g2,g3⟩:=NP (fun b=>dD q.1.head b) (allB xs q.1.body) out h1 h2 fun b hb=>VP hx R ((J _).1 ⟨b,hb,rfl⟩)
    rw [List.foldl_cons,if_pos hv];obtain ⟨k1,k2,U⟩:=ih (Gx xs q.1 out) hq g1 g2;refine ⟨k1,k2,fun t=>?_⟩;rw [U]
    have y:t ∈ Gx xs q.1 out ↔ t ∈ out∨lU xs q.1 t:=by
     unfold Gx;rw [g3,J]
    rw [y];constructor
    ·rintro ((h | h) | ⟨p,y,h⟩)
     ·exact .inl h
     ·exact .inr ⟨q,Γ,hv,h⟩
     ·exact .inr ⟨p,Δ _ y,h⟩
    ·rintro (h | ⟨p,y,I,h⟩)
     ·exact .inl (.inl h)
     ·rcases ύ.1 y with rfl | y
      ·exact .inl (.inr h)
      ·exact .inr ⟨p,y,I,h⟩
   ·rw [List.foldl_cons,if_neg hv]
    obtain ⟨k1,k2,U⟩:=ih out hq h1 h2;refine ⟨k1,k2,fun t=>?_⟩;rw [U];constructor
    ·rintro (h | ⟨p,y,h⟩)
     ·exact .inl h
     ·exact .inr ⟨p,Δ _ y,h⟩
    ·rintro (h | ⟨p,y,I,h⟩)
     ·exact .inl h
     ·rcases ύ.1 y with rfl | y
      ·exact absurd I hv
      ·exact .inr ⟨p,y,I,h⟩
 obtain ⟨k1,k2,U⟩:=main rl [] hr rfl (fun x h=>by simp at h)
 exact ⟨k1,k2,fun t=>by
  have:=U t;simp only [List.not_mem_nil,false_or] at this
  exact this⟩
theorem D.jV {xs:List A} (h:gB xs=true):xs.Nodup:=by
 refine List.pairwise_iff_getElem.2 fun i j J I y e=>?_
 have:=Jc h I y;rw [e,vK] at this;omega
theorem D.VQ {xs ys:List A} (h1:gB xs=true) (I:gB ys=true) (J:∀ x ∈ xs,bG x) (f2:∀ x ∈ ys,bG x) (h:∀ t,t ∈ xs ↔ t ∈ ys):xs=ys:=by
 refine vM h1 I (fun x y=>vZ (J x y)) (fun x y=>vZ (f2 x y)) fun a=>?_
 rw [Bool.eq_iff_iff,lW,lW];constructor
 ·rintro ⟨x,y,hc⟩; exact ⟨x,(h x).1 y,hc⟩
 ·rintro ⟨x,y,hc⟩; exact ⟨x,(h x).2 y,hc⟩
def D.jO (B sb mu mp:Nat) (Fb:Nat→Prop) (fr:List Nat) (fs:List A) (rn:List Nat) (w:World):Prop:=
 ∃ y cf Lf I J Lr U bf,lT B sb mu mp y fs.length cf Lf fs bf I rn.length J Lr rn (Bj fs) (idxs fs) U w∧(∀ x ∈ bf,Fb x)∧∀ x ∈ fr,Free B sb mu mp (.slice y fs.length cf) (.slice I rn.length J) U x∧x < w.heap.size
section
variable {B sb mu mp:Nat} {Fb:Nat→Prop} {fr:List Nat} {fs:List A} {rn:List Nat} {w w':World}
theorem D.lT.fresh {y:Option Addr} {I cf:Nat} {Lf:List Value} {bf:List Nat} {J:Option Addr} {nr U:Nat} {Lr:List Value} {Lp:List (Value × Value)} {G:WK→List Nat} {ou:List Nat} (h:lT B sb mu mp y I cf Lf fs bf J nr U Lr rn Lp G ou w) {x:Nat} (hx:w.heap.size≤x):Free B sb mu mp (.slice y I cf) (.slice J nr U) ou x:=by
 obtain ⟨l1,l2,l3,_⟩:=h.lo;have hs:=h.qH;exact ⟨fun e=>by have:=(bZ h.cF.own e).2; omega,fun e=>by have:=(bZ h.cR.own e).2; omega,fun e=>by have:=(h.ous x e).2; omega,by omega⟩
theorem D.jO.more (h:jO B sb mu mp Fb fr fs rn w) (I:Below w.heap.size w w') (xs:List Nat) (J:∀ x ∈ xs,w.heap.size≤x∧x < w'.heap.size):jO B sb mu mp Fb (fr ++ xs) fs rn w':=by
 obtain ⟨Af,cf,Lf,Ar,cr,Lr,ou,bf,S,h1,U⟩:=h;refine ⟨Af,cf,Lf,Ar,cr,Lr,ou,bf,S.later I,h1,fun x y=>?_⟩
 rcases μ.1 y with g | g
 ·exact ⟨(U x g).1,κ (U x g).2 I.size⟩
 ·exact ⟨S.fresh (J x g).1,(J x g).2⟩
theorem D.jO.later (h:jO B sb mu mp Fb fr fs rn w) (y:Below w.heap.size w w'):jO B sb mu mp Fb fr fs rn w':=by
 have:=h.more y [] (fun x I=>by simp at I);simpa using this
theorem D.jO.sub (h:jO B sb mu mp Fb fr fs rn w) {y:List Nat} (I:∀ x ∈ y,x ∈ fr):jO B sb mu mp Fb y fs rn w:=by
 obtain ⟨J,cf,Lf,U,cr,Lr,ou,bf,S,h1,h2⟩:=h;exact ⟨J,cf,Lf,U,cr,Lr,ou,bf,S,h1,fun x hx=>h2 x (I x hx)⟩
theorem D.jO.mono (h:jO B sb mu mp Fb fr fs rn w) {Fb':Nat→Prop} (I:∀ x,Fb x→x < w.heap.size→Fb' x):jO B sb mu mp Fb' fr fs rn w:=by
 obtain ⟨J,cf,Lf,U,cr,Lr,ou,bf,S,h1,h2⟩:=h;exact ⟨J,cf,Lf,U,cr,Lr,ou,bf,S,fun x y=>I x (h1 x y) (S.cF.row.lt au x y),h2⟩
theorem D.jO.other (h:jO B sb mu mp Fb fr fs rn w) {c:Nat} (hc:c ∈ fr) (hb:¬ Fb c) (J:w.heap.size≤w'.heap.size) (I:∀ k,k < w.heap.size→k ≠ c→w'.heap[k]? = w.heap[k]?):jO B sb mu mp Fb fr fs rn w':=by
 obtain ⟨Af,cf,Lf,Ar,cr,Lr,ou,bf,S,h1,U⟩:=h;obtain ⟨l1,l2,l3,_⟩:=S.lo;have hz:=S.qH;obtain ⟨f,r,u,s⟩:=(U c hc).1
 refine ⟨Af,cf,Lf,Ar,cr,Lr,ou,bf,⟨(I sb (by omega) (by omega)).trans S.blk,S.ef,S.er,S.cF.nV au (fun x y=>I x (bZ S.cF.own y).2 (fun e=>f (e ▸ y))) (fun x y=>I x (S.cF.row.lt au x y) (fun e=>hb (e ▸ h1 x y))),
  S.cR.nV jh (fun x y=>I x (bZ S.cR.own y).2 (fun e=>r (e ▸ y))) (fun x y=>by simp at y),S.un.keep (I mu (by omega) (by omega)) (fun x y=>I x (S.ous x y).2 (fun e=>u (e ▸ y))),S.pl.same (I mp (by omega) (by omega)),S.dFR,S.dF,S.dR,S.bfs,S.lo,
  fun x y=>⟨(S.ous x y).1,κ (S.ous x y).2 J⟩,τ hz J⟩,h1,fun x y=>⟨(U x y).1,κ (U x y).2 J⟩⟩
theorem D.jO.view (h:jO B sb mu mp Fb fr fs rn w):∃ bs,kW sb fs rn bs w:=by
 obtain ⟨y,cf,Lf,I,J,U,ou,bf,S,h1,h2⟩:=h;obtain ⟨bs,g,_⟩:=S.view 0 (by omega);exact ⟨bs,g⟩
theorem D.jO.lt (h:jO B sb mu mp Fb fr fs rn w):B≤w.heap.size∧sb < B∧∀ x ∈ fr,x < w.heap.size:=by
 obtain ⟨J,cf,Lf,U,cr,Lr,ou,bf,S,h1,y⟩:=h;exact ⟨S.qH,S.lo.1,fun x I=>(y x I).2⟩
theorem Xz (h:jO B sb mu mp Fb fr fs rn w) {a:A} {c1:Value} {ba:List Nat} (ha:aK w [.string a.name,c1] a ba) (J:∀ x ∈ ba,x ∈ fr) (U:∀ x ∈ ba,Fb x) (a0:∀ f ∈ fs,bG f) (hok:bG a) (a1:a ∉ fs) (a2:fs.length≤1000000) (a3:rn.length≤1000000) (rd B0:Nat) (a4:B0≤sb∧B0≤mu∧B0≤mp∧B0≤B):
  Calls Tryz.prog 112 #[.pointer (some ⟨sb,0,none⟩),.agg #[.string a.name,c1],.int .i64 rd] w fun e w'=>e=.returned (.tuple #[])∧Below B0 w w'∧jO B sb mu mp Fb fr (fs ++ [a]) (rn ++ [rd]) w'∧∀ x ∈ fr,w'.heap[x]? = w.heap[x]?:=by
 obtain ⟨Af,cf,Lf,Ar,cr,Lr,ou,bf,S,h1,h2⟩:=h;refine (put_any B sb mu mp Af cf Lf fs bf Ar cr Lr rn (Bj fs) ou a c1 ba fr rd w S ha J (fun x y=>(h2 x y).1) (fun x y=>(h2 x y).2) hok.ok (NK a0 hok a1) a2 a3 B0 a4).mono ?_;rintro e w' ⟨rfl,hb,a5,a6,a7,a8,a9,aa,ab,S',I⟩;refine ⟨rfl,hb,⟨a5,a6,a7,a8,a9,aa,ab,bf ++ ba,?_,fun x y=>(μ.1 y).elim (h1 x) (U x),fun x y=>⟨?_,κ (h2 x y).2 hb.size⟩⟩,fun x y=>(I x y).2⟩
 ·rw [IV,χ,χ]; exact S'
 ·have:=(I x y).1
  rw [χ,χ]; exact this
end
theorem D.JO.tV {xs:List A} {I:List Nat} {y w:World} (h:JO xs I y xs.length w) (J:∀ x ∈ I,x < y.heap.size):Below y.heap.size y w∧jO (y.heap.size+3) (y.heap.size+2) y.heap.size (y.heap.size+1) (fun x=>x ∈ I) [] xs (List.replicate xs.length 0) w:=by
 obtain ⟨h1,U,cf,Lf,Ar,cr,Lr,ou,bf,S,h2⟩:=h.all;exact ⟨h1,U,cf,Lf,Ar,cr,Lr,ou,bf,S,h2,fun x hx=>by simp at hx⟩
end
end Go.Proofs.YtkjinanbccloeaaGreatDoor
