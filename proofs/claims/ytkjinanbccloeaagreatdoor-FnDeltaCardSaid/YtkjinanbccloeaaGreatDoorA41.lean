/- Of the proof of FnDelta: SetP, AllI, RndP, SetQ. -/
import Derived.Test.YtkjinanbccloeaaGreatDoorA40
set_option linter.unusedVariables false
set_option maxHeartbeats 4000000
set_option maxRecDepth 100000
namespace Go.Proofs.YtkjinanbccloeaaGreatDoor
section
open Go.RowKit D
theorem D.WX {rs:List Ru} {lv:List Nat} (Inv:Nat→Rd→Nat→Prop) (hok:∀ k r n,Inv k r n→qh r)
  (y:∀ k r n,k≤rs.length→Inv (k+1) r n→(fM rs lv (rs.length - k) r (n+1)).1.length≤300→(fM rs lv (rs.length - k) r (n+1)).1.length ≠ r.1.length→Inv (k+1) (fM rs lv (rs.length - k) r (n+1)) (n+1))
  (J:∀ k r n,k≤rs.length→Inv (k+1) r n→(fM rs lv (rs.length - k) r (n+1)).1.length=r.1.length→Inv k (fM rs lv (rs.length - k) r (n+1)) n):
  ∀ (k fuel:Nat) (r:Rd) (n:Nat),k≤rs.length+1→Inv k r n→r.1.length≤300→302≤fuel+r.1.length→
   ((CG rs lv k fuel r n).2=true∧(CG rs lv k fuel r n).1.1.length≤300∧∃ n',Inv 0 (CG rs lv k fuel r n).1 n') ∨
   ((CG rs lv k fuel r n).2=false∧∃ k' r' n',k'≤rs.length∧Inv (k'+1) r' n'∧300 < (fM rs lv (rs.length - k') r' (n'+1)).1.length):=by
 intro k
 induction k with
 | zero=>
  intro fuel r n _ I hl _;rw [CG];exact .inl ⟨rfl,hl,n,I⟩
 | succ k ihk=>
  intro fuel
  induction fuel with
  | zero=>intro r n _ _ h1 U; omega
  | succ fuel ihf=>
   intro r n hk I hl hf;have a0:=(oG (hok _ _ _ I) (n+1) (jh r.1 (rs.length - k) (rs.zip lv))).2.1;have a1:r.1.length≤(fM rs lv (rs.length - k) r (n+1)).1.length:=a0;rw [CG];by_cases h1:300 < (fM rs lv (rs.length - k) r (n+1)).1.length
   ·rw [if_pos h1]
    exact .inr ⟨rfl,k,r,n,by omega,I,h1⟩
   ·rw [if_neg h1]
    by_cases U:(fM rs lv (rs.length - k) r (n+1)).1.length=r.1.length
    ·rw [if_pos U]
     exact ihk 302 _ n (by omega) (J k r n (by omega) I U) (by omega) (by omega)
    ·rw [if_neg U]
     exact ihf _ (n+1) hk (y k r n (by omega) I (by omega) U) (by omega) (by omega)
def D.RP (S:A→Prop) (r:Ru) (t:A):Prop:=∃ σ:Wo,t=ig σ r.head∧(∀ p ∈ r.body,p.no=false→S (ig σ p.atom))∧∀ p ∈ r.body,p.no=true→¬ S (ig σ p.atom)
theorem D.rX {S y:A→Prop} {r:Ru} {t:A} (h:∀ x,(∃ p ∈ r.body,p.atom.name=x.name)→(S x ↔ y x)):RP S r t ↔ RP y r t:=by
 have key:∀ (S y:A→Prop),(∀ x,(∃ p ∈ r.body,p.atom.name=x.name)→(S x ↔ y x))→RP S r t→RP y r t:=by
  rintro S y h ⟨σ,rfl,h1,J⟩;exact ⟨σ,rfl,fun p I hn=>(h (ig σ p.atom) ⟨p,I,rfl⟩).1 (h1 p I hn),fun p I hn U=>J p I hn ((h (ig σ p.atom) ⟨p,I,rfl⟩).2 U)⟩
 exact ⟨key S y h,key y S fun x hx=>(h x hx).symm⟩
def D.TS (rs:List Ru) (k:Nat) (S:A→Prop) (t:A):Prop:=∃ r ∈ rs,iU rs r.head.name=k∧RP S r t
def D.O1 (rs:List Ru) (k:Nat) (S:A→Prop):Nat→A→Prop
 | 0=>S
 | j+1=>fun t=>O1 rs k S j t∨TS rs k (O1 rs k S j) t
def D.WY (rs:List Ru) (k:Nat) (S:A→Prop):A→Prop:=fun t=>∃ j,O1 rs k S j t
def D.IK (rs:List Ru) (S:A→Prop):Nat→A→Prop
 | 0=>S
 | k+1=>WY rs k (IK rs S k)
def D.O3 (rs:List Ru) (S:A→Prop):A→Prop:=IK rs S (rs.length+1)
theorem D.Vl {rs:List Ru} {k:Nat} {S:A→Prop} {i j:Nat} (h:i≤j) {t:A} (y:O1 rs k S i t):O1 rs k S j t:=by
 induction h with
 | refl=>exact y
 | step _ ih=>exact .inl ih
theorem D.WZ {rs:List Ru} {S:A→Prop} {i j:Nat} (h:i≤j) {t:A} (y:IK rs S i t):IK rs S j t:=by
 induction h with
 | refl=>exact y
 | step _ ih=>exact ⟨0,ih⟩
theorem D.MV {rs:List Ru} {k:Nat} {S y:A→Prop} (h:∀ x,S x ↔ y x) (t:A):TS rs k S t ↔ TS rs k y t:=by
 have:S=y:=funext fun x=>propext (h x)
 rw [this]
theorem D.RQ {rs:List Ru} {k:Nat} {S:A→Prop} {j:Nat} (h:∀ t,TS rs k (O1 rs k S j) t→O1 rs k S j t) (t:A):WY rs k S t ↔ O1 rs k S j t:=by
 constructor
 ·rintro ⟨i,J⟩
  rcases Nat.le_total i j with y | y
  ·exact Vl y J
  ·have:∀ d t,O1 rs k S (j+d) t→O1 rs k S j t:=by
    intro d
    induction d with
    | zero=>intro t I; exact I
    | succ d ih=>
     intro t I
     rcases I with I | ⟨r,hr,U,hf⟩
     ·exact ih t I
     ·refine h t ⟨r,hr,U,(rX fun x _=>?_).1 hf⟩
      exact ⟨ih x,fun hx=>Vl (Nat.le_add_right _ _) hx⟩
   obtain ⟨d,rfl⟩:=Nat.exists_eq_add_of_le y;exact this d t J
 ·exact fun h=>⟨j,h⟩
theorem D.PZ {rs:List Ru} (hc:Closed rs (ay rs)) {p:Ru × Nat} (J:p ∈ rs.zip (ay rs)):p.1 ∈ rs∧p.2=iU rs p.1.head.name:=by
 obtain ⟨i,y,rfl⟩:=List.getElem_of_mem J;simp only [List.length_zip,gG,Nat.min_self] at y;have I:=(oM hc).2 i y;have U:dV rs i=rs[i]:=by unfold dV; simp [List.getD,y]
 have e2:iV (ay rs) i=(ay rs)[i]'(by rw [gG]; exact y):=by unfold iV; simp [List.getD,gG,y]
 rw [U,e2] at I;simp only [List.getElem_zip];exact ⟨δ _,I⟩
theorem D.Vm {rs:List Ru} (hc:Closed rs (ay rs)) {r:Ru} (hr:r ∈ rs):(r,iU rs r.head.name) ∈ rs.zip (ay rs):=by
 obtain ⟨i,y,rfl⟩:=List.getElem_of_mem hr;refine List.mem_iff_getElem.2 ⟨i,by simp [gG]; exact y,?_⟩;have:=(PZ hc (δ (l:=rs.zip (ay rs)) (n:=i) (by simp [gG]; exact y))).2;simp only [List.getElem_zip] at this ⊢;rw [this]
structure D.xq (rs:List Ru):Prop where
 fol:∀ r ∈ rs,kZ r
 cyc:Closed rs (ay rs)
theorem D.Vo {rs:List Ru} (h:fH rs=0):xq rs:=by
 refine ⟨fun r hr=>Vg h hr,?_⟩;unfold fH at h
 split at h
 ·cases h
 ·split at h
  ·cases h
  ·split at h
   ·cases h
   ·split at h
    ·cases h
    ·split at h
     ·cases h
     ·rename_i hc
      exact Oa (by simpa using hc)
theorem D.P5 {rs:List Ru} (h:xq rs) {xs:List A} (J:∀ x ∈ xs,aW x) (level:Nat):fU (jh xs level (rs.zip (ay rs)))=true∧(∀ t ∈ jh xs level (rs.zip (ay rs)),aW t)∧∀ t,t ∈ jh xs level (rs.zip (ay rs)) ↔ TS rs level (fun x=>x ∈ xs) t:=by
 obtain ⟨k1,k2,U⟩:=RN (level:=level) J (rl:=rs.zip (ay rs)) fun p y=>h.fol _ (List.of_mem_zip y).1
 refine ⟨k1,k2,fun t=>(U t).trans ⟨?_,?_⟩⟩
 ·rintro ⟨p,y,I,hf⟩
  obtain ⟨g1,g2⟩:=PZ h.cyc y;exact ⟨p.1,g1,by rw [← g2]; exact I,hf⟩
 ·rintro ⟨r,hr,I,hf⟩
  exact ⟨_,Vm h.cyc hr,I,hf⟩
theorem D.O4 {r:Rd} (hr:∀ x ∈ r.1,aW x) (n:Nat):∀ more:List A,(∀ x ∈ more,aW x)→(∀ x ∈ (jr more n r).1,aW x)∧∀ t,t ∈ (jr more n r).1 ↔ t ∈ r.1∨t ∈ more:=by
 intro more
 induction more generalizing r with
 | nil=>intro _; exact ⟨hr,fun t=>by simp [jr]⟩
 | cons a more ih=>
  intro hm;have ha:=hm a Γ;have h1:∀ x,x ∈ (iE r a n).1 ↔ x ∈ r.1∨x=a:=fun x=>by rw [vk]; exact yU hr ha x
  obtain ⟨I,J⟩:=ih (r:=iE r a n) (fun x y=>((h1 x).1 y).elim (hr x) fun e=>e ▸ ha) fun x y=>hm x (Δ _ y)
  refine ⟨I,fun t=>?_⟩;have:jr (a :: more) n r=jr more n (iE r a n):=rfl;rw [this,J,h1,List.mem_cons,or_assoc]
theorem D.lX {rs:List Ru} (h:xq rs) {r:Rd} (hr:∀ x ∈ r.1,aW x) (level n:Nat):(∀ x ∈ (fM rs (ay rs) level r n).1,aW x)∧∀ t,t ∈ (fM rs (ay rs) level r n).1 ↔ t ∈ r.1∨TS rs level (fun x=>x ∈ r.1) t:=by
 obtain ⟨_,k2,y⟩:=P5 h hr level;obtain ⟨I,J⟩:=O4 hr n _ k2;exact ⟨I,fun t=>by rw [← y t]; exact J t⟩
theorem D.MW {xs ys:List A} (h1:xs.Nodup) (J:∀ x ∈ xs,x ∈ ys) (h3:ys.length≤xs.length):∀ y ∈ ys,y ∈ xs:=by
 intro y U;by_cases hm:y ∈ xs
 ·exact hm
 ·exfalso
  have h4:(y :: xs).Nodup:=List.nodup_cons.2 ⟨hm,h1⟩
  have h5:=List.Nodup.length_le_of_subset h4 (l₂:=ys) (fun x I=>by
   rcases List.mem_cons.1 I with rfl | I
   ·exact U
   ·exact J x I)
  simp at h5;omega
structure D.XY (rs:List Ru) (S:A→Prop) (k:Nat) (r:Rd) (n:Nat):Prop where
 ok:qh r
 fact:∀ x ∈ r.1,aW x
 set:match k with
  | 0=>∀ t,t ∈ r.1 ↔ O3 rs S t
  | k+1=>∃ j,∀ t,t ∈ r.1 ↔ O1 rs (rs.length - k) (IK rs S (rs.length - k)) j t
theorem D.Ew {rs:List Ru} (h:xq rs) {r:Rd} (hr:∀ x ∈ r.1,aW x) {level j n:Nat} {S:A→Prop} (y:∀ t,t ∈ r.1 ↔ O1 rs level S j t) (t:A):t ∈ (fM rs (ay rs) level r n).1 ↔ O1 rs level S (j+1) t:=by
 rw [(lX h hr level n).2 t,y t,MV y t];exact Iff.rfl
theorem D.MX {rs:List Ru} (h:xq rs) {given:List A} (ha:fU given=true) (hf:∀ x ∈ given,aW x) (hl:given.length≤300):
  ((iF rs given).2=true∧(iF rs given).1.1.length≤300∧qh (iF rs given).1∧(∀ x ∈ (iF rs given).1.1,aW x)∧∀ t,t ∈ (iF rs given).1.1 ↔ O3 rs (fun x=>x ∈ given) t) ∨
  ((iF rs given).2=false∧∃ L:List A,L.Nodup∧300 < L.length∧∀ t ∈ L,O3 rs (fun x=>x ∈ given) t):=by
 have main:=WX (rs:=rs) (lv:=ay rs) (XY rs fun x=>x ∈ given) (fun k r n y=>y.ok)
  (fun k r n hk y _ _=>by
   obtain ⟨j,I⟩:=y.set
   exact ⟨(oG y.ok _ _).1,(lX h y.fact _ _).1,j+1,Ew h y.fact I⟩)
  (fun k r n hk y he=>by
   obtain ⟨j,I⟩:=y.set;have hs:=Ew (n:=n+1) h y.fact I
   have a0:∀ t,WY rs (rs.length - k) (IK rs (fun x=>x ∈ given) (rs.length - k)) t ↔ O1 rs (rs.length - k) (IK rs (fun x=>x ∈ given) (rs.length - k)) j t:=RQ fun t U=>by
    refine (I t).1 (MW (lG y.ok.fU) (fun x hx=>((lX h y.fact _ (n+1)).2 x).2 (.inl hx)) (Nat.le_of_eq he) t ?_);exact ((lX h y.fact _ (n+1)).2 t).2 (.inr ((MV I t).2 U))
   have J:∀ t,t ∈ (fM rs (ay rs) (rs.length - k) r (n+1)).1 ↔ IK rs (fun x=>x ∈ given) (rs.length - k+1) t:=fun t=>by
    show _ ↔ WY rs _ _ t;rw [a0,← I t];constructor
    ·exact fun U=>MW (lG y.ok.fU) (fun x hx=>((lX h y.fact _ (n+1)).2 x).2 (.inl hx)) (Nat.le_of_eq he) t U
    ·exact fun U=>((lX h y.fact _ (n+1)).2 t).2 (.inl U)
   refine ⟨(oG y.ok _ _).1,(lX h y.fact _ _).1,?_⟩
   cases k with
   | zero=>exact J
   | succ k=>
    have e:rs.length - k=rs.length - (k+1)+1:=by omega
    refine ⟨0,fun t=>?_⟩;rw [e]
    exact J t)
  (rs.length+1) 302 (given,List.replicate given.length 0) 0 ν ⟨⟨ha,by simp⟩,hf,⟨0,fun t=>by simp [O1,IK]⟩⟩ hl (by simp)
 rcases main with ⟨h1,h2,n',y⟩ | ⟨h1,k',r',n',hk,y,hlen⟩
 ·exact .inl ⟨h1,h2,y.ok,y.fact,y.set⟩
 ·refine .inr ⟨h1,_,lG (oG y.ok (n'+1) _).1.fU,hlen,fun t U=>?_⟩
  obtain ⟨j,I⟩:=y.set;have h3:=(Ew h y.fact I t).1 U;exact WZ (show rs.length - k'+1≤rs.length+1 by omega) ⟨j+1,h3⟩
end
section
open Go.RowKit D
attribute [local go_sem ↓] Go.wp_at_zero Go.wp_at_succ
section
variable (vars:List ByteArray) (fs:List A) (rn:List Nat) (bs:List Nat) (ps ns:List A) (head:A) (sk sb:Nat) (Ap:Option Addr) (cp:Nat) (An:Option Addr) (cn:Nat) (bp bn:List Nat) (wt:Nat→Bool) (ah:Int) (c5 c7:Addr) (K:Nat→Prop) (T:Bool→World→List A→Prop) (go:List A→Bool)
theorem Vp (E:rV vars fs ps ns head wt) (hK:∀ k,K k→k ≠ sk) (hT:xk vars head sk K c5 c7 T go):∀ (left:Nat),left < 2 ^ ps.length→∀ (b:Bd) (told:List A) (w:World),
  qH vars fs rn bs ps ns sk sb (.slice Ap ps.length cp) (.slice An ns.length cn) bp bn wt ah (.func (.func 116) #[] #[.pointer (some c5),.pointer (some c7)]) K b w→
  (∀ j (h:j < ps.length),left.testBit j=false→yh b ps[j].args)→T true w told→
  Calls Tryz.prog 179 #[.pointer (some ⟨sk,0,none⟩),.int .i64 left] w (uI vars fs ps ns head K sk T go b left told w):=by
 intro left
 induction left using Nat.strongRecOn with
 | ind left IH=>
  intro hl b told w S I J;by_cases hs:setB vars b wt=true
  ·cases hh:yP fs ns b
   ·by_cases h0:left=0
    ·subst h0
     exact Vk vars fs rn bs ps ns head sk sb Ap cp An cn bp bn wt ah c5 c7 K T go E hK hT b told w S (fun p hp=>by
      obtain ⟨j,hj,e⟩:=List.getElem_of_mem hp
      rw [← e]; exact I j hj (by simp)) J hh
    ·exact MS vars fs rn bs ps ns head sk sb Ap cp An cn bp bn wt ah c5 c7 K T go E hK hT left hl h0 (fun l' U b' y w' S' c' t'=>IH l' U (by omega) b' y w' S' c' t') b told w S I J (fun _=>hh)
   ·exact run_stop vars fs rn bs ps ns head sk sb Ap cp An cn bp bn wt ah c5 c7 K T go E hK hT left b told w S J hs hh
  ·by_cases h0:left=0
   ·subst h0
    exfalso;apply hs
    exact (uH E.hv S.ok E.want E.hin E.nin).2 (E.tight b fun p hp=>by
     obtain ⟨j,hj,e⟩:=List.getElem_of_mem hp
     rw [← e]; exact I j hj (by simp))
   ·exact MS vars fs rn bs ps ns head sk sb Ap cp An cn bp bn wt ah c5 c7 K T go E hK hT left hl h0 (fun l' U b' y w' S' c' t'=>IH l' U (by omega) b' y w' S' c' t') b told w S I J (fun h=>absurd h hs)
theorem D.Vq (n:Nat) (h:n≤4):wrap64 (wrap64 (2 ^ n) - 1)=((2 ^ n - 1:Nat):Int):=by
 have H:∀ n:Nat,n < 5→wrap64 (wrap64 (2 ^ n) - 1)=((2 ^ n - 1:Nat):Int):=by decide +kernel
 exact H n (by omega)
theorem D.Vr (n j:Nat) (h:n≤4) (y:j < n):(2 ^ n - 1).testBit j=true:=by
 rw [Nat.testBit_two_pow_sub_one]; simpa using y
theorem E8 (E:rV vars fs ps ns head wt) (hK:∀ k,K k→k ≠ sk) (J:xk vars head sk K c5 c7 T go) (told:List A) (w:World)
  (S:qH vars fs rn bs ps ns sk sb (.slice Ap ps.length cp) (.slice An ns.length cn) bp bn wt ah (.func (.func 116) #[] #[.pointer (some c5),.pointer (some c7)]) K [] w) (I:T true w told):
  Calls Tryz.prog 118 #[.pointer (some ⟨sk,0,none⟩)] w fun e w'=>e=.returned (.tuple #[])∧∃ held more,jk vars fs ps ns head K sk T go [] (2 ^ ps.length - 1) told held more w w':=by
 have y:=Vp vars fs rn bs ps ns head sk sb Ap cp An cn bp bn wt ah c5 c7 K T go E hK J (2 ^ ps.length - 1) (by have:=Nat.two_pow_pos ps.length; omega) [] told w S (fun j hj hb=>by rw [Vr _ _ E.p4 hj] at hb; cases hb) I;have y0:=S.sea.p1;have hp:=Vq ps.length E.p4;have a0:(ps.length:Int)≤4:=by have:=E.p4; omega
 clear S I J
 go_enter Tryz.func118,Tryz.ntmps118
 go_wp2_with fail
 refine y.mono ?_;rintro e w2 ⟨held,more,rfl,U⟩;have HP:=η U;clear y U;go_wp2
 go_end0
 exact ⟨rfl,held,more,HP.out⟩
end
end
section
open Go.RowKit D
open Classical in
noncomputable def D.newL (fs told:List A):List A:=told.foldl (fun acc a=>if a ∈ fs∨a ∈ acc then acc else acc ++ [a]) []
open Classical in
theorem D.zT (fs told:List A) (a:A):newL fs (told ++ [a])=if a ∈ fs∨a ∈ newL fs told then newL fs told else newL fs told ++ [a]:=by
 unfold newL; rw [List.foldl_append]; rfl
theorem D.Vs {α:Type} {P:List α→Prop} (h0:P []) (h1:∀ l a,P l→P (l ++ [a])) (l:List α):P l:=by
 have:∀ n (l:List α),l.length=n→P l:=by
  intro n
  induction n with
  | zero=>intro l h; rw [List.length_eq_zero_iff.1 h]; exact h0
  | succ n ih=>
   intro l h;have y:l ≠ []:=by intro e; rw [e] at h; simp at h
   rw [← List.dropLast_concat_getLast y];exact h1 _ _ (ih _ (by simp [h]))
 exact this _ l rfl
theorem D.qK (fs told:List A):(newL fs told).Nodup∧∀ t,t ∈ newL fs told ↔ t ∈ told∧t ∉ fs:=by
 refine Vs (P:=fun told=>(newL fs told).Nodup∧∀ t,t ∈ newL fs told ↔ t ∈ told∧t ∉ fs) ⟨by simp [newL],fun t=>by simp [newL]⟩ (fun told a ⟨h1,U⟩=>?_) told;rw [zT]
 split
 ·rename_i h
  refine ⟨h1,fun t=>?_⟩;rw [U,μ,List.mem_singleton];constructor
  ·exact fun ⟨J,I⟩=>⟨.inl J,I⟩
  ·rintro ⟨J | rfl,I⟩
   ·exact ⟨J,I⟩
   ·rcases h with h | h
    ·exact absurd h I
    ·exact (U t).1 h
 ·rename_i h
  have ha:a ∉ fs∧a ∉ newL fs told:=⟨fun e=>h (.inl e),fun e=>h (.inr e)⟩;refine ⟨List.nodup_append.2 ⟨h1,by simp,fun x hx y hy e=>?_⟩,fun t=>?_⟩
  ·simp at hy
   exact ha.2 (by rw [← hy,← e]; exact hx)
  ·rw [μ,List.mem_singleton,μ,List.mem_singleton,U]
   constructor
   ·rintro (⟨J,I⟩ | rfl)
    ·exact ⟨.inl J,I⟩
    ·exact ⟨.inr rfl,ha.1⟩
   ·rintro ⟨J | rfl,I⟩
    ·exact .inl ⟨J,I⟩
    ·exact .inr rfl
open Classical in
noncomputable def D.Vt (fs L:List A):Bool:=decide ((∃ told a,L=told ++ [a]∧(a ∈ fs∨a ∈ newL fs told))∨fs.length+(newL fs L).length≤300)
open Classical in
theorem D.MZ (fs told:List A) (a:A):Vt fs (told ++ [a])=decide (a ∈ fs∨a ∈ newL fs told∨fs.length+(newL fs (told ++ [a])).length≤300):=by
 unfold Vt;apply decide_eq_decide.2;refine ⟨?_,?_⟩
 ·rintro (⟨t,b,e,h⟩ | h)
  ·have:=List.append_inj' e rfl
   obtain ⟨rfl,y⟩:=this;simp at y;subst y;exact h.imp id .inl
  ·exact .inr (.inr h)
 ·rintro (h | h | h)
  ·exact .inl ⟨told,a,rfl,.inl h⟩
  ·exact .inl ⟨told,a,rfl,.inr h⟩
  ·exact .inr h
open Classical in
theorem D.RS {fs L:List A} (h:Vt fs L=false):300 < fs.length+(newL fs L).length:=by
 unfold Vt at h;have:=of_decide_eq_false h;have y:¬ fs.length+(newL fs L).length≤300:=fun e=>this (.inr e)
 omega
structure D.Xk (fs:List A) (rn:List Nat) (r:Rd):Prop where
 len:rn.length=fs.length
 perm:(fs.zip rn).Perm (r.1.zip r.2)
theorem D.zip_fst {α β:Type}:∀ {l:List α} {m:List β},l.length≤m.length→(l.zip m).map (·.1)=l
 | [],m,_=>by simp
 | a :: l,[],h=>by simp at h
 | a :: l,b :: m,h=>by simp only [List.zip_cons_cons,List.map_cons]; rw [zip_fst (by simpa using h)]
theorem D.Xk.fst {fs:List A} {rn:List Nat} {r:Rd} (h:Xk fs rn r) (hr:qh r):fs.Perm r.1:=by
 have:=h.perm.map (·.1)
 rwa [zip_fst (Nat.le_of_eq h.len.symm),zip_fst (Nat.le_of_eq hr.len.symm)] at this
theorem D.RU {r:Rd} (hr:qh r) (a:A) (n:Nat):hasB r.1 a=false→((iE r a n).1.zip (iE r a n).2).Perm ((a,n) :: r.1.zip r.2):=by
 intro h
 have e:iE r a n=(r.1.take (pl r.1 a) ++ a :: r.1.drop (pl r.1 a),r.2.take (pl r.1 a) ++ [n] ++ r.2.drop (pl r.1 a)):=by
  unfold iE eF;rw [h];rfl
 rw [e];have J:=(qm hr.fU a).2.2;have U:=hr.len
 have y:(r.1.take (pl r.1 a) ++ a :: r.1.drop (pl r.1 a)).zip (r.2.take (pl r.1 a) ++ [n] ++ r.2.drop (pl r.1 a))=(r.1.take (pl r.1 a)).zip (r.2.take (pl r.1 a)) ++ (a,n) :: (r.1.drop (pl r.1 a)).zip (r.2.drop (pl r.1 a)):=by
  rw [List.append_assoc,List.zip_append (by simp; omega)];rfl
 have I:r.1.zip r.2=(r.1.take (pl r.1 a)).zip (r.2.take (pl r.1 a)) ++ (r.1.drop (pl r.1 a)).zip (r.2.drop (pl r.1 a)):=by
  rw [← List.zip_append (by simp; omega),List.take_append_drop,List.take_append_drop]
 show List.Perm (List.zip _ _) _;rw [y,I];exact List.perm_middle
open Classical in
theorem D.O5 {r:Rd} (hr:qh r) (hf:∀ x ∈ r.1,aW x) (n:Nat):∀ more:List A,(∀ x ∈ more,aW x)→more.Nodup→
  ((jr more n r).1.zip (jr more n r).2).Perm (r.1.zip r.2 ++ (more.filter fun a=>decide (a ∉ r.1)).map fun a=>(a,n)):=by
 intro more
 induction more generalizing r with
 | nil=>intro _ _; simp [jr]
 | cons a more ih=>
  intro hm hn;have ha:=hm a Γ;have y:=List.nodup_cons.1 hn;have h1:∀ x,x ∈ (iE r a n).1 ↔ x ∈ r.1∨x=a:=fun x=>by rw [vk]; exact yU hf ha x
  have J:=ih (r:=iE r a n) (hr.put a n) (fun x I=>((h1 x).1 I).elim (hf x) fun e=>e ▸ ha) (fun x I=>hm x (Δ _ I)) y.2;have U:jr (a :: more) n r=jr more n (iE r a n):=rfl;rw [U]
  have e1:more.filter (fun b=>decide (b ∉ (iE r a n).1))=more.filter fun b=>decide (b ∉ r.1):=by
   refine List.filter_congr fun b hb=>decide_eq_decide.2 ?_
   rw [h1];constructor
   ·exact fun h e=>h (.inl e)
   ·rintro h (e | rfl)
    ·exact h e
    ·exact y.1 hb
  rw [e1] at J;refine J.trans ?_;by_cases hc:a ∈ r.1
  ·have e2:iE r a n=r:=by
    unfold iE;rw [if_pos (lQ hc)]
   rw [e2,List.filter_cons_of_neg (by simpa using hc)]
  ·have hb:hasB r.1 a=false:=by
    cases hh:hasB r.1 a
    ·rfl
    ·exact absurd ((rE (fun x I=>(hf x I).gr) ha.gr).1 hh) hc
   rw [List.filter_cons_of_pos (by simpa using hc),List.map_cons];exact ((RU hr a n hb).append_right _).trans List.perm_middle.symm
def D.OwnAt (rs:List Ru) (level:Nat) (own:List Ru):Prop:=∀ r,r ∈ own ↔ r ∈ rs∧iU rs r.head.name=level
theorem D.GU {rs:List Ru} (h:xq rs) {r:Rd} (hr:qh r) (hf:∀ x ∈ r.1,aW x) {fs:List A} {rn:List Nat} (hs:Xk fs rn r) {level n:Nat} {next:List Ru} {new:List A} (J:∀ q ∈ next,q ∈ rs∧iU rs q.head.name=level)
  (U:∀ q ∈ rs,iU rs q.head.name=level→q ∉ next→∀ t,lK fs q t→t ∈ fs) (hn:new.Nodup) (a1:∀ t,t ∈ new ↔ t ∉ fs∧∃ q ∈ next,lK fs q t):
  Xk (fs ++ new) (rn ++ List.replicate new.length n) (fM rs (ay rs) level r n)∧(fM rs (ay rs) level r n).1.length=fs.length+new.length:=by
 classical
 have a2:=hs.fst hr;have y:∀ x,x ∈ fs ↔ x ∈ r.1:=fun x=>a2.mem_iff
 obtain ⟨k1,k2,k3⟩:=P5 h hf level;have hz:=O5 hr hf n _ k2 (lG k1)
 have hp:((jh r.1 level (rs.zip (ay rs))).filter fun a=>decide (a ∉ r.1)).Perm new:=by
  refine (List.perm_ext_iff_of_nodup ((lG k1).filter _) hn).2 fun t=>?_
  rw [List.mem_filter,k3,a1,decide_eq_true_iff,← y];constructor
  ·rintro ⟨⟨q,hq,hl,a0⟩,h2⟩
   have a3:lK fs q t:=(rX fun x _=>y x).2 a0;refine ⟨h2,q,?_,a3⟩;by_cases a4:q ∈ next
   ·exact a4
   ·exact absurd (U q hq hl a4 t a3) h2
  ·rintro ⟨h2,q,hq,a0⟩
   exact ⟨⟨q,(J q hq).1,(J q hq).2,(rX fun x _=>y x).1 a0⟩,h2⟩
 have I:((fs ++ new).zip (rn ++ List.replicate new.length n)).Perm ((fM rs (ay rs) level r n).1.zip (fM rs (ay rs) level r n).2):=by
  rw [List.zip_append hs.len.symm]
  have e:new.zip (List.replicate new.length n)=new.map fun a=>(a,n):=by
   apply List.ext_getElem
   ·simp
   ·intro i h1 h2
    simp
  rw [e];exact ((hs.perm.append (hp.symm.map _))).trans hz.symm
 have a5:=(oG hr n (jh r.1 level (rs.zip (ay rs)))).1;refine ⟨⟨by simp [hs.len],I⟩,?_⟩;have hl:=I.length_eq;have a6:(fM rs (ay rs) level r n).2.length=(fM rs (ay rs) level r n).1.length:=a5.len;simp only [List.length_zip,χ,List.length_replicate,hs.len,a6,Nat.min_self] at hl;omega
theorem D.Vu {rs:List Ru} (h:xq rs) {r:Rd} (hr:qh r) (hf:∀ x ∈ r.1,aW x) {fs:List A} {rn:List Nat} (hs:Xk fs rn r) {level n:Nat} {next:List Ru} {new:List A} (I:∀ q ∈ next,q ∈ rs∧iU rs q.head.name=level)
  (hn:new.Nodup) (J:∀ t ∈ new,t ∉ fs∧∃ q ∈ next,lK fs q t) (hm:300 < fs.length+new.length):300 < (fM rs (ay rs) level r n).1.length:=by
 classical
 have U:=hs.fst hr;have a0:∀ x,x ∈ fs ↔ x ∈ r.1:=fun x=>U.mem_iff
 have h1:=(lX h hf level n).2;have a1:(r.1 ++ new).Nodup:=List.nodup_append.2 ⟨lG hr.fU,hn,fun x hx y hy e=>(J y hy).1 ((a0 y).2 (e ▸ hx))⟩
 have h2:=qw a1 (l2:=(fM rs (ay rs) level r n).1) fun x hx=>by
  rcases μ.1 hx with hx | hx
  ·exact (h1 x).2 (.inl hx)
  ·obtain ⟨_,q,hq,a2⟩:=J x hx
   exact (h1 x).2 (.inr ⟨q,(I q hq).1,(I q hq).2,(rX fun x _=>a0 x).1 a2⟩)
 rw [χ,← U.length_eq] at h2;omega
theorem D.Na {fs new:List A} {q:Ru} (h:∀ p ∈ q.body,p.no=false→∀ t ∈ new,t.name ≠ p.atom.name) {t:A} (hf:lK (fs ++ new) q t):lK fs q t:=by
 obtain ⟨σ,rfl,h1,I⟩:=hf;refine ⟨σ,rfl,fun p y hn=>?_,fun p y hn hm=>I p y hn (Ξ _ hm)⟩
 rcases μ.1 (h1 p y hn) with hm | hm
 ·exact hm
 ·exact absurd rfl (h p y hn (ig σ p.atom) hm)
end
end Go.Proofs.YtkjinanbccloeaaGreatDoor
