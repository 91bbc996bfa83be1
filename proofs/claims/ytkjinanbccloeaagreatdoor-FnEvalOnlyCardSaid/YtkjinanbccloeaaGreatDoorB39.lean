/- Of the proof of FnEvalOnly: SetP, OncQ, AllI, RndP, SetQ. -/
import Derived.Test.YtkjinanbccloeaaGreatDoorB37
import Derived.Test.YtkjinanbccloeaaGreatDoorB38
set_option linter.unusedVariables false
set_option maxHeartbeats 4000000
set_option maxRecDepth 100000
namespace Go.Proofs.YtkjinanbccloeaaGreatDoor
section
open Go.RowKit D
theorem D.OJ {rs:List Ru} {lv:List Nat} (Inv:Nat→Rd→Nat→Prop) (hok:∀ k r n,Inv k r n→l9 r)
  (y:∀ k r n,k≤rs.length→Inv (k+1) r n→(dK rs lv (rs.length - k) r (n+1)).1.length≤300→(dK rs lv (rs.length - k) r (n+1)).1.length ≠ r.1.length→Inv (k+1) (dK rs lv (rs.length - k) r (n+1)) (n+1))
  (J:∀ k r n,k≤rs.length→Inv (k+1) r n→(dK rs lv (rs.length - k) r (n+1)).1.length=r.1.length→Inv k (dK rs lv (rs.length - k) r (n+1)) n):
  ∀ (k fuel:Nat) (r:Rd) (n:Nat),k≤rs.length+1→Inv k r n→r.1.length≤300→302≤fuel+r.1.length→
   ((zY rs lv k fuel r n).2=true∧(zY rs lv k fuel r n).1.1.length≤300∧∃ n',Inv 0 (zY rs lv k fuel r n).1 n') ∨
   ((zY rs lv k fuel r n).2=false∧∃ k' r' n',k'≤rs.length∧Inv (k'+1) r' n'∧300 < (dK rs lv (rs.length - k') r' (n'+1)).1.length):=by
 intro k
 induction k with
 | zero=>
  intro fuel r n _ I hl _;rw [zY];exact .inl ⟨rfl,hl,n,I⟩
 | succ k ihk=>
  intro fuel
  induction fuel with
  | zero=>intro r n _ _ h1 U; omega
  | succ fuel ihf=>
   intro r n hk I hl hf;have a0:=(lq (hok _ _ _ I) (n+1) (fZ r.1 (rs.length - k) (rs.zip lv))).2.1;have a1:r.1.length≤(dK rs lv (rs.length - k) r (n+1)).1.length:=a0;rw [zY];by_cases h1:300 < (dK rs lv (rs.length - k) r (n+1)).1.length
   ·rw [if_pos h1]
    exact .inr ⟨rfl,k,r,n,by omega,I,h1⟩
   ·rw [if_neg h1]
    by_cases U:(dK rs lv (rs.length - k) r (n+1)).1.length=r.1.length
    ·rw [if_pos U]
     exact ihk 302 _ n (by omega) (J k r n (by omega) I U) (by omega) (by omega)
    ·rw [if_neg U]
     exact ihf _ (n+1) hk (y k r n (by omega) I (by omega) U) (by omega) (by omega)
def D.Ii (S:A→Prop) (r:Ru) (t:A):Prop:=∃ σ:Wo,t=fH σ r.head∧(∀ p ∈ r.body,p.no=false→S (fH σ p.atom))∧∀ p ∈ r.body,p.no=true→¬ S (fH σ p.atom)
theorem D.jZ {S y:A→Prop} {r:Ru} {t:A} (h:∀ x,(∃ p ∈ r.body,p.atom.name=x.name)→(S x ↔ y x)):Ii S r t ↔ Ii y r t:=by
 have I:∀ (S y:A→Prop),(∀ x,(∃ p ∈ r.body,p.atom.name=x.name)→(S x ↔ y x))→Ii S r t→Ii y r t:=by
  rintro S y h ⟨σ,rfl,h1,h2⟩;exact ⟨σ,rfl,fun p J U=>(h (fH σ p.atom) ⟨p,J,rfl⟩).1 (h1 p J U),fun p J U hs=>h2 p J U ((h (fH σ p.atom) ⟨p,J,rfl⟩).2 hs)⟩
 exact ⟨I S y h,I y S fun x hx=>(h x hx).symm⟩
def D.TS (rs:List Ru) (k:Nat) (S:A→Prop) (t:A):Prop:=∃ r ∈ rs,gY rs r.head.name=k∧Ii S r t
def D.NV (rs:List Ru) (k:Nat) (S:A→Prop):Nat→A→Prop
 | 0=>S
 | j+1=>fun t=>NV rs k S j t∨TS rs k (NV rs k S j) t
def D.VU (rs:List Ru) (k:Nat) (S:A→Prop):A→Prop:=fun t=>∃ j,NV rs k S j t
def D.EI (rs:List Ru) (S:A→Prop):Nat→A→Prop
 | 0=>S
 | k+1=>VU rs k (EI rs S k)
def D.NW (rs:List Ru) (S:A→Prop):A→Prop:=EI rs S (rs.length+1)
theorem D.Ur {rs:List Ru} {k:Nat} {S:A→Prop} {i j:Nat} (h:i≤j) {t:A} (y:NV rs k S i t):NV rs k S j t:=by
 induction h with
 | refl=>exact y
 | step _ ih=>exact .inl ih
theorem D.VW {rs:List Ru} {S:A→Prop} {i j:Nat} (h:i≤j) {t:A} (y:EI rs S i t):EI rs S j t:=by
 induction h with
 | refl=>exact y
 | step _ ih=>exact ⟨0,ih⟩
theorem D.Lc {rs:List Ru} {k:Nat} {S y:A→Prop} (h:∀ x,S x ↔ y x) (t:A):TS rs k S t ↔ TS rs k y t:=by
 have:S=y:=funext fun x=>propext (h x)
 rw [this]
theorem D.Qr {rs:List Ru} {k:Nat} {S:A→Prop} {j:Nat} (h:∀ t,TS rs k (NV rs k S j) t→NV rs k S j t) (t:A):VU rs k S t ↔ NV rs k S j t:=by
 constructor
 ·rintro ⟨i,J⟩
  rcases Nat.le_total i j with y | y
  ·exact Ur y J
  ·have:∀ d t,NV rs k S (j+d) t→NV rs k S j t:=by
    intro d
    induction d with
    | zero=>intro t I; exact I
    | succ d ih=>
     intro t I
     rcases I with I | ⟨r,hr,U,hf⟩
     ·exact ih t I
     ·refine h t ⟨r,hr,U,(jZ fun x _=>?_).1 hf⟩
      exact ⟨ih x,fun hx=>Ur (Nat.le_add_right _ _) hx⟩
   obtain ⟨d,rfl⟩:=Nat.exists_eq_add_of_le y;exact this d t J
 ·exact fun h=>⟨j,h⟩
theorem D.OL {rs:List Ru} (hc:Closed rs (ay rs)) {p:Ru × Nat} (J:p ∈ rs.zip (ay rs)):p.1 ∈ rs∧p.2=gY rs p.1.head.name:=by
 obtain ⟨i,y,rfl⟩:=List.getElem_of_mem J;simp only [List.length_zip,fC,Nat.min_self] at y;have I:=(nG hc).2 i y;have U:dH rs i=rs[i]:=by unfold dH; simp [List.getD,y]
 have e2:fU (ay rs) i=(ay rs)[i]'(by rw [fC]; exact y):=by unfold fU; simp [List.getD,fC,y]
 rw [U,e2] at I;simp only [List.getElem_zip];exact ⟨δ _,I⟩
theorem D.Us {rs:List Ru} (hc:Closed rs (ay rs)) {r:Ru} (hr:r ∈ rs):(r,gY rs r.head.name) ∈ rs.zip (ay rs):=by
 obtain ⟨i,y,rfl⟩:=List.getElem_of_mem hr;refine List.mem_iff_getElem.2 ⟨i,by simp [fC]; exact y,?_⟩;have:=(OL hc (δ (l:=rs.zip (ay rs)) (n:=i) (by simp [fC]; exact y))).2;simp only [List.getElem_zip] at this ⊢;rw [this]
structure D.qF (rs:List Ru):Prop where
 fol:∀ r ∈ rs,jC r
 cyc:Closed rs (ay rs)
theorem D.Ut {rs:List Ru} (h:dV rs=0):qF rs:=by
 refine ⟨fun r hr=>KX h hr,?_⟩;unfold dV at h
 split at h
 ·cases h
 ·split at h
  ·cases h
  ·split at h
   ·cases h
   ·split at h
    ·cases h
    ·split at h
     ·cases h
     ·rename_i hc
      exact MO (by simpa using hc)
theorem D.Ij {rs:List Ru} (h:qF rs) {xs:List A} (J:∀ x ∈ xs,aI x) (level:Nat):fK (fZ xs level (rs.zip (ay rs)))=true∧(∀ t ∈ fZ xs level (rs.zip (ay rs)),aI t)∧∀ t,t ∈ fZ xs level (rs.zip (ay rs)) ↔ TS rs level (fun x=>x ∈ xs) t:=by
 obtain ⟨k1,k2,U⟩:=Gi (level:=level) J (rl:=rs.zip (ay rs)) fun p y=>h.fol _ (List.of_mem_zip y).1
 refine ⟨k1,k2,fun t=>(U t).trans ⟨?_,?_⟩⟩
 ·rintro ⟨p,y,I,hf⟩
  obtain ⟨g1,g2⟩:=OL h.cyc y;exact ⟨p.1,g1,by rw [← g2]; exact I,hf⟩
 ·rintro ⟨r,hr,I,hf⟩
  exact ⟨_,Us h.cyc hr,I,hf⟩
theorem D.NY {r:Rd} (hr:∀ x ∈ r.1,aI x) (n:Nat):∀ more:List A,(∀ x ∈ more,aI x)→(∀ x ∈ (iy more n r).1,aI x)∧∀ t,t ∈ (iy more n r).1 ↔ t ∈ r.1∨t ∈ more:=by
 intro more
 induction more generalizing r with
 | nil=>intro _; exact ⟨hr,fun t=>by simp [iy]⟩
 | cons a more ih=>
  intro hm;have ha:=hm a Γ;have h1:∀ x,x ∈ (gG r a n).1 ↔ x ∈ r.1∨x=a:=fun x=>by rw [sQ]; exact xC hr ha x
  obtain ⟨I,J⟩:=ih (r:=gG r a n) (fun x y=>((h1 x).1 y).elim (hr x) fun e=>e ▸ ha) fun x y=>hm x (Δ _ y)
  refine ⟨I,fun t=>?_⟩;have:iy (a :: more) n r=iy more n (gG r a n):=rfl;rw [this,J,h1,List.mem_cons,or_assoc]
theorem D.jU {rs:List Ru} (h:qF rs) {r:Rd} (hr:∀ x ∈ r.1,aI x) (level n:Nat):(∀ x ∈ (dK rs (ay rs) level r n).1,aI x)∧∀ t,t ∈ (dK rs (ay rs) level r n).1 ↔ t ∈ r.1∨TS rs level (fun x=>x ∈ r.1) t:=by
 obtain ⟨_,k2,y⟩:=Ij h hr level;obtain ⟨I,J⟩:=NY hr n _ k2;exact ⟨I,fun t=>by rw [← y t]; exact J t⟩
theorem D.Ld {xs ys:List A} (h1:xs.Nodup) (J:∀ x ∈ xs,x ∈ ys) (h3:ys.length≤xs.length):∀ y ∈ ys,y ∈ xs:=by
 intro y U;by_cases hm:y ∈ xs
 ·exact hm
 ·exfalso
  have h4:(y :: xs).Nodup:=List.nodup_cons.2 ⟨hm,h1⟩
  have h5:=List.Nodup.length_le_of_subset h4 (l₂:=ys) (fun x I=>by
   rcases List.mem_cons.1 I with rfl | I
   ·exact U
   ·exact J x I)
  simp at h5;omega
structure D.Xe (rs:List Ru) (S:A→Prop) (k:Nat) (r:Rd) (n:Nat):Prop where
 ok:l9 r
 fact:∀ x ∈ r.1,aI x
 set:match k with
  | 0=>∀ t,t ∈ r.1 ↔ NW rs S t
  | k+1=>∃ j,∀ t,t ∈ r.1 ↔ NV rs (rs.length - k) (EI rs S (rs.length - k)) j t
theorem D.DR {rs:List Ru} (h:qF rs) {r:Rd} (hr:∀ x ∈ r.1,aI x) {level j n:Nat} {S:A→Prop} (y:∀ t,t ∈ r.1 ↔ NV rs level S j t) (t:A):t ∈ (dK rs (ay rs) level r n).1 ↔ NV rs level S (j+1) t:=by
 rw [(jU h hr level n).2 t,y t,Lc y t];exact Iff.rfl
theorem D.Lh {rs:List Ru} (h:qF rs) {given:List A} (ha:fK given=true) (hf:∀ x ∈ given,aI x) (hl:given.length≤300):
  ((dW rs given).2=true∧(dW rs given).1.1.length≤300∧l9 (dW rs given).1∧(∀ x ∈ (dW rs given).1.1,aI x)∧∀ t,t ∈ (dW rs given).1.1 ↔ NW rs (fun x=>x ∈ given) t) ∨
  ((dW rs given).2=false∧∃ L:List A,L.Nodup∧300 < L.length∧∀ t ∈ L,NW rs (fun x=>x ∈ given) t):=by
 have main:=OJ (rs:=rs) (lv:=ay rs) (Xe rs fun x=>x ∈ given) (fun k r n y=>y.ok)
  (fun k r n hk y _ _=>by
   obtain ⟨j,I⟩:=y.set
   exact ⟨(lq y.ok _ _).1,(jU h y.fact _ _).1,j+1,DR h y.fact I⟩)
  (fun k r n hk y he=>by
   obtain ⟨j,I⟩:=y.set;have hs:=DR (n:=n+1) h y.fact I
   have a0:∀ t,VU rs (rs.length - k) (EI rs (fun x=>x ∈ given) (rs.length - k)) t ↔ NV rs (rs.length - k) (EI rs (fun x=>x ∈ given) (rs.length - k)) j t:=Qr fun t U=>by
    refine (I t).1 (Ld (iG y.ok.fK) (fun x hx=>((jU h y.fact _ (n+1)).2 x).2 (.inl hx)) (Nat.le_of_eq he) t ?_);exact ((jU h y.fact _ (n+1)).2 t).2 (.inr ((Lc I t).2 U))
   have J:∀ t,t ∈ (dK rs (ay rs) (rs.length - k) r (n+1)).1 ↔ EI rs (fun x=>x ∈ given) (rs.length - k+1) t:=fun t=>by
    show _ ↔ VU rs _ _ t;rw [a0,← I t];constructor
    ·exact fun U=>Ld (iG y.ok.fK) (fun x hx=>((jU h y.fact _ (n+1)).2 x).2 (.inl hx)) (Nat.le_of_eq he) t U
    ·exact fun U=>((jU h y.fact _ (n+1)).2 t).2 (.inl U)
   refine ⟨(lq y.ok _ _).1,(jU h y.fact _ _).1,?_⟩
   cases k with
   | zero=>exact J
   | succ k=>
    have e:rs.length - k=rs.length - (k+1)+1:=by omega
    refine ⟨0,fun t=>?_⟩;rw [e]
    exact J t)
  (rs.length+1) 302 (given,List.replicate given.length 0) 0 ν ⟨⟨ha,by simp⟩,hf,⟨0,fun t=>by simp [NV,EI]⟩⟩ hl (by simp)
 rcases main with ⟨h1,h2,n',y⟩ | ⟨h1,k',r',n',hk,y,hlen⟩
 ·exact .inl ⟨h1,h2,y.ok,y.fact,y.set⟩
 ·refine .inr ⟨h1,_,iG (lq y.ok (n'+1) _).1.fK,hlen,fun t U=>?_⟩
  obtain ⟨j,I⟩:=y.set;have h3:=(DR h y.fact I t).1 U;exact VW (show rs.length - k'+1≤rs.length+1 by omega) ⟨j+1,h3⟩
theorem D.Gj {rs:List Ru} {xs:List A} (I:∀ x ∈ xs,aI x) (hr:∀ r ∈ rs,jC r):fK (qB rs xs)=true∧(∀ t ∈ qB rs xs,aI t)∧∀ t,t ∈ qB rs xs ↔ ∃ r ∈ rs,ja xs r t:=by
 obtain ⟨k1,k2,J⟩:=Gi (level:=0) I (rl:=rs.zip (List.replicate rs.length 0)) fun p y=>hr _ (List.of_mem_zip y).1
 refine ⟨k1,k2,fun t=>(J t).trans ⟨?_,?_⟩⟩
 ·rintro ⟨p,y,_,h⟩
  exact ⟨p.1,(List.of_mem_zip y).1,h⟩
 ·rintro ⟨r,hr,h⟩
  obtain ⟨i,U,rfl⟩:=List.getElem_of_mem hr;exact ⟨(rs[i],0),List.mem_iff_getElem.2 ⟨i,by simpa using U,by simp⟩,rfl,h⟩
end
section
open Go.RowKit D
attribute [local go_sem ↓] Go.wp_at_zero Go.wp_at_succ
section
variable (vars:List ByteArray) (fs:List A) (rn:List Nat) (bs:List Nat) (ps ns:List A) (head:A) (sk sb:Nat) (Ap:Option Addr) (cp:Nat) (An:Option Addr) (cn:Nat) (bp bn:List Nat) (wt:Nat→Bool) (ah:Int) (c5 c7:Addr) (K:Nat→Prop) (T:Bool→World→List A→Prop) (go:List A→Bool)
theorem Uu (E:qp vars fs ps ns head wt) (hK:∀ k,K k→k ≠ sk) (hT:uZ vars head sk K c5 c7 T go):∀ (left:Nat),left < 2 ^ ps.length→∀ (b:Bd) (told:List A) (w:World),
  oW vars fs rn bs ps ns sk sb (.slice Ap ps.length cp) (.slice An ns.length cn) bp bn wt ah (.func (.func 116) #[] #[.pointer (some c5),.pointer (some c7)]) K b w→
  (∀ j (h:j < ps.length),left.testBit j=false→wF b ps[j].args)→T true w told→
  Calls Tryz.prog 179 #[.pointer (some ⟨sk,0,none⟩),.int .i64 left] w (rU vars fs ps ns head K sk T go b left told w):=by
 intro left
 induction left using Nat.strongRecOn with
 | ind left IH=>
  intro hl b told w S I J;by_cases hs:setB vars b wt=true
  ·cases hh:xq fs ns b
   ·by_cases h0:left=0
    ·subst h0
     exact Uo vars fs rn bs ps ns head sk sb Ap cp An cn bp bn wt ah c5 c7 K T go E hK hT b told w S (fun p hp=>by
      obtain ⟨j,hj,e⟩:=List.getElem_of_mem hp
      rw [← e]; exact I j hj (by simp)) J hh
    ·exact La vars fs rn bs ps ns head sk sb Ap cp An cn bp bn wt ah c5 c7 K T go E hK hT left hl h0 (fun l' U b' y w' S' c' t'=>IH l' U (by omega) b' y w' S' c' t') b told w S I J (fun _=>hh)
   ·exact run_stop vars fs rn bs ps ns head sk sb Ap cp An cn bp bn wt ah c5 c7 K T go E hK hT left b told w S J hs hh
  ·by_cases h0:left=0
   ·subst h0
    exfalso;apply hs
    exact (rQ E.hv S.ok E.want E.hin E.nin).2 (E.tight b fun p hp=>by
     obtain ⟨j,hj,e⟩:=List.getElem_of_mem hp
     rw [← e]; exact I j hj (by simp))
   ·exact La vars fs rn bs ps ns head sk sb Ap cp An cn bp bn wt ah c5 c7 K T go E hK hT left hl h0 (fun l' U b' y w' S' c' t'=>IH l' U (by omega) b' y w' S' c' t') b told w S I J (fun h=>absurd h hs)
theorem D.Uw (n:Nat) (h:n≤4):wrap64 (wrap64 (2 ^ n) - 1)=((2 ^ n - 1:Nat):Int):=by
 have H:∀ n:Nat,n < 5→wrap64 (wrap64 (2 ^ n) - 1)=((2 ^ n - 1:Nat):Int):=by decide +kernel
 exact H n (by omega)
theorem D.Ux (n j:Nat) (h:n≤4) (y:j < n):(2 ^ n - 1).testBit j=true:=by
 rw [Nat.testBit_two_pow_sub_one]; simpa using y
theorem EJ (E:qp vars fs ps ns head wt) (hK:∀ k,K k→k ≠ sk) (J:uZ vars head sk K c5 c7 T go) (told:List A) (w:World)
  (S:oW vars fs rn bs ps ns sk sb (.slice Ap ps.length cp) (.slice An ns.length cn) bp bn wt ah (.func (.func 116) #[] #[.pointer (some c5),.pointer (some c7)]) K [] w) (I:T true w told):
  Calls Tryz.prog 118 #[.pointer (some ⟨sk,0,none⟩)] w fun e w'=>e=.returned (.tuple #[])∧∃ held more,iL vars fs ps ns head K sk T go [] (2 ^ ps.length - 1) told held more w w':=by
 have y:=Uu vars fs rn bs ps ns head sk sb Ap cp An cn bp bn wt ah c5 c7 K T go E hK J (2 ^ ps.length - 1) (by have:=Nat.two_pow_pos ps.length; omega) [] told w S (fun j hj U=>by rw [Ux _ _ E.p4 hj] at U; cases U) I;have y0:=S.sea.p1;have hp:=Uw ps.length E.p4;have a0:(ps.length:Int)≤4:=by have:=E.p4; omega
 clear S I J
 go_enter Tryz.func118,Tryz.ntmps118
 go_wp2_with fail
 refine y.mono ?_;rintro e w2 ⟨held,more,rfl,hP⟩;have HP:=η hP;clear y hP;go_wp2
 go_end0
 exact ⟨rfl,held,more,HP.out⟩
end
end
section
open Go.RowKit D
open Classical in
noncomputable def D.newL (fs told:List A):List A:=told.foldl (fun acc a=>if a ∈ fs∨a ∈ acc then acc else acc ++ [a]) []
open Classical in
theorem D.yC (fs told:List A) (a:A):newL fs (told ++ [a])=if a ∈ fs∨a ∈ newL fs told then newL fs told else newL fs told ++ [a]:=by
 unfold newL; rw [List.foldl_append]; rfl
theorem D.Uy {α:Type} {P:List α→Prop} (h0:P []) (h1:∀ l a,P l→P (l ++ [a])) (l:List α):P l:=by
 have:∀ n (l:List α),l.length=n→P l:=by
  intro n
  induction n with
  | zero=>intro l h; rw [List.length_eq_zero_iff.1 h]; exact h0
  | succ n ih=>
   intro l h;have y:l ≠ []:=by intro e; rw [e] at h; simp at h
   rw [← List.dropLast_concat_getLast y];exact h1 _ _ (ih _ (by simp [h]))
 exact this _ l rfl
theorem D.pq (fs told:List A):(newL fs told).Nodup∧∀ t,t ∈ newL fs told ↔ t ∈ told∧t ∉ fs:=by
 refine Uy (P:=fun told=>(newL fs told).Nodup∧∀ t,t ∈ newL fs told ↔ t ∈ told∧t ∉ fs) ⟨by simp [newL],fun t=>by simp [newL]⟩ (fun told a ⟨h1,U⟩=>?_) told;rw [yC]
 split
 ·rename_i h
  refine ⟨h1,fun t=>?_⟩;rw [U,μ,List.mem_singleton];constructor
  ·exact fun ⟨J,I⟩=>⟨.inl J,I⟩
  ·rintro ⟨J | rfl,I⟩
   ·exact ⟨J,I⟩
   ·rcases h with h | h
    ·exact absurd h I
    ·exact (U t).1 h
 ·rename_i h
  have ha:a ∉ fs∧a ∉ newL fs told:=⟨fun e=>h (.inl e),fun e=>h (.inr e)⟩;refine ⟨List.nodup_append.2 ⟨h1,by simp,fun x hx y hy e=>?_⟩,fun t=>?_⟩
  ·simp at hy
   exact ha.2 (by rw [← hy,← e]; exact hx)
  ·rw [μ,List.mem_singleton,μ,List.mem_singleton,U]
   constructor
   ·rintro (⟨J,I⟩ | rfl)
    ·exact ⟨.inl J,I⟩
    ·exact ⟨.inr rfl,ha.1⟩
   ·rintro ⟨J | rfl,I⟩
    ·exact .inl ⟨J,I⟩
    ·exact .inr rfl
open Classical in
noncomputable def D.Uz (fs L:List A):Bool:=decide ((∃ told a,L=told ++ [a]∧(a ∈ fs∨a ∈ newL fs told))∨fs.length+(newL fs L).length≤300)
open Classical in
theorem D.Lj (fs told:List A) (a:A):Uz fs (told ++ [a])=decide (a ∈ fs∨a ∈ newL fs told∨fs.length+(newL fs (told ++ [a])).length≤300):=by
 unfold Uz;apply decide_eq_decide.2;refine ⟨?_,?_⟩
 ·rintro (⟨t,b,e,h⟩ | h)
  ·have:=List.append_inj' e rfl
   obtain ⟨rfl,y⟩:=this;simp at y;subst y;exact h.imp id .inl
  ·exact .inr (.inr h)
 ·rintro (h | h | h)
  ·exact .inl ⟨told,a,rfl,.inl h⟩
  ·exact .inl ⟨told,a,rfl,.inr h⟩
  ·exact .inr h
open Classical in
theorem D.Qs {fs L:List A} (h:Uz fs L=false):300 < fs.length+(newL fs L).length:=by
 unfold Uz at h;have:=of_decide_eq_false h;have y:¬ fs.length+(newL fs L).length≤300:=fun e=>this (.inr e)
 omega
structure D.VX (fs:List A) (rn:List Nat) (r:Rd):Prop where
 len:rn.length=fs.length
 perm:(fs.zip rn).Perm (r.1.zip r.2)
theorem D.zip_fst {α β:Type}:∀ {l:List α} {m:List β},l.length≤m.length→(l.zip m).map (·.1)=l
 | [],m,_=>by simp
 | a :: l,[],h=>by simp at h
 | a :: l,b :: m,h=>by simp only [List.zip_cons_cons,List.map_cons]; rw [zip_fst (by simpa using h)]
theorem D.VX.fst {fs:List A} {rn:List Nat} {r:Rd} (h:VX fs rn r) (hr:l9 r):fs.Perm r.1:=by
 have:=h.perm.map (·.1)
 rwa [zip_fst (Nat.le_of_eq h.len.symm),zip_fst (Nat.le_of_eq hr.len.symm)] at this
theorem D.Qu {r:Rd} (hr:l9 r) (a:A) (n:Nat):hasB r.1 a=false→((gG r a n).1.zip (gG r a n).2).Perm ((a,n) :: r.1.zip r.2):=by
 intro h
 have e:gG r a n=(r.1.take (pl r.1 a) ++ a :: r.1.drop (pl r.1 a),r.2.take (pl r.1 a) ++ [n] ++ r.2.drop (pl r.1 a)):=by
  unfold gG dP;rw [h];rfl
 rw [e];have J:=(oN hr.fK a).2.2;have U:=hr.len
 have y:(r.1.take (pl r.1 a) ++ a :: r.1.drop (pl r.1 a)).zip (r.2.take (pl r.1 a) ++ [n] ++ r.2.drop (pl r.1 a))=(r.1.take (pl r.1 a)).zip (r.2.take (pl r.1 a)) ++ (a,n) :: (r.1.drop (pl r.1 a)).zip (r.2.drop (pl r.1 a)):=by
  rw [List.append_assoc,List.zip_append (by simp; omega)];rfl
 have I:r.1.zip r.2=(r.1.take (pl r.1 a)).zip (r.2.take (pl r.1 a)) ++ (r.1.drop (pl r.1 a)).zip (r.2.drop (pl r.1 a)):=by
  rw [← List.zip_append (by simp; omega),List.take_append_drop,List.take_append_drop]
 show List.Perm (List.zip _ _) _;rw [y,I];exact List.perm_middle
open Classical in
theorem D.DT {r:Rd} (hr:l9 r) (hf:∀ x ∈ r.1,aI x) (n:Nat):∀ more:List A,(∀ x ∈ more,aI x)→more.Nodup→
  ((iy more n r).1.zip (iy more n r).2).Perm (r.1.zip r.2 ++ (more.filter fun a=>decide (a ∉ r.1)).map fun a=>(a,n)):=by
 intro more
 induction more generalizing r with
 | nil=>intro _ _; simp [iy]
 | cons a more ih=>
  intro hm hn;have ha:=hm a Γ;have y:=List.nodup_cons.1 hn;have h1:∀ x,x ∈ (gG r a n).1 ↔ x ∈ r.1∨x=a:=fun x=>by rw [sQ]; exact xC hf ha x
  have U:=ih (r:=gG r a n) (hr.put a n) (fun x I=>((h1 x).1 I).elim (hf x) fun e=>e ▸ ha) (fun x I=>hm x (Δ _ I)) y.2;have e0:iy (a :: more) n r=iy more n (gG r a n):=rfl;rw [e0]
  have e1:more.filter (fun b=>decide (b ∉ (gG r a n).1))=more.filter fun b=>decide (b ∉ r.1):=by
   refine List.filter_congr fun b J=>decide_eq_decide.2 ?_
   rw [h1];constructor
   ·exact fun h e=>h (.inl e)
   ·rintro h (e | rfl)
    ·exact h e
    ·exact y.1 J
  rw [e1] at U;refine U.trans ?_;by_cases hc:a ∈ r.1
  ·have e2:gG r a n=r:=by
    unfold gG;rw [if_pos (lF hc)]
   rw [e2,List.filter_cons_of_neg (by simpa using hc)]
  ·have J:hasB r.1 a=false:=by
    cases hh:hasB r.1 a
    ·rfl
    ·exact absurd ((qc (fun x I=>(hf x I).gr) ha.gr).1 hh) hc
   rw [List.filter_cons_of_pos (by simpa using hc),List.map_cons];exact ((Qu hr a n J).append_right _).trans List.perm_middle.symm
def D.OwnAt (rs:List Ru) (level:Nat) (own:List Ru):Prop:=∀ r,r ∈ own ↔ r ∈ rs∧gY rs r.head.name=level
theorem D.Gl {rs:List Ru} (h:qF rs) {r:Rd} (hr:l9 r) (hf:∀ x ∈ r.1,aI x) {fs:List A} {rn:List Nat} (hs:VX fs rn r) {level n:Nat} {next:List Ru} {new:List A} (J:∀ q ∈ next,q ∈ rs∧gY rs q.head.name=level)
  (U:∀ q ∈ rs,gY rs q.head.name=level→q ∉ next→∀ t,ja fs q t→t ∈ fs) (hn:new.Nodup) (a1:∀ t,t ∈ new ↔ t ∉ fs∧∃ q ∈ next,ja fs q t):
  VX (fs ++ new) (rn ++ List.replicate new.length n) (dK rs (ay rs) level r n)∧(dK rs (ay rs) level r n).1.length=fs.length+new.length:=by
 classical
 have a2:=hs.fst hr;have y:∀ x,x ∈ fs ↔ x ∈ r.1:=fun x=>a2.mem_iff
 obtain ⟨k1,k2,k3⟩:=Ij h hf level;have hz:=DT hr hf n _ k2 (iG k1)
 have hp:((fZ r.1 level (rs.zip (ay rs))).filter fun a=>decide (a ∉ r.1)).Perm new:=by
  refine (List.perm_ext_iff_of_nodup ((iG k1).filter _) hn).2 fun t=>?_
  rw [List.mem_filter,k3,a1,decide_eq_true_iff,← y];constructor
  ·rintro ⟨⟨q,hq,hl,a0⟩,h2⟩
   have a3:ja fs q t:=(jZ fun x _=>y x).2 a0;refine ⟨h2,q,?_,a3⟩;by_cases a4:q ∈ next
   ·exact a4
   ·exact absurd (U q hq hl a4 t a3) h2
  ·rintro ⟨h2,q,hq,a0⟩
   exact ⟨⟨q,(J q hq).1,(J q hq).2,(jZ fun x _=>y x).1 a0⟩,h2⟩
 have I:((fs ++ new).zip (rn ++ List.replicate new.length n)).Perm ((dK rs (ay rs) level r n).1.zip (dK rs (ay rs) level r n).2):=by
  rw [List.zip_append hs.len.symm]
  have e:new.zip (List.replicate new.length n)=new.map fun a=>(a,n):=by
   apply List.ext_getElem
   ·simp
   ·intro i h1 h2
    simp
  rw [e];exact ((hs.perm.append (hp.symm.map _))).trans hz.symm
 have a5:=(lq hr n (fZ r.1 level (rs.zip (ay rs)))).1;refine ⟨⟨by simp [hs.len],I⟩,?_⟩;have hl:=I.length_eq;have a6:(dK rs (ay rs) level r n).2.length=(dK rs (ay rs) level r n).1.length:=a5.len;simp only [List.length_zip,χ,List.length_replicate,hs.len,a6,Nat.min_self] at hl;omega
theorem D.UA {rs:List Ru} (h:qF rs) {r:Rd} (hr:l9 r) (hf:∀ x ∈ r.1,aI x) {fs:List A} {rn:List Nat} (hs:VX fs rn r) {level n:Nat} {next:List Ru} {new:List A} (I:∀ q ∈ next,q ∈ rs∧gY rs q.head.name=level)
  (hn:new.Nodup) (J:∀ t ∈ new,t ∉ fs∧∃ q ∈ next,ja fs q t) (hm:300 < fs.length+new.length):300 < (dK rs (ay rs) level r n).1.length:=by
 classical
 have U:=hs.fst hr;have a0:∀ x,x ∈ fs ↔ x ∈ r.1:=fun x=>U.mem_iff
 have h1:=(jU h hf level n).2;have a1:(r.1 ++ new).Nodup:=List.nodup_append.2 ⟨iG hr.fK,hn,fun x hx y hy e=>(J y hy).1 ((a0 y).2 (e ▸ hx))⟩
 have h2:=mW a1 (l2:=(dK rs (ay rs) level r n).1) fun x hx=>by
  rcases μ.1 hx with hx | hx
  ·exact (h1 x).2 (.inl hx)
  ·obtain ⟨_,q,hq,a2⟩:=J x hx
   exact (h1 x).2 (.inr ⟨q,(I q hq).1,(I q hq).2,(jZ fun x _=>a0 x).1 a2⟩)
 rw [χ,← U.length_eq] at h2;omega
theorem D.Ll {fs new:List A} {q:Ru} (h:∀ p ∈ q.body,p.no=false→∀ t ∈ new,t.name ≠ p.atom.name) {t:A} (hf:ja (fs ++ new) q t):ja fs q t:=by
 obtain ⟨σ,rfl,h1,J⟩:=hf;refine ⟨σ,rfl,fun p y I=>?_,fun p y I hm=>J p y I (Ξ _ hm)⟩
 rcases μ.1 (h1 p y I) with hm | hm
 ·exact hm
 ·exact absurd rfl (h p y I (fH σ p.atom) hm)
theorem D.DU {rs:List Ru} {S:A→Prop} {t:A}:∀ {k:Nat},EI rs S k t→S t∨∃ r ∈ rs,∃ σ:Wo,t=fH σ r.head
 | 0,h=>.inl h
 | k+1,⟨j,y⟩=>by
  induction j with
  | zero=>exact DU y
  | succ j ih=>
   rcases y with y | ⟨r,hr,I,σ,rfl,_⟩
   ·exact ih y
   ·exact .inr ⟨r,hr,σ,rfl⟩
end
end Go.Proofs.YtkjinanbccloeaaGreatDoor
