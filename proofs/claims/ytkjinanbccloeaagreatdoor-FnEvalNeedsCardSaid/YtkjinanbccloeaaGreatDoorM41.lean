/- Of the proof of FnEvalNeeds: SetP, AllI, RndP, SetQ. -/
import Derived.Test.YtkjinanbccloeaaGreatDoorM40
set_option linter.unusedVariables false
set_option maxHeartbeats 4000000
set_option maxRecDepth 100000
namespace Go.Proofs.YtkjinanbccloeaaGreatDoor
section
open Go.RowKit D
theorem D.U5 {rs:List Ru} {lv:List Nat} (Inv:Nat→Rd→Nat→Prop) (hok:∀ k r n,Inv k r n→oh r)
  (y:∀ k r n,k≤rs.length→Inv (k+1) r n→(eu rs lv (rs.length - k) r (n+1)).1.length≤300→(eu rs lv (rs.length - k) r (n+1)).1.length ≠ r.1.length→Inv (k+1) (eu rs lv (rs.length - k) r (n+1)) (n+1))
  (J:∀ k r n,k≤rs.length→Inv (k+1) r n→(eu rs lv (rs.length - k) r (n+1)).1.length=r.1.length→Inv k (eu rs lv (rs.length - k) r (n+1)) n):
  ∀ (k fuel:Nat) (r:Rd) (n:Nat),k≤rs.length+1→Inv k r n→r.1.length≤300→302≤fuel+r.1.length→
   ((AV rs lv k fuel r n).2=true∧(AV rs lv k fuel r n).1.1.length≤300∧∃ n',Inv 0 (AV rs lv k fuel r n).1 n') ∨
   ((AV rs lv k fuel r n).2=false∧∃ k' r' n',k'≤rs.length∧Inv (k'+1) r' n'∧300 < (eu rs lv (rs.length - k') r' (n'+1)).1.length):=by
 intro k
 induction k with
 | zero=>
  intro fuel r n _ I hl _;rw [AV];exact .inl ⟨rfl,hl,n,I⟩
 | succ k ihk=>
  intro fuel
  induction fuel with
  | zero=>intro r n _ _ h1 U; omega
  | succ fuel ihf=>
   intro r n hk I hl hf;have a0:=(mQ (hok _ _ _ I) (n+1) (iF r.1 (rs.length - k) (rs.zip lv))).2.1;have a1:r.1.length≤(eu rs lv (rs.length - k) r (n+1)).1.length:=a0;rw [AV];by_cases h1:300 < (eu rs lv (rs.length - k) r (n+1)).1.length
   ·rw [if_pos h1]
    exact .inr ⟨rfl,k,r,n,by omega,I,h1⟩
   ·rw [if_neg h1]
    by_cases U:(eu rs lv (rs.length - k) r (n+1)).1.length=r.1.length
    ·rw [if_pos U]
     exact ihk 302 _ n (by omega) (J k r n (by omega) I U) (by omega) (by omega)
    ·rw [if_neg U]
     exact ihf _ (n+1) hk (y k r n (by omega) I (by omega) U) (by omega) (by omega)
def D.G5 (S:A→Prop) (r:Ru) (t:A):Prop:=∃ σ:Wo,t=fP σ r.head∧(∀ p ∈ r.body,p.no=false→S (fP σ p.atom))∧∀ p ∈ r.body,p.no=true→¬ S (fP σ p.atom)
theorem D.jV {S y:A→Prop} {r:Ru} {t:A} (h:∀ x,(∃ p ∈ r.body,p.atom.name=x.name)→(S x ↔ y x)):G5 S r t ↔ G5 y r t:=by
 have I:∀ (S y:A→Prop),(∀ x,(∃ p ∈ r.body,p.atom.name=x.name)→(S x ↔ y x))→G5 S r t→G5 y r t:=by
  rintro S y h ⟨σ,rfl,h1,h2⟩;exact ⟨σ,rfl,fun p J U=>(h (fP σ p.atom) ⟨p,J,rfl⟩).1 (h1 p J U),fun p J U hs=>h2 p J U ((h (fP σ p.atom) ⟨p,J,rfl⟩).2 hs)⟩
 exact ⟨I S y h,I y S fun x hx=>(h x hx).symm⟩
def D.TS (rs:List Ru) (k:Nat) (S:A→Prop) (t:A):Prop:=∃ r ∈ rs,dX rs r.head.name=k∧G5 S r t
def D.Hg (rs:List Ru) (k:Nat) (S:A→Prop):Nat→A→Prop
 | 0=>S
 | j+1=>fun t=>Hg rs k S j t∨TS rs k (Hg rs k S j) t
def D.PG (rs:List Ru) (k:Nat) (S:A→Prop):A→Prop:=fun t=>∃ j,Hg rs k S j t
def D.qH (rs:List Ru) (S:A→Prop):Nat→A→Prop
 | 0=>S
 | k+1=>PG rs k (qH rs S k)
def D.AA (rs:List Ru) (S:A→Prop):A→Prop:=qH rs S (rs.length+1)
theorem D.G6 {rs:List Ru} {k:Nat} {S:A→Prop} {i j:Nat} (h:i≤j) {t:A} (y:Hg rs k S i t):Hg rs k S j t:=by
 induction h with
 | refl=>exact y
 | step _ ih=>exact .inl ih
theorem D.G7 {rs:List Ru} {S:A→Prop} {i j:Nat} (h:i≤j) {t:A} (y:qH rs S i t):qH rs S j t:=by
 induction h with
 | refl=>exact y
 | step _ ih=>exact ⟨0,ih⟩
theorem D.Ky {rs:List Ru} {k:Nat} {S y:A→Prop} (h:∀ x,S x ↔ y x) (t:A):TS rs k S t ↔ TS rs k y t:=by
 have:S=y:=funext fun x=>propext (h x)
 rw [this]
theorem D.PI {rs:List Ru} {k:Nat} {S:A→Prop} {j:Nat} (h:∀ t,TS rs k (Hg rs k S j) t→Hg rs k S j t) (t:A):PG rs k S t ↔ Hg rs k S j t:=by
 constructor
 ·rintro ⟨i,J⟩
  rcases Nat.le_total i j with y | y
  ·exact G6 y J
  ·have:∀ d t,Hg rs k S (j+d) t→Hg rs k S j t:=by
    intro d
    induction d with
    | zero=>intro t I; exact I
    | succ d ih=>
     intro t I
     rcases I with I | ⟨r,hr,U,hf⟩
     ·exact ih t I
     ·refine h t ⟨r,hr,U,(jV fun x _=>?_).1 hf⟩
      exact ⟨ih x,fun hx=>G6 (Nat.le_add_right _ _) hx⟩
   obtain ⟨d,rfl⟩:=Nat.exists_eq_add_of_le y;exact this d t J
 ·exact fun h=>⟨j,h⟩
theorem D.NW {rs:List Ru} (hc:Closed rs (ay rs)) {p:Ru × Nat} (J:p ∈ rs.zip (ay rs)):p.1 ∈ rs∧p.2=dX rs p.1.head.name:=by
 obtain ⟨i,y,rfl⟩:=List.getElem_of_mem J;simp only [List.length_zip,eP,Nat.min_self] at y;have I:=(jU hc).2 i y;have U:dA rs i=rs[i]:=by unfold dA; simp [List.getD,y]
 have e2:gX (ay rs) i=(ay rs)[i]'(by rw [eP]; exact y):=by unfold gX; simp [List.getD,eP,y]
 rw [U,e2] at I;simp only [List.getElem_zip];exact ⟨δ _,I⟩
theorem D.Tm {rs:List Ru} (hc:Closed rs (ay rs)) {r:Ru} (hr:r ∈ rs):(r,dX rs r.head.name) ∈ rs.zip (ay rs):=by
 obtain ⟨i,y,rfl⟩:=List.getElem_of_mem hr;refine List.mem_iff_getElem.2 ⟨i,by simp [eP]; exact y,?_⟩;have:=(NW hc (δ (l:=rs.zip (ay rs)) (n:=i) (by simp [eP]; exact y))).2;simp only [List.getElem_zip] at this ⊢;rw [this]
structure D.qI (rs:List Ru):Prop where
 fol:∀ r ∈ rs,jR r
 cyc:Closed rs (ay rs)
theorem D.Tn {rs:List Ru} (h:dJ rs=0):qI rs:=by
 refine ⟨fun r hr=>Tf h hr,?_⟩;unfold dJ at h
 split at h
 ·cases h
 ·split at h
  ·cases h
  ·split at h
   ·cases h
   ·split at h
    ·cases h
    ·split at h
     ·cases h
     ·rename_i hc
      exact LD (by simpa using hc)
theorem D.NY {rs:List Ru} (h:qI rs) {xs:List A} (J:∀ x ∈ xs,aT x) (level:Nat):gB (iF xs level (rs.zip (ay rs)))=true∧(∀ t ∈ iF xs level (rs.zip (ay rs)),aT t)∧∀ t,t ∈ iF xs level (rs.zip (ay rs)) ↔ TS rs level (fun x=>x ∈ xs) t:=by
 obtain ⟨k1,k2,U⟩:=PE (level:=level) J (rl:=rs.zip (ay rs)) fun p y=>h.fol _ (List.of_mem_zip y).1
 refine ⟨k1,k2,fun t=>(U t).trans ⟨?_,?_⟩⟩
 ·rintro ⟨p,y,I,hf⟩
  obtain ⟨g1,g2⟩:=NW h.cyc y;exact ⟨p.1,g1,by rw [← g2]; exact I,hf⟩
 ·rintro ⟨r,hr,I,hf⟩
  exact ⟨_,Tm h.cyc hr,I,hf⟩
theorem D.Nh {r:Rd} (hr:∀ x ∈ r.1,aT x) (n:Nat):∀ more:List A,(∀ x ∈ more,aT x)→(∀ x ∈ (iL more n r).1,aT x)∧∀ t,t ∈ (iL more n r).1 ↔ t ∈ r.1∨t ∈ more:=by
 intro more
 induction more generalizing r with
 | nil=>intro _; exact ⟨hr,fun t=>by simp [iL]⟩
 | cons a more ih=>
  intro hm;have ha:=hm a Γ;have h1:∀ x,x ∈ (gq r a n).1 ↔ x ∈ r.1∨x=a:=fun x=>by rw [sO]; exact xg hr ha x
  obtain ⟨I,J⟩:=ih (r:=gq r a n) (fun x y=>((h1 x).1 y).elim (hr x) fun e=>e ▸ ha) fun x y=>hm x (Δ _ y)
  refine ⟨I,fun t=>?_⟩;have:iL (a :: more) n r=iL more n (gq r a n):=rfl;rw [this,J,h1,List.mem_cons,or_assoc]
theorem D.kN {rs:List Ru} (h:qI rs) {r:Rd} (hr:∀ x ∈ r.1,aT x) (level n:Nat):(∀ x ∈ (eu rs (ay rs) level r n).1,aT x)∧∀ t,t ∈ (eu rs (ay rs) level r n).1 ↔ t ∈ r.1∨TS rs level (fun x=>x ∈ r.1) t:=by
 obtain ⟨_,k2,y⟩:=NY h hr level;obtain ⟨I,J⟩:=Nh hr n _ k2;exact ⟨I,fun t=>by rw [← y t]; exact J t⟩
theorem D.Kz {xs ys:List A} (h1:xs.Nodup) (J:∀ x ∈ xs,x ∈ ys) (h3:ys.length≤xs.length):∀ y ∈ ys,y ∈ xs:=by
 intro y U;by_cases hm:y ∈ xs
 ·exact hm
 ·exfalso
  have h4:(y :: xs).Nodup:=List.nodup_cons.2 ⟨hm,h1⟩
  have h5:=List.Nodup.length_le_of_subset h4 (l₂:=ys) (fun x I=>by
   rcases List.mem_cons.1 I with rfl | I
   ·exact U
   ·exact J x I)
  simp at h5;omega
structure D.VY (rs:List Ru) (S:A→Prop) (k:Nat) (r:Rd) (n:Nat):Prop where
 ok:oh r
 fact:∀ x ∈ r.1,aT x
 set:match k with
  | 0=>∀ t,t ∈ r.1 ↔ AA rs S t
  | k+1=>∃ j,∀ t,t ∈ r.1 ↔ Hg rs (rs.length - k) (qH rs S (rs.length - k)) j t
theorem D.DK {rs:List Ru} (h:qI rs) {r:Rd} (hr:∀ x ∈ r.1,aT x) {level j n:Nat} {S:A→Prop} (y:∀ t,t ∈ r.1 ↔ Hg rs level S j t) (t:A):t ∈ (eu rs (ay rs) level r n).1 ↔ Hg rs level S (j+1) t:=by
 rw [(kN h hr level n).2 t,y t,Ky y t];exact Iff.rfl
theorem D.KA {rs:List Ru} (h:qI rs) {given:List A} (ha:gB given=true) (hf:∀ x ∈ given,aT x) (hl:given.length≤300):
  ((gu rs given).2=true∧(gu rs given).1.1.length≤300∧oh (gu rs given).1∧(∀ x ∈ (gu rs given).1.1,aT x)∧∀ t,t ∈ (gu rs given).1.1 ↔ AA rs (fun x=>x ∈ given) t) ∨
  ((gu rs given).2=false∧∃ L:List A,L.Nodup∧300 < L.length∧∀ t ∈ L,AA rs (fun x=>x ∈ given) t):=by
 have main:=U5 (rs:=rs) (lv:=ay rs) (VY rs fun x=>x ∈ given) (fun k r n y=>y.ok)
  (fun k r n hk y _ _=>by
   obtain ⟨j,I⟩:=y.set
   exact ⟨(mQ y.ok _ _).1,(kN h y.fact _ _).1,j+1,DK h y.fact I⟩)
  (fun k r n hk y he=>by
   obtain ⟨j,I⟩:=y.set;have hs:=DK (n:=n+1) h y.fact I
   have a0:∀ t,PG rs (rs.length - k) (qH rs (fun x=>x ∈ given) (rs.length - k)) t ↔ Hg rs (rs.length - k) (qH rs (fun x=>x ∈ given) (rs.length - k)) j t:=PI fun t U=>by
    refine (I t).1 (Kz (jZ y.ok.gB) (fun x hx=>((kN h y.fact _ (n+1)).2 x).2 (.inl hx)) (Nat.le_of_eq he) t ?_);exact ((kN h y.fact _ (n+1)).2 t).2 (.inr ((Ky I t).2 U))
   have J:∀ t,t ∈ (eu rs (ay rs) (rs.length - k) r (n+1)).1 ↔ qH rs (fun x=>x ∈ given) (rs.length - k+1) t:=fun t=>by
    show _ ↔ PG rs _ _ t;rw [a0,← I t];constructor
    ·exact fun U=>Kz (jZ y.ok.gB) (fun x hx=>((kN h y.fact _ (n+1)).2 x).2 (.inl hx)) (Nat.le_of_eq he) t U
    ·exact fun U=>((kN h y.fact _ (n+1)).2 t).2 (.inl U)
   refine ⟨(mQ y.ok _ _).1,(kN h y.fact _ _).1,?_⟩
   cases k with
   | zero=>exact J
   | succ k=>
    have e:rs.length - k=rs.length - (k+1)+1:=by omega
    refine ⟨0,fun t=>?_⟩;rw [e]
    exact J t)
  (rs.length+1) 302 (given,List.replicate given.length 0) 0 ν ⟨⟨ha,by simp⟩,hf,⟨0,fun t=>by simp [Hg,qH]⟩⟩ hl (by simp)
 rcases main with ⟨h1,h2,n',y⟩ | ⟨h1,k',r',n',hk,y,hlen⟩
 ·exact .inl ⟨h1,h2,y.ok,y.fact,y.set⟩
 ·refine .inr ⟨h1,_,jZ (mQ y.ok (n'+1) _).1.gB,hlen,fun t U=>?_⟩
  obtain ⟨j,I⟩:=y.set;have h3:=(DK h y.fact I t).1 U;exact G7 (show rs.length - k'+1≤rs.length+1 by omega) ⟨j+1,h3⟩
end
section
open Go.RowKit D
attribute [local go_sem ↓] Go.wp_at_zero Go.wp_at_succ
section
variable (vars:List ByteArray) (fs:List A) (rn:List Nat) (bs:List Nat) (ps ns:List A) (head:A) (sk sb:Nat) (Ap:Option Addr) (cp:Nat) (An:Option Addr) (cn:Nat) (bp bn:List Nat) (wt:Nat→Bool) (ah:Int) (c5 c7:Addr) (K:Nat→Prop) (T:Bool→World→List A→Prop) (go:List A→Bool)
theorem Tq (E:qy vars fs ps ns head wt) (hK:∀ k,K k→k ≠ sk) (hT:uT vars head sk K c5 c7 T go):∀ (left:Nat),left < 2 ^ ps.length→∀ (b:Bd) (told:List A) (w:World),
  oP vars fs rn bs ps ns sk sb (.slice Ap ps.length cp) (.slice An ns.length cn) bp bn wt ah (.func (.func 116) #[] #[.pointer (some c5),.pointer (some c7)]) K b w→
  (∀ j (h:j < ps.length),left.testBit j=false→vY b ps[j].args)→T true w told→
  Calls Tryz.prog 179 #[.pointer (some ⟨sk,0,none⟩),.int .i64 left] w (rQ vars fs ps ns head K sk T go b left told w):=by
 intro left
 induction left using Nat.strongRecOn with
 | ind left IH=>
  intro hl b told w S I J;by_cases hs:setB vars b wt=true
  ·cases hh:wV fs ns b
   ·by_cases h0:left=0
    ·subst h0
     exact Tj vars fs rn bs ps ns head sk sb Ap cp An cn bp bn wt ah c5 c7 K T go E hK hT b told w S (fun p hp=>by
      obtain ⟨j,hj,e⟩:=List.getElem_of_mem hp
      rw [← e]; exact I j hj (by simp)) J hh
    ·exact Kw vars fs rn bs ps ns head sk sb Ap cp An cn bp bn wt ah c5 c7 K T go E hK hT left hl h0 (fun l' U b' y w' S' c' t'=>IH l' U (by omega) b' y w' S' c' t') b told w S I J (fun _=>hh)
   ·exact run_stop vars fs rn bs ps ns head sk sb Ap cp An cn bp bn wt ah c5 c7 K T go E hK hT left b told w S J hs hh
  ·by_cases h0:left=0
   ·subst h0
    exfalso;apply hs
    exact (rP E.hv S.ok E.want E.hin E.nin).2 (E.tight b fun p hp=>by
     obtain ⟨j,hj,e⟩:=List.getElem_of_mem hp
     rw [← e]; exact I j hj (by simp))
   ·exact Kw vars fs rn bs ps ns head sk sb Ap cp An cn bp bn wt ah c5 c7 K T go E hK hT left hl h0 (fun l' U b' y w' S' c' t'=>IH l' U (by omega) b' y w' S' c' t') b told w S I J (fun h=>absurd h hs)
theorem D.Tt (n:Nat) (h:n≤4):wrap64 (wrap64 (2 ^ n) - 1)=((2 ^ n - 1:Nat):Int):=by
 have H:∀ n:Nat,n < 5→wrap64 (wrap64 (2 ^ n) - 1)=((2 ^ n - 1:Nat):Int):=by decide +kernel
 exact H n (by omega)
theorem D.Tv (n j:Nat) (h:n≤4) (y:j < n):(2 ^ n - 1).testBit j=true:=by
 rw [Nat.testBit_two_pow_sub_one]; simpa using y
theorem Ee (E:qy vars fs ps ns head wt) (hK:∀ k,K k→k ≠ sk) (J:uT vars head sk K c5 c7 T go) (told:List A) (w:World)
  (S:oP vars fs rn bs ps ns sk sb (.slice Ap ps.length cp) (.slice An ns.length cn) bp bn wt ah (.func (.func 116) #[] #[.pointer (some c5),.pointer (some c7)]) K [] w) (I:T true w told):
  Calls Tryz.prog 118 #[.pointer (some ⟨sk,0,none⟩)] w fun e w'=>e=.returned (.tuple #[])∧∃ held more,iH vars fs ps ns head K sk T go [] (2 ^ ps.length - 1) told held more w w':=by
 have y:=Tq vars fs rn bs ps ns head sk sb Ap cp An cn bp bn wt ah c5 c7 K T go E hK J (2 ^ ps.length - 1) (by have:=Nat.two_pow_pos ps.length; omega) [] told w S (fun j hj U=>by rw [Tv _ _ E.p4 hj] at U; cases U) I;have y0:=S.sea.p1;have hp:=Tt ps.length E.p4;have a0:(ps.length:Int)≤4:=by have:=E.p4; omega
 clear S I J
 go_enter Tryz.func118,Tryz.ntmps118
 go_wp2_with fail
 refine y.mono ?_;rintro e w2 ⟨held,more,rfl,hP⟩;have HP:=η hP;clear y hP;go_wp2
 go_end0
 exact ⟨rfl,held,more,HP.out⟩
end
end
section
open Go.RowKit D
open Classical in
noncomputable def D.newL (fs told:List A):List A:=told.foldl (fun acc a=>if a ∈ fs∨a ∈ acc then acc else acc ++ [a]) []
open Classical in
theorem D.yA (fs told:List A) (a:A):newL fs (told ++ [a])=if a ∈ fs∨a ∈ newL fs told then newL fs told else newL fs told ++ [a]:=by
 unfold newL; rw [List.foldl_append]; rfl
theorem D.Tz {α:Type} {P:List α→Prop} (h0:P []) (h1:∀ l a,P l→P (l ++ [a])) (l:List α):P l:=by
 have:∀ n (l:List α),l.length=n→P l:=by
  intro n
  induction n with
  | zero=>intro l h; rw [List.length_eq_zero_iff.1 h]; exact h0
  | succ n ih=>
   intro l h;have y:l ≠ []:=by intro e; rw [e] at h; simp at h
   rw [← List.dropLast_concat_getLast y];exact h1 _ _ (ih _ (by simp [h]))
 exact this _ l rfl
theorem D.oV (fs told:List A):(newL fs told).Nodup∧∀ t,t ∈ newL fs told ↔ t ∈ told∧t ∉ fs:=by
 refine Tz (P:=fun told=>(newL fs told).Nodup∧∀ t,t ∈ newL fs told ↔ t ∈ told∧t ∉ fs) ⟨by simp [newL],fun t=>by simp [newL]⟩ (fun told a ⟨h1,U⟩=>?_) told;rw [yA]
 split
 ·rename_i h
  refine ⟨h1,fun t=>?_⟩;rw [U,μ,List.mem_singleton];constructor
  ·exact fun ⟨J,I⟩=>⟨.inl J,I⟩
  ·rintro ⟨J | rfl,I⟩
   ·exact ⟨J,I⟩
   ·rcases h with h | h
    ·exact absurd h I
    ·exact (U t).1 h
 ·rename_i h
  have ha:a ∉ fs∧a ∉ newL fs told:=⟨fun e=>h (.inl e),fun e=>h (.inr e)⟩;refine ⟨List.nodup_append.2 ⟨h1,by simp,fun x hx y hy e=>?_⟩,fun t=>?_⟩
  ·simp at hy
   exact ha.2 (by rw [← hy,← e]; exact hx)
  ·rw [μ,List.mem_singleton,μ,List.mem_singleton,U]
   constructor
   ·rintro (⟨J,I⟩ | rfl)
    ·exact ⟨.inl J,I⟩
    ·exact ⟨.inr rfl,ha.1⟩
   ·rintro ⟨J | rfl,I⟩
    ·exact .inl ⟨J,I⟩
    ·exact .inr rfl
open Classical in
noncomputable def D.TA (fs L:List A):Bool:=decide ((∃ told a,L=told ++ [a]∧(a ∈ fs∨a ∈ newL fs told))∨fs.length+(newL fs L).length≤300)
open Classical in
theorem D.KC (fs told:List A) (a:A):TA fs (told ++ [a])=decide (a ∈ fs∨a ∈ newL fs told∨fs.length+(newL fs (told ++ [a])).length≤300):=by
 unfold TA;apply decide_eq_decide.2;refine ⟨?_,?_⟩
 ·rintro (⟨t,b,e,h⟩ | h)
  ·have:=List.append_inj' e rfl
   obtain ⟨rfl,y⟩:=this;simp at y;subst y;exact h.imp id .inl
  ·exact .inr (.inr h)
 ·rintro (h | h | h)
  ·exact .inl ⟨told,a,rfl,.inl h⟩
  ·exact .inl ⟨told,a,rfl,.inr h⟩
  ·exact .inr h
open Classical in
theorem D.PK {fs L:List A} (h:TA fs L=false):300 < fs.length+(newL fs L).length:=by
 unfold TA at h;have:=of_decide_eq_false h;have y:¬ fs.length+(newL fs L).length≤300:=fun e=>this (.inr e)
 omega
structure D.Vl (fs:List A) (rn:List Nat) (r:Rd):Prop where
 len:rn.length=fs.length
 perm:(fs.zip rn).Perm (r.1.zip r.2)
theorem D.zip_fst {α β:Type}:∀ {l:List α} {m:List β},l.length≤m.length→(l.zip m).map (·.1)=l
 | [],m,_=>by simp
 | a :: l,[],h=>by simp at h
 | a :: l,b :: m,h=>by simp only [List.zip_cons_cons,List.map_cons]; rw [zip_fst (by simpa using h)]
theorem D.Vl.fst {fs:List A} {rn:List Nat} {r:Rd} (h:Vl fs rn r) (hr:oh r):fs.Perm r.1:=by
 have:=h.perm.map (·.1)
 rwa [zip_fst (Nat.le_of_eq h.len.symm),zip_fst (Nat.le_of_eq hr.len.symm)] at this
theorem D.PL {r:Rd} (hr:oh r) (a:A) (n:Nat):hasB r.1 a=false→((gq r a n).1.zip (gq r a n).2).Perm ((a,n) :: r.1.zip r.2):=by
 intro h
 have e:gq r a n=(r.1.take (pl r.1 a) ++ a :: r.1.drop (pl r.1 a),r.2.take (pl r.1 a) ++ [n] ++ r.2.drop (pl r.1 a)):=by
  unfold gq dP;rw [h];rfl
 rw [e];have J:=(oH hr.gB a).2.2;have U:=hr.len
 have y:(r.1.take (pl r.1 a) ++ a :: r.1.drop (pl r.1 a)).zip (r.2.take (pl r.1 a) ++ [n] ++ r.2.drop (pl r.1 a))=(r.1.take (pl r.1 a)).zip (r.2.take (pl r.1 a)) ++ (a,n) :: (r.1.drop (pl r.1 a)).zip (r.2.drop (pl r.1 a)):=by
  rw [List.append_assoc,List.zip_append (by simp; omega)];rfl
 have I:r.1.zip r.2=(r.1.take (pl r.1 a)).zip (r.2.take (pl r.1 a)) ++ (r.1.drop (pl r.1 a)).zip (r.2.drop (pl r.1 a)):=by
  rw [← List.zip_append (by simp; omega),List.take_append_drop,List.take_append_drop]
 show List.Perm (List.zip _ _) _;rw [y,I];exact List.perm_middle
open Classical in
theorem D.Nj {r:Rd} (hr:oh r) (hf:∀ x ∈ r.1,aT x) (n:Nat):∀ more:List A,(∀ x ∈ more,aT x)→more.Nodup→
  ((iL more n r).1.zip (iL more n r).2).Perm (r.1.zip r.2 ++ (more.filter fun a=>decide (a ∉ r.1)).map fun a=>(a,n)):=by
 intro more
 induction more generalizing r with
 | nil=>intro _ _; simp [iL]
 | cons a more ih=>
  intro hm hn;have ha:=hm a Γ;have y:=List.nodup_cons.1 hn;have h1:∀ x,x ∈ (gq r a n).1 ↔ x ∈ r.1∨x=a:=fun x=>by rw [sO]; exact xg hf ha x
  have U:=ih (r:=gq r a n) (hr.put a n) (fun x I=>((h1 x).1 I).elim (hf x) fun e=>e ▸ ha) (fun x I=>hm x (Δ _ I)) y.2;have e0:iL (a :: more) n r=iL more n (gq r a n):=rfl;rw [e0]
  have e1:more.filter (fun b=>decide (b ∉ (gq r a n).1))=more.filter fun b=>decide (b ∉ r.1):=by
   refine List.filter_congr fun b J=>decide_eq_decide.2 ?_
   rw [h1];constructor
   ·exact fun h e=>h (.inl e)
   ·rintro h (e | rfl)
    ·exact h e
    ·exact y.1 J
  rw [e1] at U;refine U.trans ?_;by_cases hc:a ∈ r.1
  ·have e2:gq r a n=r:=by
    unfold gq;rw [if_pos (lq hc)]
   rw [e2,List.filter_cons_of_neg (by simpa using hc)]
  ·have J:hasB r.1 a=false:=by
    cases hh:hasB r.1 a
    ·rfl
    ·exact absurd ((qc (fun x I=>(hf x I).gr) ha.gr).1 hh) hc
   rw [List.filter_cons_of_pos (by simpa using hc),List.map_cons];exact ((PL hr a n J).append_right _).trans List.perm_middle.symm
def D.OwnAt (rs:List Ru) (level:Nat) (own:List Ru):Prop:=∀ r,r ∈ own ↔ r ∈ rs∧dX rs r.head.name=level
theorem D.FI {rs:List Ru} (h:qI rs) {r:Rd} (hr:oh r) (hf:∀ x ∈ r.1,aT x) {fs:List A} {rn:List Nat} (hs:Vl fs rn r) {level n:Nat} {next:List Ru} {new:List A} (J:∀ q ∈ next,q ∈ rs∧dX rs q.head.name=level)
  (U:∀ q ∈ rs,dX rs q.head.name=level→q ∉ next→∀ t,kF fs q t→t ∈ fs) (hn:new.Nodup) (a1:∀ t,t ∈ new ↔ t ∉ fs∧∃ q ∈ next,kF fs q t):
  Vl (fs ++ new) (rn ++ List.replicate new.length n) (eu rs (ay rs) level r n)∧(eu rs (ay rs) level r n).1.length=fs.length+new.length:=by
 classical
 have a2:=hs.fst hr;have y:∀ x,x ∈ fs ↔ x ∈ r.1:=fun x=>a2.mem_iff
 obtain ⟨k1,k2,k3⟩:=NY h hf level;have hz:=Nj hr hf n _ k2 (jZ k1)
 have hp:((iF r.1 level (rs.zip (ay rs))).filter fun a=>decide (a ∉ r.1)).Perm new:=by
  refine (List.perm_ext_iff_of_nodup ((jZ k1).filter _) hn).2 fun t=>?_
  rw [List.mem_filter,k3,a1,decide_eq_true_iff,← y];constructor
  ·rintro ⟨⟨q,hq,hl,a0⟩,h2⟩
   have a3:kF fs q t:=(jV fun x _=>y x).2 a0;refine ⟨h2,q,?_,a3⟩;by_cases a4:q ∈ next
   ·exact a4
   ·exact absurd (U q hq hl a4 t a3) h2
  ·rintro ⟨h2,q,hq,a0⟩
   exact ⟨⟨q,(J q hq).1,(J q hq).2,(jV fun x _=>y x).1 a0⟩,h2⟩
 have I:((fs ++ new).zip (rn ++ List.replicate new.length n)).Perm ((eu rs (ay rs) level r n).1.zip (eu rs (ay rs) level r n).2):=by
  rw [List.zip_append hs.len.symm]
  have e:new.zip (List.replicate new.length n)=new.map fun a=>(a,n):=by
   apply List.ext_getElem
   ·simp
   ·intro i h1 h2
    simp
  rw [e];exact ((hs.perm.append (hp.symm.map _))).trans hz.symm
 have a5:=(mQ hr n (iF r.1 level (rs.zip (ay rs)))).1;refine ⟨⟨by simp [hs.len],I⟩,?_⟩;have hl:=I.length_eq;have a6:(eu rs (ay rs) level r n).2.length=(eu rs (ay rs) level r n).1.length:=a5.len;simp only [List.length_zip,χ,List.length_replicate,hs.len,a6,Nat.min_self] at hl;omega
theorem D.TB {rs:List Ru} (h:qI rs) {r:Rd} (hr:oh r) (hf:∀ x ∈ r.1,aT x) {fs:List A} {rn:List Nat} (hs:Vl fs rn r) {level n:Nat} {next:List Ru} {new:List A} (I:∀ q ∈ next,q ∈ rs∧dX rs q.head.name=level)
  (hn:new.Nodup) (J:∀ t ∈ new,t ∉ fs∧∃ q ∈ next,kF fs q t) (hm:300 < fs.length+new.length):300 < (eu rs (ay rs) level r n).1.length:=by
 classical
 have U:=hs.fst hr;have a0:∀ x,x ∈ fs ↔ x ∈ r.1:=fun x=>U.mem_iff
 have h1:=(kN h hf level n).2;have a1:(r.1 ++ new).Nodup:=List.nodup_append.2 ⟨jZ hr.gB,hn,fun x hx y hy e=>(J y hy).1 ((a0 y).2 (e ▸ hx))⟩
 have h2:=oI a1 (l2:=(eu rs (ay rs) level r n).1) fun x hx=>by
  rcases μ.1 hx with hx | hx
  ·exact (h1 x).2 (.inl hx)
  ·obtain ⟨_,q,hq,a2⟩:=J x hx
   exact (h1 x).2 (.inr ⟨q,(I q hq).1,(I q hq).2,(jV fun x _=>a0 x).1 a2⟩)
 rw [χ,← U.length_eq] at h2;omega
theorem D.KD {fs new:List A} {q:Ru} (h:∀ p ∈ q.body,p.no=false→∀ t ∈ new,t.name ≠ p.atom.name) {t:A} (hf:kF (fs ++ new) q t):kF fs q t:=by
 obtain ⟨σ,rfl,h1,J⟩:=hf;refine ⟨σ,rfl,fun p y I=>?_,fun p y I hm=>J p y I (Ξ _ hm)⟩
 rcases μ.1 (h1 p y I) with hm | hm
 ·exact hm
 ·exact absurd rfl (h p y I (fP σ p.atom) hm)
theorem D.U6 {rs:List Ru} (h:qI rs) {r:Ru} (hr:r ∈ rs) {p:Pt} (y:p ∈ r.body) (hm:p.atom.name ∈ bD rs):dX rs p.atom.name+zU p≤dX rs r.head.name:=(jU h.cyc).1 r hr p y hm
theorem D.TD {rs:List Ru} (h:qI rs) {r:Ru} (hr:r ∈ rs):dX rs r.head.name < rs.length:=by
 obtain ⟨i,y,rfl⟩:=List.getElem_of_mem hr;obtain ⟨h1,U⟩:=jU h.cyc;have I:=sH h1;have e:dA rs i=rs[i]:=by unfold dA; simp [List.getD,y]
 have J:=U i y;rw [e] at J;rw [← J];unfold kP at I;rw [List.any_eq_false] at I
 have h5:gX (ay rs) i ∈ ay rs:=by
  unfold gX; rw [List.getD_eq_getElem?_getD,Ψ (by rw [eP]; exact y)]; exact δ _
 have:=I _ h5;simpa using this
theorem D.TF {rs:List Ru} {S:A→Prop} {k:Nat} {t:A} (h:qH rs S (k+1) t):qH rs S k t∨∃ r ∈ rs,dX rs r.head.name=k∧t.name=r.head.name:=by
 obtain ⟨j,y⟩:=h
 induction j with
 | zero=>exact .inl y
 | succ j ih=>
  rcases y with y | ⟨r,hr,I,σ,rfl,_⟩
  ·exact ih y
  ·exact .inr ⟨r,hr,I,rfl⟩
theorem D.PN {rs:List Ru} {S:A→Prop} {k:Nat} {t:A} (h:∀ r ∈ rs,r.head.name=t.name→dX rs t.name < k) {j:Nat} (y:k≤j):qH rs S j t ↔ qH rs S k t:=by
 induction y with
 | refl=>exact Iff.rfl
 | step y ih=>
  refine ⟨fun h1=>?_,fun h1=>G7 (Nat.le_succ_of_le y) h1⟩
  rcases TF h1 with I | ⟨r,hr,U,e⟩
  ·exact ih.1 I
  ·have J:=h r hr e.symm
   rw [e] at J;have h4:k≤_:=y;omega
theorem D.U7 {rs:List Ru} {S:A→Prop} {k:Nat} {t:A} (y:k≤rs.length+1) (h:t.name ∈ bD rs→dX rs t.name < k):AA rs S t ↔ qH rs S k t:=PN (fun r hr e=>h (e ▸ head_mem hr)) y
theorem D.KE {rs:List Ru} {k:Nat} {S:A→Prop} {r:Ru} {t:A} (hr:r ∈ rs) (hk:dX rs r.head.name=k) (h:G5 (PG rs k S) r t):PG rs k S t:=by
 obtain ⟨σ,rfl,h1,h2⟩:=h
 have a0:∀ l:List Pt,(∀ p ∈ l,p ∈ r.body)→∃ j,∀ p ∈ l,p.no=false→Hg rs k S j (fP σ p.atom):=by
  intro l
  induction l with
  | nil=>intro _; exact ⟨0,fun p I=>by simp at I⟩
  | cons p l ih=>
   intro hl;obtain ⟨j,J⟩:=ih fun q hq=>hl q (Δ _ hq)
   by_cases U:p.no=false
   ·obtain ⟨i,hi⟩:=h1 p (hl p Γ) U
    refine ⟨max i j,fun q hq y=>?_⟩
    rcases List.mem_cons.1 hq with rfl | hq
    ·exact G6 (Nat.le_max_left ..) hi
    ·exact G6 (Nat.le_max_right ..) (J q hq y)
   ·refine ⟨j,fun q hq y=>?_⟩
    rcases List.mem_cons.1 hq with rfl | hq
    ·exact absurd y U
    ·exact J q hq y
 obtain ⟨j,J⟩:=a0 r.body fun p I=>I
 exact ⟨j+1,.inr ⟨r,hr,hk,σ,rfl,J,fun p I U hs=>h2 p I U ⟨j,hs⟩⟩⟩
theorem D.Vm {rs:List Ru} (H:qI rs) {S:A→Prop} {r:Ru} {t:A} (hr:r ∈ rs) (h:G5 (AA rs S) r t):AA rs S t:=by
 have J:=TD H hr
 have h1:G5 (qH rs S (dX rs r.head.name+1)) r t:=(jV fun x ⟨p,y,e⟩=>U7 (by omega) fun hm=>by
  rw [← e] at hm ⊢;have:=U6 H hr y hm
  omega).1 h
 have I:qH rs S (dX rs r.head.name+1) t:=KE hr rfl h1;exact G7 (by omega) I
theorem D.DL {rs:List Ru} {N:ByteArray→Prop} (hN:∀ r ∈ rs,N r.head.name→∀ p ∈ r.body,N p.atom.name) {S I:A→Prop} (h:∀ t,N t.name→(S t ↔ I t)) {t:A} (y:N t.name):AA rs S t ↔ AA rs I t:=by
 have it:∀ {X J:A→Prop} (k:Nat),(∀ t,N t.name→(X t ↔ J t))→∀ j t,N t.name→(Hg rs k X j t ↔ Hg rs k J j t):=by
  intro X J k hx j
  induction j with
  | zero=>exact hx
  | succ j ih=>
   intro t y;refine or_congr (ih t y) ⟨?_,?_⟩
   ·rintro ⟨r,hr,U,hf⟩
    have hh:N r.head.name:=by
     obtain ⟨σ,rfl,_⟩:=hf;exact y
    exact ⟨r,hr,U,(jV fun x ⟨p,hp,e⟩=>ih x (e ▸ hN r hr hh p hp)).1 hf⟩
   ·rintro ⟨r,hr,U,hf⟩
    have hh:N r.head.name:=by
     obtain ⟨σ,rfl,_⟩:=hf;exact y
    exact ⟨r,hr,U,(jV fun x ⟨p,hp,e⟩=>ih x (e ▸ hN r hr hh p hp)).2 hf⟩
 have lv:∀ k t,N t.name→(qH rs S k t ↔ qH rs I k t):=by
  intro k
  induction k with
  | zero=>exact h
  | succ k ih=>
   intro t y;exact ⟨fun ⟨j,hj⟩=>⟨j,(it k ih j t y).1 hj⟩,fun ⟨j,hj⟩=>⟨j,(it k ih j t y).2 hj⟩⟩
 exact lv _ t y
end
end Go.Proofs.YtkjinanbccloeaaGreatDoor
