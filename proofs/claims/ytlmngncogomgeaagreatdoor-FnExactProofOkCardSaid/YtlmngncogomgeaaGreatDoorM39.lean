/- Of the proof of FnExactProofOk: SetP, AllI, POkP, RndP. -/
import Derived.Test.YtlmngncogomgeaaGreatDoorM38
set_option linter.unusedVariables false
set_option maxHeartbeats 4000000
set_option maxRecDepth 100000
namespace Go.Proofs.YtlmngncogomgeaaGreatDoor
section
open Go.RowKit D
theorem D.UJ {rs:List Ru} {lv:List Nat} (Inv:Nat→Rd→Nat→Prop) (hok:∀ k r n,Inv k r n→oG r)
  (y:∀ k r n,k≤rs.length→Inv (k+1) r n→(dZ rs lv (rs.length - k) r (n+1)).1.length≤300→(dZ rs lv (rs.length - k) r (n+1)).1.length ≠ r.1.length→Inv (k+1) (dZ rs lv (rs.length - k) r (n+1)) (n+1))
  (J:∀ k r n,k≤rs.length→Inv (k+1) r n→(dZ rs lv (rs.length - k) r (n+1)).1.length=r.1.length→Inv k (dZ rs lv (rs.length - k) r (n+1)) n):
  ∀ (k fuel:Nat) (r:Rd) (n:Nat),k≤rs.length+1→Inv k r n→r.1.length≤300→302≤fuel+r.1.length→
   ((AL rs lv k fuel r n).2=true∧(AL rs lv k fuel r n).1.1.length≤300∧∃ n',Inv 0 (AL rs lv k fuel r n).1 n') ∨
   ((AL rs lv k fuel r n).2=false∧∃ k' r' n',k'≤rs.length∧Inv (k'+1) r' n'∧300 < (dZ rs lv (rs.length - k') r' (n'+1)).1.length):=by
 intro k
 induction k with
 | zero=>
  intro fuel r n _ I hl _;rw [AL];exact .inl ⟨rfl,hl,n,I⟩
 | succ k ihk=>
  intro fuel
  induction fuel with
  | zero=>intro r n _ _ h1 U; omega
  | succ fuel ihf=>
   intro r n hk I hl hf;have a0:=(mg (hok _ _ _ I) (n+1) (iL r.1 (rs.length - k) (rs.zip lv))).2.1;have a1:r.1.length≤(dZ rs lv (rs.length - k) r (n+1)).1.length:=a0;rw [AL];by_cases h1:300 < (dZ rs lv (rs.length - k) r (n+1)).1.length
   ·rw [if_pos h1]
    exact .inr ⟨rfl,k,r,n,by omega,I,h1⟩
   ·rw [if_neg h1]
    by_cases U:(dZ rs lv (rs.length - k) r (n+1)).1.length=r.1.length
    ·rw [if_pos U]
     exact ihk 302 _ n (by omega) (J k r n (by omega) I U) (by omega) (by omega)
    ·rw [if_neg U]
     exact ihf _ (n+1) hk (y k r n (by omega) I (by omega) U) (by omega) (by omega)
def D.Pj (S:A→Prop) (r:Ru) (t:A):Prop:=∃ σ:Wo,t=gm σ r.head∧(∀ p ∈ r.body,p.no=false→S (gm σ p.atom))∧∀ p ∈ r.body,p.no=true→¬ S (gm σ p.atom)
theorem D.qC {S y:A→Prop} {r:Ru} {t:A} (h:∀ x,(∃ p ∈ r.body,p.atom.name=x.name)→(S x ↔ y x)):Pj S r t ↔ Pj y r t:=by
 have I:∀ (S y:A→Prop),(∀ x,(∃ p ∈ r.body,p.atom.name=x.name)→(S x ↔ y x))→Pj S r t→Pj y r t:=by
  rintro S y h ⟨σ,rfl,h1,h2⟩;exact ⟨σ,rfl,fun p J U=>(h (gm σ p.atom) ⟨p,J,rfl⟩).1 (h1 p J U),fun p J U hs=>h2 p J U ((h (gm σ p.atom) ⟨p,J,rfl⟩).2 hs)⟩
 exact ⟨I S y h,I y S fun x hx=>(h x hx).symm⟩
def D.TS (rs:List Ru) (k:Nat) (S:A→Prop) (t:A):Prop:=∃ r ∈ rs,iq rs r.head.name=k∧Pj S r t
def D.MQ (rs:List Ru) (k:Nat) (S:A→Prop):Nat→A→Prop
 | 0=>S
 | j+1=>fun t=>MQ rs k S j t∨TS rs k (MQ rs k S j) t
def D.UK (rs:List Ru) (k:Nat) (S:A→Prop):A→Prop:=fun t=>∃ j,MQ rs k S j t
def D.Gy (rs:List Ru) (S:A→Prop):Nat→A→Prop
 | 0=>S
 | k+1=>UK rs k (Gy rs S k)
def D.UL (rs:List Ru) (S:A→Prop):A→Prop:=Gy rs S (rs.length+1)
theorem D.SI {rs:List Ru} {k:Nat} {S:A→Prop} {i j:Nat} (h:i≤j) {t:A} (y:MQ rs k S i t):MQ rs k S j t:=by
 induction h with
 | refl=>exact y
 | step _ ih=>exact .inl ih
theorem D.UM {rs:List Ru} {S:A→Prop} {i j:Nat} (h:i≤j) {t:A} (y:Gy rs S i t):Gy rs S j t:=by
 induction h with
 | refl=>exact y
 | step _ ih=>exact ⟨0,ih⟩
theorem D.JR {rs:List Ru} {k:Nat} {S y:A→Prop} (h:∀ x,S x ↔ y x) (t:A):TS rs k S t ↔ TS rs k y t:=by
 have:S=y:=funext fun x=>propext (h x)
 rw [this]
theorem D.Pm {rs:List Ru} {k:Nat} {S:A→Prop} {j:Nat} (h:∀ t,TS rs k (MQ rs k S j) t→MQ rs k S j t) (t:A):UK rs k S t ↔ MQ rs k S j t:=by
 constructor
 ·rintro ⟨i,hi⟩
  rcases Nat.le_total i j with y | y
  ·exact SI y hi
  ·have:∀ d t,MQ rs k S (j+d) t→MQ rs k S j t:=by
    intro d
    induction d with
    | zero=>intro t I; exact I
    | succ d ih=>
     intro t I
     rcases I with I | ⟨r,hr,hk,hf⟩
     ·exact ih t I
     ·refine h t ⟨r,hr,hk,(qC fun x _=>?_).1 hf⟩
      exact ⟨ih x,fun J=>SI (Nat.le_add_right _ _) J⟩
   obtain ⟨d,rfl⟩:=Nat.exists_eq_add_of_le y;exact this d t hi
 ·exact fun h=>⟨j,h⟩
theorem D.NJ {rs:List Ru} (hc:Closed rs (aF rs)) {p:Ru × Nat} (I:p ∈ rs.zip (aF rs)):p.1 ∈ rs∧p.2=iq rs p.1.head.name:=by
 obtain ⟨i,hi,rfl⟩:=List.getElem_of_mem I;simp only [List.length_zip,fF,Nat.min_self] at hi;have y:=(mJ hc).2 i hi;have J:dI rs i=rs[i]:=by unfold dI; simp [List.getD,hi]
 have U:iw (aF rs) i=(aF rs)[i]'(by rw [fF]; exact hi):=by unfold iw; simp [List.getD,fF,hi]
 rw [J,U] at y;simp only [List.getElem_zip];exact ⟨δ _,y⟩
theorem D.SK {rs:List Ru} (hc:Closed rs (aF rs)) {r:Ru} (hr:r ∈ rs):(r,iq rs r.head.name) ∈ rs.zip (aF rs):=by
 obtain ⟨i,hi,rfl⟩:=List.getElem_of_mem hr;refine List.mem_iff_getElem.2 ⟨i,by simp [fF]; exact hi,?_⟩;have:=(NJ hc (δ (l:=rs.zip (aF rs)) (n:=i) (by simp [fF]; exact hi))).2;simp only [List.getElem_zip] at this ⊢;rw [this]
structure D.xX (rs:List Ru):Prop where
 fol:∀ r ∈ rs,jr r
 cyc:Closed rs (aF rs)
theorem D.U5 {rs:List Ru} (h:eH rs=0):xX rs:=by
 refine ⟨fun r hr=>JM h hr,?_⟩;unfold eH at h
 split at h
 ·cases h
 ·split at h
  ·cases h
  ·split at h
   ·cases h
   ·split at h
    ·cases h
    ·split at h
     ·cases h
     ·rename_i hc
      exact KL (by simpa using hc)
theorem D.NK {rs:List Ru} (h:xX rs) {xs:List A} (J:∀ x ∈ xs,aT x) (level:Nat):iF (iL xs level (rs.zip (aF rs)))=true∧(∀ t ∈ iL xs level (rs.zip (aF rs)),aT t)∧∀ t,t ∈ iL xs level (rs.zip (aF rs)) ↔ TS rs level (fun x=>x ∈ xs) t:=by
 obtain ⟨k1,k2,U⟩:=Ph (level:=level) J (rl:=rs.zip (aF rs)) fun p y=>h.fol _ (List.of_mem_zip y).1
 refine ⟨k1,k2,fun t=>(U t).trans ⟨?_,?_⟩⟩
 ·rintro ⟨p,y,I,hf⟩
  obtain ⟨g1,g2⟩:=NJ h.cyc y;exact ⟨p.1,g1,by rw [← g2]; exact I,hf⟩
 ·rintro ⟨r,hr,I,hf⟩
  exact ⟨_,SK h.cyc hr,I,hf⟩
theorem D.MR {r:Rd} (hr:∀ x ∈ r.1,aT x) (n:Nat):∀ more:List A,(∀ x ∈ more,aT x)→(∀ x ∈ (iU more n r).1,aT x)∧∀ t,t ∈ (iU more n r).1 ↔ t ∈ r.1∨t ∈ more:=by
 intro more
 induction more generalizing r with
 | nil=>intro _; exact ⟨hr,fun t=>by simp [iU]⟩
 | cons a more ih=>
  intro hm;have ha:=hm a Γ;have h1:∀ x,x ∈ (gI r a n).1 ↔ x ∈ r.1∨x=a:=fun x=>by rw [sN]; exact xW hr ha x
  obtain ⟨I,J⟩:=ih (r:=gI r a n) (fun x y=>((h1 x).1 y).elim (hr x) fun e=>e ▸ ha) fun x y=>hm x (Δ _ y)
  refine ⟨I,fun t=>?_⟩;have:iU (a :: more) n r=iU more n (gI r a n):=rfl;rw [this,J,h1,ύ,or_assoc]
theorem D.kM {rs:List Ru} (h:xX rs) {r:Rd} (hr:∀ x ∈ r.1,aT x) (level n:Nat):(∀ x ∈ (dZ rs (aF rs) level r n).1,aT x)∧∀ t,t ∈ (dZ rs (aF rs) level r n).1 ↔ t ∈ r.1∨TS rs level (fun x=>x ∈ r.1) t:=by
 obtain ⟨_,k2,y⟩:=NK h hr level;obtain ⟨I,J⟩:=MR hr n _ k2;exact ⟨I,fun t=>by rw [← y t]; exact J t⟩
theorem D.JS {xs ys:List A} (h1:xs.Nodup) (J:∀ x ∈ xs,x ∈ ys) (h3:ys.length≤xs.length):∀ y ∈ ys,y ∈ xs:=by
 intro y U;by_cases hm:y ∈ xs
 ·exact hm
 ·exfalso
  have h4:(y :: xs).Nodup:=List.nodup_cons.2 ⟨hm,h1⟩
  have h5:=List.Nodup.length_le_of_subset h4 (l₂:=ys) (fun x I=>by
   rcases ύ.1 I with rfl | I
   ·exact U
   ·exact J x I)
  simp at h5;omega
structure D.VA (rs:List Ru) (S:A→Prop) (k:Nat) (r:Rd) (n:Nat):Prop where
 ok:oG r
 fact:∀ x ∈ r.1,aT x
 set:match k with
  | 0=>∀ t,t ∈ r.1 ↔ UL rs S t
  | k+1=>∃ j,∀ t,t ∈ r.1 ↔ MQ rs (rs.length - k) (Gy rs S (rs.length - k)) j t
theorem D.Dq {rs:List Ru} (h:xX rs) {r:Rd} (hr:∀ x ∈ r.1,aT x) {level j n:Nat} {S:A→Prop} (y:∀ t,t ∈ r.1 ↔ MQ rs level S j t) (t:A):t ∈ (dZ rs (aF rs) level r n).1 ↔ MQ rs level S (j+1) t:=by
 rw [(kM h hr level n).2 t,y t,JR y t];exact Iff.rfl
theorem D.SL {rs:List Ru} (h:xX rs) {given:List A} (ha:iF given=true) (hf:∀ x ∈ given,aT x) (hl:given.length≤300):
  ((iy rs given).2=true∧(iy rs given).1.1.length≤300∧oG (iy rs given).1∧(∀ x ∈ (iy rs given).1.1,aT x)∧∀ t,t ∈ (iy rs given).1.1 ↔ UL rs (fun x=>x ∈ given) t) ∨
  ((iy rs given).2=false∧∃ L:List A,L.Nodup∧300 < L.length∧∀ t ∈ L,UL rs (fun x=>x ∈ given) t):=by
 have main:=UJ (rs:=rs) (lv:=aF rs) (VA rs fun x=>x ∈ given) (fun k r n y=>y.ok)
  (fun k r n hk y _ _=>by
   obtain ⟨j,I⟩:=y.set
   exact ⟨(mg y.ok _ _).1,(kM h y.fact _ _).1,j+1,Dq h y.fact I⟩)
  (fun k r n hk y he=>by
   obtain ⟨j,I⟩:=y.set;have hs:=Dq (n:=n+1) h y.fact I
   have a0:∀ t,UK rs (rs.length - k) (Gy rs (fun x=>x ∈ given) (rs.length - k)) t ↔ MQ rs (rs.length - k) (Gy rs (fun x=>x ∈ given) (rs.length - k)) j t:=Pm fun t U=>by
    refine (I t).1 (JS (jY y.ok.iF) (fun x hx=>((kM h y.fact _ (n+1)).2 x).2 (.inl hx)) (Nat.le_of_eq he) t ?_);exact ((kM h y.fact _ (n+1)).2 t).2 (.inr ((JR I t).2 U))
   have J:∀ t,t ∈ (dZ rs (aF rs) (rs.length - k) r (n+1)).1 ↔ Gy rs (fun x=>x ∈ given) (rs.length - k+1) t:=fun t=>by
    show _ ↔ UK rs _ _ t;rw [a0,← I t];constructor
    ·exact fun U=>JS (jY y.ok.iF) (fun x hx=>((kM h y.fact _ (n+1)).2 x).2 (.inl hx)) (Nat.le_of_eq he) t U
    ·exact fun U=>((kM h y.fact _ (n+1)).2 t).2 (.inl U)
   refine ⟨(mg y.ok _ _).1,(kM h y.fact _ _).1,?_⟩
   cases k with
   | zero=>exact J
   | succ k=>
    have e:rs.length - k=rs.length - (k+1)+1:=by omega
    refine ⟨0,fun t=>?_⟩;rw [e]
    exact J t)
  (rs.length+1) 302 (given,List.replicate given.length 0) 0 ν ⟨⟨ha,by simp⟩,hf,⟨0,fun t=>by simp [MQ,Gy]⟩⟩ hl (by simp)
 rcases main with ⟨h1,h2,n',y⟩ | ⟨h1,k',r',n',hk,y,hlen⟩
 ·exact .inl ⟨h1,h2,y.ok,y.fact,y.set⟩
 ·refine .inr ⟨h1,_,jY (mg y.ok (n'+1) _).1.iF,hlen,fun t U=>?_⟩
  obtain ⟨j,I⟩:=y.set;have h3:=(Dq h y.fact I t).1 U;exact UM (show rs.length - k'+1≤rs.length+1 by omega) ⟨j+1,h3⟩
end
section
open Go.RowKit D
attribute [local go_sem ↓] Go.wp_at_zero Go.wp_at_succ
section
variable (vars:List ByteArray) (fs:List A) (rn:List Nat) (bs:List Nat) (ps ns:List A) (head:A) (sk sb:Nat) (Ap:Option Addr) (cp:Nat) (An:Option Addr) (cn:Nat) (bp bn:List Nat) (wt:Nat→Bool) (ah:Int) (c5 c7:Addr) (K:Nat→Prop) (T:Bool→World→List A→Prop) (go:List A→Bool)
theorem SN (E:qA vars fs ps ns head wt) (hK:∀ k,K k→k ≠ sk) (hT:vS vars head sk K c5 c7 T go):∀ (left:Nat),left < 2 ^ ps.length→∀ (b:Bd) (told:List A) (w:World),
  oW vars fs rn bs ps ns sk sb (.slice Ap ps.length cp) (.slice An ns.length cn) bp bn wt ah (.func (.func 208) #[] #[.pointer (some c5),.pointer (some c7)]) K b w→
  (∀ j (h:j < ps.length),left.testBit j=false→wZ b ps[j].args)→T true w told→
  Calls Tryz.prog 237 #[.pointer (some ⟨sk,0,none⟩),.int .i64 left] w (rU vars fs ps ns head K sk T go b left told w):=by
 intro left
 induction left using Nat.strongRecOn with
 | ind left IH=>
  intro hl b told w S I J;by_cases hs:setB vars b wt=true
  ·cases hh:xO fs ns b
   ·by_cases h0:left=0
    ·subst h0
     exact SH vars fs rn bs ps ns head sk sb Ap cp An cn bp bn wt ah c5 c7 K T go E hK hT b told w S (fun p hp=>by
      obtain ⟨j,hj,e⟩:=List.getElem_of_mem hp
      rw [← e]; exact I j hj (by simp)) J hh
    ·exact JQ vars fs rn bs ps ns head sk sb Ap cp An cn bp bn wt ah c5 c7 K T go E hK hT left hl h0 (fun l' U b' y w' S' c' t'=>IH l' U (by omega) b' y w' S' c' t') b told w S I J (fun _=>hh)
   ·exact run_stop vars fs rn bs ps ns head sk sb Ap cp An cn bp bn wt ah c5 c7 K T go E hK hT left b told w S J hs hh
  ·by_cases h0:left=0
   ·subst h0
    exfalso;apply hs
    exact (rQ E.hv S.ok E.want E.hin E.nin).2 (E.tight b fun p hp=>by
     obtain ⟨j,hj,e⟩:=List.getElem_of_mem hp
     rw [← e]; exact I j hj (by simp))
   ·exact JQ vars fs rn bs ps ns head sk sb Ap cp An cn bp bn wt ah c5 c7 K T go E hK hT left hl h0 (fun l' U b' y w' S' c' t'=>IH l' U (by omega) b' y w' S' c' t') b told w S I J (fun h=>absurd h hs)
theorem D.SQ (n:Nat) (h:n≤4):wrap64 (wrap64 (2 ^ n) - 1)=((2 ^ n - 1:Nat):Int):=by
 have H:∀ n:Nat,n < 5→wrap64 (wrap64 (2 ^ n) - 1)=((2 ^ n - 1:Nat):Int):=by decide +kernel
 exact H n (by omega)
theorem D.SS (n j:Nat) (h:n≤4) (y:j < n):(2 ^ n - 1).testBit j=true:=by
 rw [Nat.testBit_two_pow_sub_one]; simpa using y
theorem DT (E:qA vars fs ps ns head wt) (hK:∀ k,K k→k ≠ sk) (J:vS vars head sk K c5 c7 T go) (told:List A) (w:World)
  (S:oW vars fs rn bs ps ns sk sb (.slice Ap ps.length cp) (.slice An ns.length cn) bp bn wt ah (.func (.func 208) #[] #[.pointer (some c5),.pointer (some c7)]) K [] w) (I:T true w told):
  Calls Tryz.prog 209 #[.pointer (some ⟨sk,0,none⟩)] w fun e w'=>e=.returned (.tuple #[])∧∃ held more,iO vars fs ps ns head K sk T go [] (2 ^ ps.length - 1) told held more w w':=by
 have y:=SN vars fs rn bs ps ns head sk sb Ap cp An cn bp bn wt ah c5 c7 K T go E hK J (2 ^ ps.length - 1) (by have:=Nat.two_pow_pos ps.length; omega) [] told w S (fun j hj U=>by rw [SS _ _ E.p4 hj] at U; cases U) I;have y0:=S.sea.p1;have hp:=SQ ps.length E.p4;have a0:(ps.length:Int)≤4:=by have:=E.p4; omega
 clear S I J
 go_enter Tryz.func209,Tryz.ntmps209
 go_wp2_with fail
 refine y.mono ?_;rintro e w2 ⟨held,more,rfl,hP⟩;have HP:=η hP;clear y hP;go_wp2
 go_end0
 exact ⟨rfl,held,more,HP.out⟩
end
end
namespace D
open Go.RowKit
def oI:List A→List A→Bd→Bd × Bool
 | a :: l,f :: fs,b=>if (aC a f b).2 then oI l fs (aC a f b).1 else ((aC a f b).1,false)
 | _,_,b=>(b,true)
def iV (r:Ru) (f:A) (y ys:List A):Bool:=
 decide (y.length=(bW r.body).length) && (aC r.head f []).2 && (oI (bW r.body) y (aC r.head f []).1).2 && dW ys r.body (oI (bW r.body) y (aC r.head f []).1).1
def xY (a:A):Bool:=a.args.all fun t=>!t.var && decide (t.name ≠ ⟨#[]⟩)
theorem sS {a:A}:xY a=true ↔ mY a.args:=by
 unfold xY mY;simp
theorem EN {a:A} (h:aW a=true):xY a=true:=by
 rw [sS];have hf:=yU h;exact fun t y=>⟨(hf.names t y).1,nX (hf.names t y).2⟩
mutual
def sU (rs:List Ru) (xs ys:List A):Pf→Bool
 | .mk f r ks=>if r = -1 then ks.isEmpty && aW f && hasB xs f else if r < 0 then false else
  match rs[r.toNat]? with
  | some q=>aW f && iV q f (ks.map Pf.fact) ys && Pn rs xs ys ks
  | none=>false
def Pn (rs:List Ru) (xs ys:List A):List Pf→Bool
 | []=>true
 | k :: ks=>sU rs xs ys k && Pn rs xs ys ks
end
mutual
def jw (rs:List Ru) (xs ys:List A):Pf→Bool
 | .mk f r ks=>if r = -1 then ks.isEmpty && (hasB xs f && aW f) else if r < 0 then false else
  match rs[r.toNat]? with
  | some q=>aW f && (iV q f (ks.map Pf.fact) ys && ks.all fun k=>xY k.fact) && yX rs xs ys ks
  | none=>false
def yX (rs:List Ru) (xs ys:List A):List Pf→Bool
 | []=>true
 | k :: ks=>jw rs xs ys k && yX rs xs ys ks
end
theorem xZ (rs:List Ru) (xs ys:List A):∀ y,Pn rs xs ys y=y.all (sU rs xs ys)
 | []=>by simp [Pn]
 | k :: y=>by rw [Pn,xZ rs xs ys y,List.all_cons]
theorem vT (rs:List Ru) (xs ys:List A):∀ y,yX rs xs ys y=y.all (jw rs xs ys)
 | []=>by simp [yX]
 | k :: y=>by rw [yX,vT rs xs ys y,List.all_cons]
theorem SV {rs:List Ru} {xs ys:List A}:∀ {p:Pf},sU rs xs ys p=true→aW p.fact=true
 | .mk f r ks,h=>by
  rw [sU] at h;show aW f=true
  split at h
  ·simp only [ο] at h
   exact h.1.2
  ·split at h
   ·cases h
   ·split at h
    ·simp only [ο] at h
     exact h.1.1
    ·cases h
theorem UN (rs:List Ru) (xs ys:List A):∀ p:Pf,jw rs xs ys p=sU rs xs ys p:=Pf.ind fun p ih=>by
 obtain ⟨f,r,J⟩:=p;rw [jw,sU]
 split
 ·rw [Bool.and_comm (hasB xs f),Bool.and_assoc]
 ·split
  ·rfl
  ·split
   ·have hk:yX rs xs ys J=Pn rs xs ys J:=by
     rw [vT,xZ];rw [Bool.eq_iff_iff];simp only [ό];exact ⟨fun h k hk=>by rw [← ih k hk]; exact h k hk,fun h k hk=>by rw [ih k hk]; exact h k hk⟩
    rw [hk];rw [Bool.eq_iff_iff];simp only [ο];constructor
    ·rintro ⟨⟨h1,I,_⟩,y⟩
     exact ⟨⟨h1,I⟩,y⟩
    ·rintro ⟨⟨h1,I⟩,y⟩
     refine ⟨⟨h1,I,?_⟩,y⟩;rw [xZ,ό] at y;exact ό.2 fun k hk=>EN (SV (y k hk))
   ·rfl
end D
section
open Go.RowKit D
open Classical in
noncomputable def D.newL (fs told:List A):List A:=told.foldl (fun acc a=>if a ∈ fs∨a ∈ acc then acc else acc ++ [a]) []
open Classical in
theorem D.yY (fs told:List A) (a:A):newL fs (told ++ [a])=if a ∈ fs∨a ∈ newL fs told then newL fs told else newL fs told ++ [a]:=by
 unfold newL; rw [List.foldl_append]; rfl
theorem D.SX {α:Type} {P:List α→Prop} (h0:P []) (h1:∀ l a,P l→P (l ++ [a])) (l:List α):P l:=by
 have:∀ n (l:List α),l.length=n→P l:=by
  intro n
  induction n with
  | zero=>intro l h; rw [List.length_eq_zero_iff.1 h]; exact h0
  | succ n ih=>
   intro l h;have y:l ≠ []:=by intro e; rw [e] at h; simp at h
   rw [← List.dropLast_concat_getLast y];exact h1 _ _ (ih _ (by simp [h]))
 exact this _ l rfl
theorem D.pq (fs told:List A):(newL fs told).Nodup∧∀ t,t ∈ newL fs told ↔ t ∈ told∧t ∉ fs:=by
 refine SX (P:=fun told=>(newL fs told).Nodup∧∀ t,t ∈ newL fs told ↔ t ∈ told∧t ∉ fs) ⟨by simp [newL],fun t=>by simp [newL]⟩ (fun told a ⟨h1,U⟩=>?_) told;rw [yY]
 split
 ·rename_i h
  refine ⟨h1,fun t=>?_⟩;rw [U,μ,ώ];constructor
  ·exact fun ⟨J,I⟩=>⟨.inl J,I⟩
  ·rintro ⟨J | rfl,I⟩
   ·exact ⟨J,I⟩
   ·rcases h with h | h
    ·exact absurd h I
    ·exact (U t).1 h
 ·rename_i h
  have ha:a ∉ fs∧a ∉ newL fs told:=⟨fun e=>h (.inl e),fun e=>h (.inr e)⟩;refine ⟨List.nodup_append.2 ⟨h1,by simp,fun x hx y hy e=>?_⟩,fun t=>?_⟩
  ·simp at hy
   exact ha.2 (by rw [← hy,← e]; exact hx)
  ·rw [μ,ώ,μ,ώ,U]
   constructor
   ·rintro (⟨J,I⟩ | rfl)
    ·exact ⟨.inl J,I⟩
    ·exact ⟨.inr rfl,ha.1⟩
   ·rintro ⟨J | rfl,I⟩
    ·exact .inl ⟨J,I⟩
    ·exact .inr rfl
open Classical in
noncomputable def D.SY (fs L:List A):Bool:=decide ((∃ told a,L=told ++ [a]∧(a ∈ fs∨a ∈ newL fs told))∨fs.length+(newL fs L).length≤300)
open Classical in
theorem D.JU (fs told:List A) (a:A):SY fs (told ++ [a])=decide (a ∈ fs∨a ∈ newL fs told∨fs.length+(newL fs (told ++ [a])).length≤300):=by
 unfold SY;apply decide_eq_decide.2;refine ⟨?_,?_⟩
 ·rintro (⟨t,b,e,h⟩ | h)
  ·have:=List.append_inj' e rfl
   obtain ⟨rfl,y⟩:=this;simp at y;subst y;exact h.imp id .inl
  ·exact .inr (.inr h)
 ·rintro (h | h | h)
  ·exact .inl ⟨told,a,rfl,.inl h⟩
  ·exact .inl ⟨told,a,rfl,.inr h⟩
  ·exact .inr h
open Classical in
theorem D.Po {fs L:List A} (h:SY fs L=false):300 < fs.length+(newL fs L).length:=by
 unfold SY at h;have:=of_decide_eq_false h;have y:¬ fs.length+(newL fs L).length≤300:=fun e=>this (.inr e)
 omega
structure D.U6 (fs:List A) (rn:List Nat) (r:Rd):Prop where
 len:rn.length=fs.length
 perm:(fs.zip rn).Perm (r.1.zip r.2)
theorem D.zip_fst {α β:Type}:∀ {l:List α} {m:List β},l.length≤m.length→(l.zip m).map (·.1)=l
 | [],m,_=>by simp
 | a :: l,[],h=>by simp at h
 | a :: l,b :: m,h=>by simp only [List.zip_cons_cons,List.map_cons]; rw [zip_fst (by simpa using h)]
theorem D.U6.fst {fs:List A} {rn:List Nat} {r:Rd} (h:U6 fs rn r) (hr:oG r):fs.Perm r.1:=by
 have:=h.perm.map (·.1)
 rwa [zip_fst (Nat.le_of_eq h.len.symm),zip_fst (Nat.le_of_eq hr.len.symm)] at this
theorem D.Pq {r:Rd} (hr:oG r) (a:A) (n:Nat):hasB r.1 a=false→((gI r a n).1.zip (gI r a n).2).Perm ((a,n) :: r.1.zip r.2):=by
 intro h
 have e:gI r a n=(r.1.take (pl r.1 a) ++ a :: r.1.drop (pl r.1 a),r.2.take (pl r.1 a) ++ [n] ++ r.2.drop (pl r.1 a)):=by
  unfold gI fC;rw [h];rfl
 rw [e];have J:=(oL hr.iF a).2.2;have U:=hr.len
 have y:(r.1.take (pl r.1 a) ++ a :: r.1.drop (pl r.1 a)).zip (r.2.take (pl r.1 a) ++ [n] ++ r.2.drop (pl r.1 a))=(r.1.take (pl r.1 a)).zip (r.2.take (pl r.1 a)) ++ (a,n) :: (r.1.drop (pl r.1 a)).zip (r.2.drop (pl r.1 a)):=by
  rw [List.append_assoc,List.zip_append (by simp; omega)];rfl
 have I:r.1.zip r.2=(r.1.take (pl r.1 a)).zip (r.2.take (pl r.1 a)) ++ (r.1.drop (pl r.1 a)).zip (r.2.drop (pl r.1 a)):=by
  rw [← List.zip_append (by simp; omega),List.take_append_drop,List.take_append_drop]
 show List.Perm (List.zip _ _) _;rw [y,I];exact List.perm_middle
open Classical in
theorem D.MS {r:Rd} (hr:oG r) (hf:∀ x ∈ r.1,aT x) (n:Nat):∀ more:List A,(∀ x ∈ more,aT x)→more.Nodup→
  ((iU more n r).1.zip (iU more n r).2).Perm (r.1.zip r.2 ++ (more.filter fun a=>decide (a ∉ r.1)).map fun a=>(a,n)):=by
 intro more
 induction more generalizing r with
 | nil=>intro _ _; simp [iU]
 | cons a more ih=>
  intro hm hn;have ha:=hm a Γ;have y:=List.nodup_cons.1 hn;have h1:∀ x,x ∈ (gI r a n).1 ↔ x ∈ r.1∨x=a:=fun x=>by rw [sN]; exact xW hf ha x
  have U:=ih (r:=gI r a n) (hr.put a n) (fun x I=>((h1 x).1 I).elim (hf x) fun e=>e ▸ ha) (fun x I=>hm x (Δ _ I)) y.2;have e0:iU (a :: more) n r=iU more n (gI r a n):=rfl;rw [e0]
  have e1:more.filter (fun b=>decide (b ∉ (gI r a n).1))=more.filter fun b=>decide (b ∉ r.1):=by
   refine List.filter_congr fun b J=>decide_eq_decide.2 ?_
   rw [h1];constructor
   ·exact fun h e=>h (.inl e)
   ·rintro h (e | rfl)
    ·exact h e
    ·exact y.1 J
  rw [e1] at U;refine U.trans ?_;by_cases hc:a ∈ r.1
  ·have e2:gI r a n=r:=by
    unfold gI;rw [if_pos (lg hc)]
   rw [e2,List.filter_cons_of_neg (by simpa using hc)]
  ·have J:hasB r.1 a=false:=by
    cases hh:hasB r.1 a
    ·rfl
    ·exact absurd ((qi (fun x I=>(hf x I).gr) ha.gr).1 hh) hc
   rw [List.filter_cons_of_pos (by simpa using hc),List.map_cons];exact ((Pq hr a n J).append_right _).trans List.perm_middle.symm
def D.OwnAt (rs:List Ru) (level:Nat) (own:List Ru):Prop:=∀ r,r ∈ own ↔ r ∈ rs∧iq rs r.head.name=level
theorem D.EO {rs:List Ru} (h:xX rs) {r:Rd} (hr:oG r) (hf:∀ x ∈ r.1,aT x) {fs:List A} {rn:List Nat} (hs:U6 fs rn r) {level n:Nat} {next:List Ru} {new:List A} (J:∀ q ∈ next,q ∈ rs∧iq rs q.head.name=level)
  (U:∀ q ∈ rs,iq rs q.head.name=level→q ∉ next→∀ t,kE fs q t→t ∈ fs) (hn:new.Nodup) (a1:∀ t,t ∈ new ↔ t ∉ fs∧∃ q ∈ next,kE fs q t):
  U6 (fs ++ new) (rn ++ List.replicate new.length n) (dZ rs (aF rs) level r n)∧(dZ rs (aF rs) level r n).1.length=fs.length+new.length:=by
 classical
 have a2:=hs.fst hr;have y:∀ x,x ∈ fs ↔ x ∈ r.1:=fun x=>a2.mem_iff
 obtain ⟨k1,k2,k3⟩:=NK h hf level;have hz:=MS hr hf n _ k2 (jY k1)
 have hp:((iL r.1 level (rs.zip (aF rs))).filter fun a=>decide (a ∉ r.1)).Perm new:=by
  refine (List.perm_ext_iff_of_nodup ((jY k1).filter _) hn).2 fun t=>?_
  rw [List.mem_filter,k3,a1,decide_eq_true_iff,← y];constructor
  ·rintro ⟨⟨q,hq,hl,a0⟩,h2⟩
   have a3:kE fs q t:=(qC fun x _=>y x).2 a0;refine ⟨h2,q,?_,a3⟩;by_cases a4:q ∈ next
   ·exact a4
   ·exact absurd (U q hq hl a4 t a3) h2
  ·rintro ⟨h2,q,hq,a0⟩
   exact ⟨⟨q,(J q hq).1,(J q hq).2,(qC fun x _=>y x).1 a0⟩,h2⟩
 have I:((fs ++ new).zip (rn ++ List.replicate new.length n)).Perm ((dZ rs (aF rs) level r n).1.zip (dZ rs (aF rs) level r n).2):=by
  rw [List.zip_append hs.len.symm]
  have e:new.zip (List.replicate new.length n)=new.map fun a=>(a,n):=by
   apply List.ext_getElem
   ·simp
   ·intro i h1 h2
    simp
  rw [e];exact ((hs.perm.append (hp.symm.map _))).trans hz.symm
 have a5:=(mg hr n (iL r.1 level (rs.zip (aF rs)))).1;refine ⟨⟨by simp [hs.len],I⟩,?_⟩;have hl:=I.length_eq;have a6:(dZ rs (aF rs) level r n).2.length=(dZ rs (aF rs) level r n).1.length:=a5.len;simp only [List.length_zip,χ,List.length_replicate,hs.len,a6,Nat.min_self] at hl;omega
theorem D.S9 {rs:List Ru} (h:xX rs) {r:Rd} (hr:oG r) (hf:∀ x ∈ r.1,aT x) {fs:List A} {rn:List Nat} (hs:U6 fs rn r) {level n:Nat} {next:List Ru} {new:List A} (I:∀ q ∈ next,q ∈ rs∧iq rs q.head.name=level)
  (hn:new.Nodup) (J:∀ t ∈ new,t ∉ fs∧∃ q ∈ next,kE fs q t) (hm:300 < fs.length+new.length):300 < (dZ rs (aF rs) level r n).1.length:=by
 classical
 have U:=hs.fst hr;have a0:∀ x,x ∈ fs ↔ x ∈ r.1:=fun x=>U.mem_iff
 have h1:=(kM h hf level n).2;have a1:(r.1 ++ new).Nodup:=List.nodup_append.2 ⟨jY hr.iF,hn,fun x hx y hy e=>(J y hy).1 ((a0 y).2 (e ▸ hx))⟩
 have h2:=oM a1 (l2:=(dZ rs (aF rs) level r n).1) fun x hx=>by
  rcases μ.1 hx with hx | hx
  ·exact (h1 x).2 (.inl hx)
  ·obtain ⟨_,q,hq,a2⟩:=J x hx
   exact (h1 x).2 (.inr ⟨q,(I q hq).1,(I q hq).2,(qC fun x _=>a0 x).1 a2⟩)
 rw [χ,← U.length_eq] at h2;omega
theorem D.JV {fs new:List A} {q:Ru} (h:∀ p ∈ q.body,p.no=false→∀ t ∈ new,t.name ≠ p.atom.name) {t:A} (hf:kE (fs ++ new) q t):kE fs q t:=by
 obtain ⟨σ,rfl,h1,J⟩:=hf;refine ⟨σ,rfl,fun p y I=>?_,fun p y I hm=>J p y I (Ξ _ hm)⟩
 rcases μ.1 (h1 p y I) with hm | hm
 ·exact hm
 ·exact absurd rfl (h p y I (gm σ p.atom) hm)
end
end Go.Proofs.YtlmngncogomgeaaGreatDoor
