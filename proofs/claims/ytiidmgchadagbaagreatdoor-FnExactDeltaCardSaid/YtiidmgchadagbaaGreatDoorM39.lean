/- Of the proof of FnExactDelta: SetP, AllI, RndP. -/
import Derived.Test.YtiidmgchadagbaaGreatDoorM38
set_option linter.unusedVariables false
set_option maxHeartbeats 4000000
set_option maxRecDepth 100000
namespace Go.Proofs.YtiidmgchadagbaaGreatDoor
open Go.RowKit D
theorem D.Vs {rs:List Ru} {lv:List Nat} (Inv:Nat→Rd→Nat→Prop) (hok:∀ k r n,Inv k r n→pW r)
  (hgrow:∀ k r n,k≤rs.length→Inv (k+1) r n→(fG rs lv (rs.length - k) r (n+1)).1.length≤300→(fG rs lv (rs.length - k) r (n+1)).1.length ≠ r.1.length→Inv (k+1) (fG rs lv (rs.length - k) r (n+1)) (n+1))
  (hend:∀ k r n,k≤rs.length→Inv (k+1) r n→(fG rs lv (rs.length - k) r (n+1)).1.length=r.1.length→Inv k (fG rs lv (rs.length - k) r (n+1)) n):
  ∀ (k fuel:Nat) (r:Rd) (n:Nat),k≤rs.length+1→Inv k r n→r.1.length≤300→302≤fuel+r.1.length→
   ((AQ rs lv k fuel r n).2=true∧(AQ rs lv k fuel r n).1.1.length≤300∧∃ n',Inv 0 (AQ rs lv k fuel r n).1 n') ∨
   ((AQ rs lv k fuel r n).2=false∧∃ k' r' n',k'≤rs.length∧Inv (k'+1) r' n'∧300 < (fG rs lv (rs.length - k') r' (n'+1)).1.length):=by
 intro k
 induction k with
 | zero=>
  intro fuel r n _ hI hl _;rw [AQ];exact .inl ⟨rfl,hl,n,hI⟩
 | succ k ihk=>
  intro fuel
  induction fuel with
  | zero=>intro r n _ _ h1 h2; omega
  | succ fuel ihf=>
   intro r n hk hI hl hf;have hge:=(nV (hok _ _ _ hI) (n+1) (ja r.1 (rs.length - k) (rs.zip lv))).2.1;have hge':r.1.length≤(fG rs lv (rs.length - k) r (n+1)).1.length:=hge;rw [AQ];by_cases h1:300 < (fG rs lv (rs.length - k) r (n+1)).1.length
   ·rw [if_pos h1]
    exact .inr ⟨rfl,k,r,n,by omega,hI,h1⟩
   ·rw [if_neg h1]
    by_cases h2:(fG rs lv (rs.length - k) r (n+1)).1.length=r.1.length
    ·rw [if_pos h2]
     exact ihk 302 _ n (by omega) (hend k r n (by omega) hI h2) (by omega) (by omega)
    ·rw [if_neg h2]
     exact ihf _ (n+1) hk (hgrow k r n (by omega) hI (by omega) h2) (by omega) (by omega)
def D.Qw (S:A→Prop) (r:Ru) (t:A):Prop:=∃ σ:Wo,t=gY σ r.head∧(∀ p ∈ r.body,p.no=false→S (gY σ p.atom))∧∀ p ∈ r.body,p.no=true→¬ S (gY σ p.atom)
theorem D.rJ {S S':A→Prop} {r:Ru} {t:A} (h:∀ x,(∃ p ∈ r.body,p.atom.name=x.name)→(S x ↔ S' x)):Qw S r t ↔ Qw S' r t:=by
 have key:∀ (S S':A→Prop),(∀ x,(∃ p ∈ r.body,p.atom.name=x.name)→(S x ↔ S' x))→Qw S r t→Qw S' r t:=by
  rintro S S' h ⟨σ,rfl,h1,h2⟩;exact ⟨σ,rfl,fun p hp hn=>(h (gY σ p.atom) ⟨p,hp,rfl⟩).1 (h1 p hp hn),fun p hp hn hs=>h2 p hp hn ((h (gY σ p.atom) ⟨p,hp,rfl⟩).2 hs)⟩
 exact ⟨key S S' h,key S' S fun x hx=>(h x hx).symm⟩
def D.TS (rs:List Ru) (k:Nat) (S:A→Prop) (t:A):Prop:=∃ r ∈ rs,iO rs r.head.name=k∧Qw S r t
def D.NS (rs:List Ru) (k:Nat) (S:A→Prop):Nat→A→Prop
 | 0=>S
 | j+1=>fun t=>NS rs k S j t∨TS rs k (NS rs k S j) t
def D.Vt (rs:List Ru) (k:Nat) (S:A→Prop):A→Prop:=fun t=>∃ j,NS rs k S j t
def D.Hr (rs:List Ru) (S:A→Prop):Nat→A→Prop
 | 0=>S
 | k+1=>Vt rs k (Hr rs S k)
def D.Vu (rs:List Ru) (S:A→Prop):A→Prop:=Hr rs S (rs.length+1)
theorem D.Ud {rs:List Ru} {k:Nat} {S:A→Prop} {i j:Nat} (h:i≤j) {t:A} (ht:NS rs k S i t):NS rs k S j t:=by
 induction h with
 | refl=>exact ht
 | step _ ih=>exact .inl ih
theorem D.Vw {rs:List Ru} {S:A→Prop} {i j:Nat} (h:i≤j) {t:A} (ht:Hr rs S i t):Hr rs S j t:=by
 induction h with
 | refl=>exact ht
 | step _ ih=>exact ⟨0,ih⟩
theorem D.KL {rs:List Ru} {k:Nat} {S S':A→Prop} (h:∀ x,S x ↔ S' x) (t:A):TS rs k S t ↔ TS rs k S' t:=by
 have:S=S':=funext fun x=>propext (h x)
 rw [this]
theorem D.Qx {rs:List Ru} {k:Nat} {S:A→Prop} {j:Nat} (h:∀ t,TS rs k (NS rs k S j) t→NS rs k S j t) (t:A):Vt rs k S t ↔ NS rs k S j t:=by
 constructor
 ·rintro ⟨i,hi⟩
  rcases Nat.le_total i j with hij | hij
  ·exact Ud hij hi
  ·have:∀ d t,NS rs k S (j+d) t→NS rs k S j t:=by
    intro d
    induction d with
    | zero=>intro t ht; exact ht
    | succ d ih=>
     intro t ht
     rcases ht with ht | ⟨r,hr,hk,hf⟩
     ·exact ih t ht
     ·refine h t ⟨r,hr,hk,(rJ fun x _=>?_).1 hf⟩
      exact ⟨ih x,fun hx=>Ud (Nat.le_add_right _ _) hx⟩
   obtain ⟨d,rfl⟩:=Nat.exists_eq_add_of_le hij;exact this d t hi
 ·exact fun h=>⟨j,h⟩
theorem D.OD {rs:List Ru} (hc:Closed rs (ax rs)) {p:Ru × Nat} (hp:p ∈ rs.zip (ax rs)):p.1 ∈ rs∧p.2=iO rs p.1.head.name:=by
 obtain ⟨i,hi,rfl⟩:=List.getElem_of_mem hp;simp only [List.length_zip,gy,Nat.min_self] at hi;have h2:=(oC hc).2 i hi;have e1:dQ rs i=rs[i]:=by unfold dQ; simp [List.getD,hi]
 have e2:iP (ax rs) i=(ax rs)[i]'(by rw [gy]; exact hi):=by unfold iP; simp [List.getD,gy,hi]
 rw [e1,e2] at h2;simp only [List.getElem_zip];exact ⟨List.getElem_mem _,h2⟩
theorem D.Ue {rs:List Ru} (hc:Closed rs (ax rs)) {r:Ru} (hr:r ∈ rs):(r,iO rs r.head.name) ∈ rs.zip (ax rs):=by
 obtain ⟨i,hi,rfl⟩:=List.getElem_of_mem hr;refine List.mem_iff_getElem.2 ⟨i,by simp [gy]; exact hi,?_⟩;have:=(OD hc (List.getElem_mem (l:=rs.zip (ax rs)) (n:=i) (by simp [gy]; exact hi))).2;simp only [List.getElem_zip] at this ⊢;rw [this]
structure D.yE (rs:List Ru):Prop where
 fol:∀ r ∈ rs,kL r
 cyc:Closed rs (ax rs)
theorem D.VH {rs:List Ru} (h:fO rs=0):yE rs:=by
 refine ⟨fun r hr=>TY h hr,?_⟩;unfold fO at h
 split at h
 ·cases h
 ·split at h
  ·cases h
  ·split at h
   ·cases h
   ·split at h
    ·cases h
    ·split at h
     ·cases h
     ·rename_i hc
      exact Md (by simpa using hc)
theorem D.OE {rs:List Ru} (h:yE rs) {xs:List A} (hx:∀ x ∈ xs,aX x) (level:Nat):ig (ja xs level (rs.zip (ax rs)))=true∧(∀ t ∈ ja xs level (rs.zip (ax rs)),aX t)∧∀ t,t ∈ ja xs level (rs.zip (ax rs)) ↔ TS rs level (fun x=>x ∈ xs) t:=by
 obtain ⟨k1,k2,k3⟩:=Qv (level:=level) hx (rl:=rs.zip (ax rs)) fun p hp=>h.fol _ (List.of_mem_zip hp).1
 refine ⟨k1,k2,fun t=>(k3 t).trans ⟨?_,?_⟩⟩
 ·rintro ⟨p,hp,hl,hf⟩
  obtain ⟨g1,g2⟩:=OD h.cyc hp;exact ⟨p.1,g1,by rw [← g2]; exact hl,hf⟩
 ·rintro ⟨r,hr,hl,hf⟩
  exact ⟨_,Ue h.cyc hr,hl,hf⟩
theorem D.NT {r:Rd} (hr:∀ x ∈ r.1,aX x) (n:Nat):∀ more:List A,(∀ x ∈ more,aX x)→(∀ x ∈ (jh more n r).1,aX x)∧∀ t,t ∈ (jh more n r).1 ↔ t ∈ r.1∨t ∈ more:=by
 intro more
 induction more generalizing r with
 | nil=>intro _; exact ⟨hr,fun t=>by simp [jh]⟩
 | cons a more ih=>
  intro hm;have ha:=hm a (List.mem_cons_self ..);have h1:∀ x,x ∈ (iD r a n).1 ↔ x ∈ r.1∨x=a:=fun x=>by rw [uO]; exact yD hr ha x
  obtain ⟨g1,g2⟩:=ih (r:=iD r a n) (fun x hx=>((h1 x).1 hx).elim (hr x) fun e=>e ▸ ha) fun x hx=>hm x (List.mem_cons_of_mem _ hx)
  refine ⟨g1,fun t=>?_⟩;have:jh (a :: more) n r=jh more n (iD r a n):=rfl;rw [this,g2,h1,List.mem_cons,or_assoc]
theorem D.lI {rs:List Ru} (h:yE rs) {r:Rd} (hr:∀ x ∈ r.1,aX x) (level n:Nat):(∀ x ∈ (fG rs (ax rs) level r n).1,aX x)∧∀ t,t ∈ (fG rs (ax rs) level r n).1 ↔ t ∈ r.1∨TS rs level (fun x=>x ∈ r.1) t:=by
 obtain ⟨_,k2,k3⟩:=OE h hr level;obtain ⟨g1,g2⟩:=NT hr n _ k2;exact ⟨g1,fun t=>by rw [← k3 t]; exact g2 t⟩
theorem D.KN {xs ys:List A} (h1:xs.Nodup) (h2:∀ x ∈ xs,x ∈ ys) (h3:ys.length≤xs.length):∀ y ∈ ys,y ∈ xs:=by
 intro y hy;by_cases hm:y ∈ xs
 ·exact hm
 ·exfalso
  have h4:(y :: xs).Nodup:=List.nodup_cons.2 ⟨hm,h1⟩
  have h5:=List.Nodup.length_le_of_subset h4 (l₂:=ys) (fun x hx=>by
   rcases List.mem_cons.1 hx with rfl | hx
   ·exact hy
   ·exact h2 x hx)
  simp at h5;omega
structure D.Wv (rs:List Ru) (S:A→Prop) (k:Nat) (r:Rd) (n:Nat):Prop where
 ok:pW r
 fact:∀ x ∈ r.1,aX x
 set:match k with
  | 0=>∀ t,t ∈ r.1 ↔ Vu rs S t
  | k+1=>∃ j,∀ t,t ∈ r.1 ↔ NS rs (rs.length - k) (Hr rs S (rs.length - k)) j t
theorem D.DI {rs:List Ru} (h:yE rs) {r:Rd} (hr:∀ x ∈ r.1,aX x) {level j n:Nat} {S:A→Prop} (hj:∀ t,t ∈ r.1 ↔ NS rs level S j t) (t:A):t ∈ (fG rs (ax rs) level r n).1 ↔ NS rs level S (j+1) t:=by
 rw [(lI h hr level n).2 t,hj t,KL hj t];exact Iff.rfl
theorem D.Uf {rs:List Ru} (h:yE rs) {given:List A} (ha:ig given=true) (hf:∀ x ∈ given,aX x) (hl:given.length≤300):
  ((iM rs given).2=true∧(iM rs given).1.1.length≤300∧pW (iM rs given).1∧(∀ x ∈ (iM rs given).1.1,aX x)∧∀ t,t ∈ (iM rs given).1.1 ↔ Vu rs (fun x=>x ∈ given) t) ∨
  ((iM rs given).2=false∧∃ L:List A,L.Nodup∧300 < L.length∧∀ t ∈ L,Vu rs (fun x=>x ∈ given) t):=by
 have main:=Vs (rs:=rs) (lv:=ax rs) (Wv rs fun x=>x ∈ given) (fun k r n hI=>hI.ok)
  (fun k r n hk hI _ _=>by
   obtain ⟨j,hj⟩:=hI.set
   exact ⟨(nV hI.ok _ _).1,(lI h hI.fact _ _).1,j+1,DI h hI.fact hj⟩)
  (fun k r n hk hI he=>by
   obtain ⟨j,hj⟩:=hI.set;have hs:=DI (n:=n+1) h hI.fact hj
   have hst:∀ t,Vt rs (rs.length - k) (Hr rs (fun x=>x ∈ given) (rs.length - k)) t ↔ NS rs (rs.length - k) (Hr rs (fun x=>x ∈ given) (rs.length - k)) j t:=Qx fun t ht=>by
    refine (hj t).1 (KN (kX hI.ok.ig) (fun x hx=>((lI h hI.fact _ (n+1)).2 x).2 (.inl hx)) (Nat.le_of_eq he) t ?_);exact ((lI h hI.fact _ (n+1)).2 t).2 (.inr ((KL hj t).2 ht))
   have hfin:∀ t,t ∈ (fG rs (ax rs) (rs.length - k) r (n+1)).1 ↔ Hr rs (fun x=>x ∈ given) (rs.length - k+1) t:=fun t=>by
    show _ ↔ Vt rs _ _ t;rw [hst,← hj t];constructor
    ·exact fun ht=>KN (kX hI.ok.ig) (fun x hx=>((lI h hI.fact _ (n+1)).2 x).2 (.inl hx)) (Nat.le_of_eq he) t ht
    ·exact fun ht=>((lI h hI.fact _ (n+1)).2 t).2 (.inl ht)
   refine ⟨(nV hI.ok _ _).1,(lI h hI.fact _ _).1,?_⟩
   cases k with
   | zero=>exact hfin
   | succ k=>
    have e:rs.length - k=rs.length - (k+1)+1:=by omega
    refine ⟨0,fun t=>?_⟩;rw [e]
    exact hfin t)
  (rs.length+1) 302 (given,List.replicate given.length 0) 0 (Nat.le_refl _) ⟨⟨ha,by simp⟩,hf,⟨0,fun t=>by simp [NS,Hr]⟩⟩ hl (by simp)
 rcases main with ⟨h1,h2,n',hI⟩ | ⟨h1,k',r',n',hk,hI,hlen⟩
 ·exact .inl ⟨h1,h2,hI.ok,hI.fact,hI.set⟩
 ·refine .inr ⟨h1,_,kX (nV hI.ok (n'+1) _).1.ig,hlen,fun t ht=>?_⟩
  obtain ⟨j,hj⟩:=hI.set;have h3:=(DI h hI.fact hj t).1 ht;exact Vw (show rs.length - k'+1≤rs.length+1 by omega) ⟨j+1,h3⟩
end Go.Proofs.YtiidmgchadagbaaGreatDoor
namespace Go.Proofs.YtiidmgchadagbaaGreatDoor
open Go.RowKit D
attribute [local go_sem ↓] Go.wp_at_zero Go.wp_at_succ
section
variable (vars:List ByteArray) (fs:List A) (rn:List Nat) (bs:List Nat) (ps ns:List A) (head:A) (sk sb:Nat) (Ap:Option Addr) (cp:Nat) (An:Option Addr) (cn:Nat) (bp bn:List Nat) (wt:Nat→Bool) (ah:Int) (c5 c7:Addr) (K:Nat→Prop) (T:Bool→World→List A→Prop) (go:List A→Bool)
theorem Ug (E:rH vars fs ps ns head wt) (hK:∀ k,K k→k ≠ sk) (hT:wL vars head sk K c5 c7 T go):∀ (left:Nat),left < 2 ^ ps.length→∀ (b:Bd) (told:List A) (w:World),
  qw vars fs rn bs ps ns sk sb (.slice Ap ps.length cp) (.slice An ns.length cn) bp bn wt ah (.func (.func 142) #[] #[.pointer (some c5),.pointer (some c7)]) K b w→
  (∀ j (h:j < ps.length),left.testBit j=false→xK b ps[j].args)→T true w told→
  Calls Tryz.prog 179 #[.pointer (some ⟨sk,0,none⟩),.int .i64 left] w (uy vars fs ps ns head K sk T go b left told w):=by
 intro left
 induction left using Nat.strongRecOn with
 | ind left IH=>
  intro hl b told w S hcov hTw;by_cases hs:setB vars b wt=true
  ·cases hh:yw fs ns b
   ·by_cases h0:left=0
    ·subst h0
     exact Uc vars fs rn bs ps ns head sk sb Ap cp An cn bp bn wt ah c5 c7 K T go E hK hT b told w S (fun p hp=>by
      obtain ⟨j,hj,e⟩:=List.getElem_of_mem hp
      rw [← e]; exact hcov j hj (by simp)) hTw hh
    ·exact KJ vars fs rn bs ps ns head sk sb Ap cp An cn bp bn wt ah c5 c7 K T go E hK hT left hl h0 (fun l' hl' b' told' w' S' c' t'=>IH l' hl' (by omega) b' told' w' S' c' t') b told w S hcov hTw (fun _=>hh)
   ·exact run_stop vars fs rn bs ps ns head sk sb Ap cp An cn bp bn wt ah c5 c7 K T go E hK hT left b told w S hTw hs hh
  ·by_cases h0:left=0
   ·subst h0
    exfalso;apply hs
    exact (uw E.hv S.ok E.want E.hin E.nin).2 (E.tight b fun p hp=>by
     obtain ⟨j,hj,e⟩:=List.getElem_of_mem hp
     rw [← e]; exact hcov j hj (by simp))
   ·exact KJ vars fs rn bs ps ns head sk sb Ap cp An cn bp bn wt ah c5 c7 K T go E hK hT left hl h0 (fun l' hl' b' told' w' S' c' t'=>IH l' hl' (by omega) b' told' w' S' c' t') b told w S hcov hTw (fun h=>absurd h hs)
theorem D.Uh (n:Nat) (h:n≤4):wrap64 (wrap64 (2 ^ n) - 1)=((2 ^ n - 1:Nat):Int):=by
 have H:∀ n:Nat,n < 5→wrap64 (wrap64 (2 ^ n) - 1)=((2 ^ n - 1:Nat):Int):=by decide +kernel
 exact H n (by omega)
theorem D.Ui (n j:Nat) (h:n≤4) (hj:j < n):(2 ^ n - 1).testBit j=true:=by
 rw [Nat.testBit_two_pow_sub_one]; simpa using hj
theorem Eh (E:rH vars fs ps ns head wt) (hK:∀ k,K k→k ≠ sk) (hT:wL vars head sk K c5 c7 T go) (told:List A) (w:World)
  (S:qw vars fs rn bs ps ns sk sb (.slice Ap ps.length cp) (.slice An ns.length cn) bp bn wt ah (.func (.func 142) #[] #[.pointer (some c5),.pointer (some c7)]) K [] w) (hTw:T true w told):
  Calls Tryz.prog 144 #[.pointer (some ⟨sk,0,none⟩)] w fun e w'=>e=.returned (.tuple #[])∧∃ held more,jc vars fs ps ns head K sk T go [] (2 ^ ps.length - 1) told held more w w':=by
 have hrun:=Ug vars fs rn bs ps ns head sk sb Ap cp An cn bp bn wt ah c5 c7 K T go E hK hT (2 ^ ps.length - 1) (by have:=Nat.two_pow_pos ps.length; omega) [] told w S (fun j hj hb=>by rw [Ui _ _ E.p4 hj] at hb; cases hb) hTw;have y0:=S.sea.p1;have hp:=Uh ps.length E.p4;have hp4:(ps.length:Int)≤4:=by have:=E.p4; omega
 clear S hTw hT
 go_enter Tryz.func144,Tryz.ntmps144
 go_wp2_with fail
 refine hrun.mono ?_;rintro e w2 ⟨held,more,rfl,hP⟩;have HP:=η hP;clear hrun hP;go_wp2
 go_end0
 exact ⟨rfl,held,more,HP.out⟩
end
end Go.Proofs.YtiidmgchadagbaaGreatDoor
namespace Go.Proofs.YtiidmgchadagbaaGreatDoor
open Go.RowKit D
open Classical in
noncomputable def D.newL (fs told:List A):List A:=told.foldl (fun acc a=>if a ∈ fs∨a ∈ acc then acc else acc ++ [a]) []
open Classical in
theorem D.zh (fs told:List A) (a:A):newL fs (told ++ [a])=if a ∈ fs∨a ∈ newL fs told then newL fs told else newL fs told ++ [a]:=by
 unfold newL; rw [List.foldl_append]; rfl
theorem D.Uj {α:Type} {P:List α→Prop} (h0:P []) (h1:∀ l a,P l→P (l ++ [a])) (l:List α):P l:=by
 have:∀ n (l:List α),l.length=n→P l:=by
  intro n
  induction n with
  | zero=>intro l h; rw [List.length_eq_zero_iff.1 h]; exact h0
  | succ n ih=>
   intro l h;have hne:l ≠ []:=by intro e; rw [e] at h; simp at h
   rw [← List.dropLast_concat_getLast hne];exact h1 _ _ (ih _ (by simp [h]))
 exact this _ l rfl
theorem D.qA (fs told:List A):(newL fs told).Nodup∧∀ t,t ∈ newL fs told ↔ t ∈ told∧t ∉ fs:=by
 refine Uj (P:=fun told=>(newL fs told).Nodup∧∀ t,t ∈ newL fs told ↔ t ∈ told∧t ∉ fs) ⟨by simp [newL],fun t=>by simp [newL]⟩ (fun told a ⟨h1,h2⟩=>?_) told;rw [zh]
 split
 ·rename_i h
  refine ⟨h1,fun t=>?_⟩;rw [h2,List.mem_append,List.mem_singleton];constructor
  ·exact fun ⟨g1,g2⟩=>⟨.inl g1,g2⟩
  ·rintro ⟨g1 | rfl,g2⟩
   ·exact ⟨g1,g2⟩
   ·rcases h with h | h
    ·exact absurd h g2
    ·exact (h2 t).1 h
 ·rename_i h
  have ha:a ∉ fs∧a ∉ newL fs told:=⟨fun e=>h (.inl e),fun e=>h (.inr e)⟩;refine ⟨List.nodup_append.2 ⟨h1,by simp,fun x hx y hy e=>?_⟩,fun t=>?_⟩
  ·simp at hy
   exact ha.2 (by rw [← hy,← e]; exact hx)
  ·rw [List.mem_append,List.mem_singleton,List.mem_append,List.mem_singleton,h2]
   constructor
   ·rintro (⟨g1,g2⟩ | rfl)
    ·exact ⟨.inl g1,g2⟩
    ·exact ⟨.inr rfl,ha.1⟩
   ·rintro ⟨g1 | rfl,g2⟩
    ·exact .inl ⟨g1,g2⟩
    ·exact .inr rfl
open Classical in
noncomputable def D.Uk (fs L:List A):Bool:=decide ((∃ told a,L=told ++ [a]∧(a ∈ fs∨a ∈ newL fs told))∨fs.length+(newL fs L).length≤300)
open Classical in
theorem D.KO (fs told:List A) (a:A):Uk fs (told ++ [a])=decide (a ∈ fs∨a ∈ newL fs told∨fs.length+(newL fs (told ++ [a])).length≤300):=by
 unfold Uk;apply decide_eq_decide.2;refine ⟨?_,?_⟩
 ·rintro (⟨t,b,e,h⟩ | h)
  ·have:=List.append_inj' e rfl
   obtain ⟨rfl,e2⟩:=this;simp at e2;subst e2;exact h.imp id .inl
  ·exact .inr (.inr h)
 ·rintro (h | h | h)
  ·exact .inl ⟨told,a,rfl,.inl h⟩
  ·exact .inl ⟨told,a,rfl,.inr h⟩
  ·exact .inr h
open Classical in
theorem D.Qy {fs L:List A} (h:Uk fs L=false):300 < fs.length+(newL fs L).length:=by
 unfold Uk at h;have:=of_decide_eq_false h;have h2:¬ fs.length+(newL fs L).length≤300:=fun e=>this (.inr e)
 omega
structure D.VI (fs:List A) (rn:List Nat) (r:Rd):Prop where
 len:rn.length=fs.length
 perm:(fs.zip rn).Perm (r.1.zip r.2)
theorem D.zip_fst {α β:Type}:∀ {l:List α} {m:List β},l.length≤m.length→(l.zip m).map (·.1)=l
 | [],m,_=>by simp
 | a :: l,[],h=>by simp at h
 | a :: l,b :: m,h=>by simp only [List.zip_cons_cons,List.map_cons]; rw [zip_fst (by simpa using h)]
theorem D.VI.fst {fs:List A} {rn:List Nat} {r:Rd} (h:VI fs rn r) (hr:pW r):fs.Perm r.1:=by
 have:=h.perm.map (·.1)
 rwa [zip_fst (Nat.le_of_eq h.len.symm),zip_fst (Nat.le_of_eq hr.len.symm)] at this
theorem D.Qz {r:Rd} (hr:pW r) (a:A) (n:Nat):hasB r.1 a=false→((iD r a n).1.zip (iD r a n).2).Perm ((a,n) :: r.1.zip r.2):=by
 intro h
 have e:iD r a n=(r.1.take (pl r.1 a) ++ a :: r.1.drop (pl r.1 a),r.2.take (pl r.1 a) ++ [n] ++ r.2.drop (pl r.1 a)):=by
  unfold iD fA;rw [h];rfl
 rw [e];have hp:=(qf hr.ig a).2.2;have hl:=hr.len
 have e2:(r.1.take (pl r.1 a) ++ a :: r.1.drop (pl r.1 a)).zip (r.2.take (pl r.1 a) ++ [n] ++ r.2.drop (pl r.1 a))=(r.1.take (pl r.1 a)).zip (r.2.take (pl r.1 a)) ++ (a,n) :: (r.1.drop (pl r.1 a)).zip (r.2.drop (pl r.1 a)):=by
  rw [List.append_assoc,List.zip_append (by simp; omega)];rfl
 have e3:r.1.zip r.2=(r.1.take (pl r.1 a)).zip (r.2.take (pl r.1 a)) ++ (r.1.drop (pl r.1 a)).zip (r.2.drop (pl r.1 a)):=by
  rw [← List.zip_append (by simp; omega),List.take_append_drop,List.take_append_drop]
 show List.Perm (List.zip _ _) _;rw [e2,e3];exact List.perm_middle
open Classical in
theorem D.NU {r:Rd} (hr:pW r) (hf:∀ x ∈ r.1,aX x) (n:Nat):∀ more:List A,(∀ x ∈ more,aX x)→more.Nodup→
  ((jh more n r).1.zip (jh more n r).2).Perm (r.1.zip r.2 ++ (more.filter fun a=>decide (a ∉ r.1)).map fun a=>(a,n)):=by
 intro more
 induction more generalizing r with
 | nil=>intro _ _; simp [jh]
 | cons a more ih=>
  intro hm hn;have ha:=hm a (List.mem_cons_self ..);have hn':=List.nodup_cons.1 hn;have h1:∀ x,x ∈ (iD r a n).1 ↔ x ∈ r.1∨x=a:=fun x=>by rw [uO]; exact yD hf ha x
  have h2:=ih (r:=iD r a n) (hr.put a n) (fun x hx=>((h1 x).1 hx).elim (hf x) fun e=>e ▸ ha) (fun x hx=>hm x (List.mem_cons_of_mem _ hx)) hn'.2;have e0:jh (a :: more) n r=jh more n (iD r a n):=rfl;rw [e0]
  have e1:more.filter (fun b=>decide (b ∉ (iD r a n).1))=more.filter fun b=>decide (b ∉ r.1):=by
   refine List.filter_congr fun b hb=>decide_eq_decide.2 ?_
   rw [h1];constructor
   ·exact fun h e=>h (.inl e)
   ·rintro h (e | rfl)
    ·exact h e
    ·exact hn'.1 hb
  rw [e1] at h2;refine h2.trans ?_;by_cases hc:a ∈ r.1
  ·have e2:iD r a n=r:=by
    unfold iD;rw [if_pos (mF hc)]
   rw [e2,List.filter_cons_of_neg (by simpa using hc)]
  ·have hb:hasB r.1 a=false:=by
    cases hh:hasB r.1 a
    ·rfl
    ·exact absurd ((qX (fun x hx=>(hf x hx).gr) ha.gr).1 hh) hc
   rw [List.filter_cons_of_pos (by simpa using hc),List.map_cons];exact ((Qz hr a n hb).append_right _).trans List.perm_middle.symm
def D.OwnAt (rs:List Ru) (level:Nat) (own:List Ru):Prop:=∀ r,r ∈ own ↔ r ∈ rs∧iO rs r.head.name=level
theorem D.FP {rs:List Ru} (h:yE rs) {r:Rd} (hr:pW r) (hf:∀ x ∈ r.1,aX x) {fs:List A} {rn:List Nat} (hs:VI fs rn r) {level n:Nat} {next:List Ru} {new:List A} (hown:∀ q ∈ next,q ∈ rs∧iO rs q.head.name=level)
  (hnext:∀ q ∈ rs,iO rs q.head.name=level→q ∉ next→∀ t,lg fs q t→t ∈ fs) (hn:new.Nodup) (hnew:∀ t,t ∈ new ↔ t ∉ fs∧∃ q ∈ next,lg fs q t):
  VI (fs ++ new) (rn ++ List.replicate new.length n) (fG rs (ax rs) level r n)∧(fG rs (ax rs) level r n).1.length=fs.length+new.length:=by
 classical
 have hfst:=hs.fst hr;have hmem:∀ x,x ∈ fs ↔ x ∈ r.1:=fun x=>hfst.mem_iff
 obtain ⟨k1,k2,k3⟩:=OE h hf level;have hz:=NU hr hf n _ k2 (kX k1)
 have hp:((ja r.1 level (rs.zip (ax rs))).filter fun a=>decide (a ∉ r.1)).Perm new:=by
  refine (List.perm_ext_iff_of_nodup ((kX k1).filter _) hn).2 fun t=>?_
  rw [List.mem_filter,k3,hnew,decide_eq_true_iff,← hmem];constructor
  ·rintro ⟨⟨q,hq,hl,hf'⟩,h2⟩
   have hfw:lg fs q t:=(rJ fun x _=>hmem x).2 hf';refine ⟨h2,q,?_,hfw⟩;by_cases hqn:q ∈ next
   ·exact hqn
   ·exact absurd (hnext q hq hl hqn t hfw) h2
  ·rintro ⟨h2,q,hq,hf'⟩
   exact ⟨⟨q,(hown q hq).1,(hown q hq).2,(rJ fun x _=>hmem x).1 hf'⟩,h2⟩
 have hperm:((fs ++ new).zip (rn ++ List.replicate new.length n)).Perm ((fG rs (ax rs) level r n).1.zip (fG rs (ax rs) level r n).2):=by
  rw [List.zip_append hs.len.symm]
  have e:new.zip (List.replicate new.length n)=new.map fun a=>(a,n):=by
   apply List.ext_getElem
   ·simp
   ·intro i h1 h2
    simp
  rw [e];exact ((hs.perm.append (hp.symm.map _))).trans hz.symm
 have hrd:=(nV hr n (ja r.1 level (rs.zip (ax rs)))).1;refine ⟨⟨by simp [hs.len],hperm⟩,?_⟩;have hl:=hperm.length_eq;have hrl:(fG rs (ax rs) level r n).2.length=(fG rs (ax rs) level r n).1.length:=hrd.len;simp only [List.length_zip,List.length_append,List.length_replicate,hs.len,hrl,Nat.min_self] at hl;omega
theorem D.Ul {rs:List Ru} (h:yE rs) {r:Rd} (hr:pW r) (hf:∀ x ∈ r.1,aX x) {fs:List A} {rn:List Nat} (hs:VI fs rn r) {level n:Nat} {next:List Ru} {new:List A} (hown:∀ q ∈ next,q ∈ rs∧iO rs q.head.name=level)
  (hn:new.Nodup) (hnew:∀ t ∈ new,t ∉ fs∧∃ q ∈ next,lg fs q t) (hm:300 < fs.length+new.length):300 < (fG rs (ax rs) level r n).1.length:=by
 classical
 have hfst:=hs.fst hr;have hmem:∀ x,x ∈ fs ↔ x ∈ r.1:=fun x=>hfst.mem_iff
 have h1:=(lI h hf level n).2;have hnd:(r.1 ++ new).Nodup:=List.nodup_append.2 ⟨kX hr.ig,hn,fun x hx y hy e=>(hnew y hy).1 ((hmem y).2 (e ▸ hx))⟩
 have h2:=qh hnd (l2:=(fG rs (ax rs) level r n).1) fun x hx=>by
  rcases List.mem_append.1 hx with hx | hx
  ·exact (h1 x).2 (.inl hx)
  ·obtain ⟨_,q,hq,hf'⟩:=hnew x hx
   exact (h1 x).2 (.inr ⟨q,(hown q hq).1,(hown q hq).2,(rJ fun x _=>hmem x).1 hf'⟩)
 rw [List.length_append,← hfst.length_eq] at h2;omega
theorem D.KP {fs new:List A} {q:Ru} (h:∀ p ∈ q.body,p.no=false→∀ t ∈ new,t.name ≠ p.atom.name) {t:A} (hf:lg (fs ++ new) q t):lg fs q t:=by
 obtain ⟨σ,rfl,h1,h2⟩:=hf;refine ⟨σ,rfl,fun p hp hn=>?_,fun p hp hn hm=>h2 p hp hn (List.mem_append_left _ hm)⟩
 rcases List.mem_append.1 (h1 p hp hn) with hm | hm
 ·exact hm
 ·exact absurd rfl (h p hp hn (gY σ p.atom) hm)
end Go.Proofs.YtiidmgchadagbaaGreatDoor
