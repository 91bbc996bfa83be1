/- Of the proof of FnExactRounds: SetP, AllI, RndP. -/
import Derived.Test.YtiidmgchadagbaaGreatDoorM43
set_option linter.unusedVariables false
set_option maxHeartbeats 4000000
set_option maxRecDepth 100000
namespace Go.Proofs.YtiidmgchadagbaaGreatDoor
open Go.RowKit D
theorem D.goR_inv {rs:List Ru} {lv:List Nat} (Inv:Nat→Rd→Nat→Prop) (hok:∀ k r n,Inv k r n→RdOk r)
  (hgrow:∀ k r n,k≤rs.length→Inv (k+1) r n→(stepR rs lv (rs.length - k) r (n+1)).1.length≤300→(stepR rs lv (rs.length - k) r (n+1)).1.length ≠ r.1.length→Inv (k+1) (stepR rs lv (rs.length - k) r (n+1)) (n+1))
  (hend:∀ k r n,k≤rs.length→Inv (k+1) r n→(stepR rs lv (rs.length - k) r (n+1)).1.length=r.1.length→Inv k (stepR rs lv (rs.length - k) r (n+1)) n):
  ∀ (k fuel:Nat) (r:Rd) (n:Nat),k≤rs.length+1→Inv k r n→r.1.length≤300→302≤fuel+r.1.length→
   ((goR rs lv k fuel r n).2=true∧(goR rs lv k fuel r n).1.1.length≤300∧∃ n',Inv 0 (goR rs lv k fuel r n).1 n') ∨
   ((goR rs lv k fuel r n).2=false∧∃ k' r' n',k'≤rs.length∧Inv (k'+1) r' n'∧300 < (stepR rs lv (rs.length - k') r' (n'+1)).1.length):=by
 intro k
 induction k with
 | zero=>
  intro fuel r n _ hI hl _
  rw [goR]
  exact .inl ⟨rfl,hl,n,hI⟩
 | succ k ihk=>
  intro fuel
  induction fuel with
  | zero=>intro r n _ _ h1 h2; omega
  | succ fuel ihf=>
   intro r n hk hI hl hf
   have hge:=(putAll_ok (hok _ _ _ hI) (n+1) (onceR r.1 (rs.length - k) (rs.zip lv))).2.1
   have hge':r.1.length≤(stepR rs lv (rs.length - k) r (n+1)).1.length:=hge
   rw [goR]
   by_cases h1:300 < (stepR rs lv (rs.length - k) r (n+1)).1.length
   ·rw [if_pos h1]
    exact .inr ⟨rfl,k,r,n,by omega,hI,h1⟩
   ·rw [if_neg h1]
    by_cases h2:(stepR rs lv (rs.length - k) r (n+1)).1.length=r.1.length
    ·rw [if_pos h2]
     exact ihk 302 _ n (by omega) (hend k r n (by omega) hI h2) (by omega) (by omega)
    ·rw [if_neg h2]
     exact ihf _ (n+1) hk (hgrow k r n (by omega) hI (by omega) h2) (by omega) (by omega)
def D.FolP (S:A→Prop) (r:Ru) (t:A):Prop:=∃ σ:Wo,t=fillW σ r.head∧(∀ p ∈ r.body,p.no=false→S (fillW σ p.atom))∧∀ p ∈ r.body,p.no=true→¬ S (fillW σ p.atom)
theorem D.folP_congr {S S':A→Prop} {r:Ru} {t:A} (h:∀ x,(∃ p ∈ r.body,p.atom.name=x.name)→(S x ↔ S' x)):FolP S r t ↔ FolP S' r t:=by
 have key:∀ (S S':A→Prop),(∀ x,(∃ p ∈ r.body,p.atom.name=x.name)→(S x ↔ S' x))→FolP S r t→FolP S' r t:=by
  rintro S S' h ⟨σ,rfl,h1,h2⟩
  exact ⟨σ,rfl,fun p hp hn=>(h (fillW σ p.atom) ⟨p,hp,rfl⟩).1 (h1 p hp hn),fun p hp hn hs=>h2 p hp hn ((h (fillW σ p.atom) ⟨p,hp,rfl⟩).2 hs)⟩
 exact ⟨key S S' h,key S' S fun x hx=>(h x hx).symm⟩
def D.TS (rs:List Ru) (k:Nat) (S:A→Prop) (t:A):Prop:=∃ r ∈ rs,nameLev rs r.head.name=k∧FolP S r t
def D.itS (rs:List Ru) (k:Nat) (S:A→Prop):Nat→A→Prop
 | 0=>S
 | j+1=>fun t=>itS rs k S j t∨TS rs k (itS rs k S j) t
def D.finS (rs:List Ru) (k:Nat) (S:A→Prop):A→Prop:=fun t=>∃ j,itS rs k S j t
def D.levS (rs:List Ru) (S:A→Prop):Nat→A→Prop
 | 0=>S
 | k+1=>finS rs k (levS rs S k)
def D.allS (rs:List Ru) (S:A→Prop):A→Prop:=levS rs S (rs.length+1)
theorem D.itS_le {rs:List Ru} {k:Nat} {S:A→Prop} {i j:Nat} (h:i≤j) {t:A} (ht:itS rs k S i t):itS rs k S j t:=by
 induction h with
 | refl=>exact ht
 | step _ ih=>exact .inl ih
theorem D.levS_le {rs:List Ru} {S:A→Prop} {i j:Nat} (h:i≤j) {t:A} (ht:levS rs S i t):levS rs S j t:=by
 induction h with
 | refl=>exact ht
 | step _ ih=>exact ⟨0,ih⟩
theorem D.ts_congr {rs:List Ru} {k:Nat} {S S':A→Prop} (h:∀ x,S x ↔ S' x) (t:A):TS rs k S t ↔ TS rs k S' t:=by
 have:S=S':=funext fun x=>propext (h x)
 rw [this]
theorem D.itS_still {rs:List Ru} {k:Nat} {S:A→Prop} {j:Nat} (h:∀ t,TS rs k (itS rs k S j) t→itS rs k S j t) (t:A):finS rs k S t ↔ itS rs k S j t:=by
 constructor
 ·rintro ⟨i,hi⟩
  rcases Nat.le_total i j with hij | hij
  ·exact itS_le hij hi
  ·have:∀ d t,itS rs k S (j+d) t→itS rs k S j t:=by
    intro d
    induction d with
    | zero=>intro t ht; exact ht
    | succ d ih=>
     intro t ht
     rcases ht with ht | ⟨r,hr,hk,hf⟩
     ·exact ih t ht
     ·refine h t ⟨r,hr,hk,(folP_congr fun x _=>?_).1 hf⟩
      exact ⟨ih x,fun hx=>itS_le (Nat.le_add_right _ _) hx⟩
   obtain ⟨d,rfl⟩:=Nat.exists_eq_add_of_le hij
   exact this d t hi
 ·exact fun h=>⟨j,h⟩
theorem D.zip_lev {rs:List Ru} (hc:Closed rs (levelsL rs)) {p:Ru × Nat} (hp:p ∈ rs.zip (levelsL rs)):p.1 ∈ rs∧p.2=nameLev rs p.1.head.name:=by
 obtain ⟨i,hi,rfl⟩:=List.getElem_of_mem hp
 simp only [List.length_zip,levels_len,Nat.min_self] at hi
 have h2:=(closed_sol hc).2 i hi
 have e1:ruleAt rs i=rs[i]:=by unfold ruleAt; simp [List.getD,hi]
 have e2:atL (levelsL rs) i=(levelsL rs)[i]'(by rw [levels_len]; exact hi):=by unfold atL; simp [List.getD,levels_len,hi]
 rw [e1,e2] at h2
 simp only [List.getElem_zip]
 exact ⟨List.getElem_mem _,h2⟩
theorem D.zip_lev2 {rs:List Ru} (hc:Closed rs (levelsL rs)) {r:Ru} (hr:r ∈ rs):(r,nameLev rs r.head.name) ∈ rs.zip (levelsL rs):=by
 obtain ⟨i,hi,rfl⟩:=List.getElem_of_mem hr
 refine List.mem_iff_getElem.2 ⟨i,by simp [levels_len]; exact hi,?_⟩
 have:=(zip_lev hc (List.getElem_mem (l:=rs.zip (levelsL rs)) (n:=i) (by simp [levels_len]; exact hi))).2
 simp only [List.getElem_zip] at this ⊢
 rw [this]
structure D.RsOk (rs:List Ru):Prop where
 fol:∀ r ∈ rs,RuleFol r
 cyc:Closed rs (levelsL rs)
theorem D.rs_ok {rs:List Ru} (h:progC rs=0):RsOk rs:=by
 refine ⟨fun r hr=>rule_fol h hr,?_⟩
 unfold progC at h
 split at h
 ·cases h
 ·split at h
  ·cases h
  ·split at h
   ·cases h
   ·split at h
    ·cases h
    ·split at h
     ·cases h
     ·rename_i hc
      exact no_cyc (by simpa using hc)
theorem D.once_ts {rs:List Ru} (h:RsOk rs) {xs:List A} (hx:∀ x ∈ xs,FactOk x) (level:Nat):asc (onceR xs level (rs.zip (levelsL rs)))=true∧(∀ t ∈ onceR xs level (rs.zip (levelsL rs)),FactOk t)∧∀ t,t ∈ onceR xs level (rs.zip (levelsL rs)) ↔ TS rs level (fun x=>x ∈ xs) t:=by
 obtain ⟨k1,k2,k3⟩:=onceR_mem (level:=level) hx (rl:=rs.zip (levelsL rs)) fun p hp=>h.fol _ (List.of_mem_zip hp).1
 refine ⟨k1,k2,fun t=>(k3 t).trans ⟨?_,?_⟩⟩
 ·rintro ⟨p,hp,hl,hf⟩
  obtain ⟨g1,g2⟩:=zip_lev h.cyc hp
  exact ⟨p.1,g1,by rw [← g2]; exact hl,hf⟩
 ·rintro ⟨r,hr,hl,hf⟩
  exact ⟨_,zip_lev2 h.cyc hr,hl,hf⟩
theorem D.putAll_mem {r:Rd} (hr:∀ x ∈ r.1,FactOk x) (n:Nat):∀ more:List A,(∀ x ∈ more,FactOk x)→(∀ x ∈ (putAll more n r).1,FactOk x)∧∀ t,t ∈ (putAll more n r).1 ↔ t ∈ r.1∨t ∈ more:=by
 intro more
 induction more generalizing r with
 | nil=>intro _; exact ⟨hr,fun t=>by simp [putAll]⟩
 | cons a more ih=>
  intro hm
  have ha:=hm a (List.mem_cons_self ..)
  have h1:∀ x,x ∈ (putRd r a n).1 ↔ x ∈ r.1∨x=a:=fun x=>by rw [putRd_fst]; exact mem_insG hr ha x
  obtain ⟨g1,g2⟩:=ih (r:=putRd r a n) (fun x hx=>((h1 x).1 hx).elim (hr x) fun e=>e ▸ ha) fun x hx=>hm x (List.mem_cons_of_mem _ hx)
  refine ⟨g1,fun t=>?_⟩
  have:putAll (a :: more) n r=putAll more n (putRd r a n):=rfl
  rw [this,g2,h1,List.mem_cons,or_assoc]
theorem D.step_mem {rs:List Ru} (h:RsOk rs) {r:Rd} (hr:∀ x ∈ r.1,FactOk x) (level n:Nat):(∀ x ∈ (stepR rs (levelsL rs) level r n).1,FactOk x)∧∀ t,t ∈ (stepR rs (levelsL rs) level r n).1 ↔ t ∈ r.1∨TS rs level (fun x=>x ∈ r.1) t:=by
 obtain ⟨_,k2,k3⟩:=once_ts h hr level
 obtain ⟨g1,g2⟩:=putAll_mem hr n _ k2
 exact ⟨g1,fun t=>by rw [← k3 t]; exact g2 t⟩
theorem D.same_mem {xs ys:List A} (h1:xs.Nodup) (h2:∀ x ∈ xs,x ∈ ys) (h3:ys.length≤xs.length):∀ y ∈ ys,y ∈ xs:=by
 intro y hy
 by_cases hm:y ∈ xs
 ·exact hm
 ·exfalso
  have h4:(y :: xs).Nodup:=List.nodup_cons.2 ⟨hm,h1⟩
  have h5:=List.Nodup.length_le_of_subset h4 (l₂:=ys) (fun x hx=>by
   rcases List.mem_cons.1 hx with rfl | hx
   ·exact hy
   ·exact h2 x hx)
  simp at h5
  omega
structure D.SetInv (rs:List Ru) (S:A→Prop) (k:Nat) (r:Rd) (n:Nat):Prop where
 ok:RdOk r
 fact:∀ x ∈ r.1,FactOk x
 set:match k with
  | 0=>∀ t,t ∈ r.1 ↔ allS rs S t
  | k+1=>∃ j,∀ t,t ∈ r.1 ↔ itS rs (rs.length - k) (levS rs S (rs.length - k)) j t
theorem D.set_step {rs:List Ru} (h:RsOk rs) {r:Rd} (hr:∀ x ∈ r.1,FactOk x) {level j n:Nat} {S:A→Prop} (hj:∀ t,t ∈ r.1 ↔ itS rs level S j t) (t:A):t ∈ (stepR rs (levelsL rs) level r n).1 ↔ itS rs level S (j+1) t:=by
 rw [(step_mem h hr level n).2 t,hj t,ts_congr hj t]
 exact Iff.rfl
theorem D.run_sets {rs:List Ru} (h:RsOk rs) {given:List A} (ha:asc given=true) (hf:∀ x ∈ given,FactOk x) (hl:given.length≤300):
  ((runR rs given).2=true∧(runR rs given).1.1.length≤300∧RdOk (runR rs given).1∧(∀ x ∈ (runR rs given).1.1,FactOk x)∧∀ t,t ∈ (runR rs given).1.1 ↔ allS rs (fun x=>x ∈ given) t) ∨
  ((runR rs given).2=false∧∃ L:List A,L.Nodup∧300 < L.length∧∀ t ∈ L,allS rs (fun x=>x ∈ given) t):=by
 have main:=goR_inv (rs:=rs) (lv:=levelsL rs) (SetInv rs fun x=>x ∈ given) (fun k r n hI=>hI.ok)
  (fun k r n hk hI _ _=>by
   obtain ⟨j,hj⟩:=hI.set
   exact ⟨(putAll_ok hI.ok _ _).1,(step_mem h hI.fact _ _).1,j+1,set_step h hI.fact hj⟩)
  (fun k r n hk hI he=>by
   obtain ⟨j,hj⟩:=hI.set
   have hs:=set_step (n:=n+1) h hI.fact hj
   have hst:∀ t,finS rs (rs.length - k) (levS rs (fun x=>x ∈ given) (rs.length - k)) t ↔ itS rs (rs.length - k) (levS rs (fun x=>x ∈ given) (rs.length - k)) j t:=itS_still fun t ht=>by
    refine (hj t).1 (same_mem (asc_nodup hI.ok.asc) (fun x hx=>((step_mem h hI.fact _ (n+1)).2 x).2 (.inl hx)) (Nat.le_of_eq he) t ?_)
    exact ((step_mem h hI.fact _ (n+1)).2 t).2 (.inr ((ts_congr hj t).2 ht))
   have hfin:∀ t,t ∈ (stepR rs (levelsL rs) (rs.length - k) r (n+1)).1 ↔ levS rs (fun x=>x ∈ given) (rs.length - k+1) t:=fun t=>by
    show _ ↔ finS rs _ _ t
    rw [hst,← hj t]
    constructor
    ·exact fun ht=>same_mem (asc_nodup hI.ok.asc) (fun x hx=>((step_mem h hI.fact _ (n+1)).2 x).2 (.inl hx)) (Nat.le_of_eq he) t ht
    ·exact fun ht=>((step_mem h hI.fact _ (n+1)).2 t).2 (.inl ht)
   refine ⟨(putAll_ok hI.ok _ _).1,(step_mem h hI.fact _ _).1,?_⟩
   cases k with
   | zero=>exact hfin
   | succ k=>
    have e:rs.length - k=rs.length - (k+1)+1:=by omega
    refine ⟨0,fun t=>?_⟩
    rw [e]
    exact hfin t)
  (rs.length+1) 302 (given,List.replicate given.length 0) 0 (Nat.le_refl _) ⟨⟨ha,by simp⟩,hf,⟨0,fun t=>by simp [itS,levS]⟩⟩ hl (by simp)
 rcases main with ⟨h1,h2,n',hI⟩ | ⟨h1,k',r',n',hk,hI,hlen⟩
 ·exact .inl ⟨h1,h2,hI.ok,hI.fact,hI.set⟩
 ·refine .inr ⟨h1,_,asc_nodup (putAll_ok hI.ok (n'+1) _).1.asc,hlen,fun t ht=>?_⟩
  obtain ⟨j,hj⟩:=hI.set
  have h3:=(set_step h hI.fact hj t).1 ht
  exact levS_le (show rs.length - k'+1≤rs.length+1 by omega) ⟨j+1,h3⟩
end Go.Proofs.YtiidmgchadagbaaGreatDoor
namespace Go.Proofs.YtiidmgchadagbaaGreatDoor
open Go.RowKit D
attribute [local go_sem ↓] Go.wp_at_zero Go.wp_at_succ
section
variable (vars:List ByteArray) (fs:List A) (rn:List Nat) (bs:List Nat) (ps ns:List A) (head:A) (sk sb:Nat) (Ap:Option Addr) (cp:Nat) (An:Option Addr) (cn:Nat) (bp bn:List Nat) (wt:Nat→Bool) (ah:Int) (c5 c7:Addr) (K:Nat→Prop) (T:Bool→World→List A→Prop) (go:List A→Bool)
theorem runI_any (E:RunEnv vars fs ps ns head wt) (hK:∀ k,K k→k ≠ sk) (hT:TellOk vars head sk K c5 c7 T go):∀ (left:Nat),left < 2 ^ ps.length→∀ (b:Bd) (told:List A) (w:World),
  RunSt vars fs rn bs ps ns sk sb (.slice Ap ps.length cp) (.slice An ns.length cn) bp bn wt ah (.func (.func 142) #[] #[.pointer (some c5),.pointer (some c7)]) K b w→
  (∀ j (h:j < ps.length),left.testBit j=false→Cov b ps[j].args)→T true w told→
  Calls Tryz.prog 179 #[.pointer (some ⟨sk,0,none⟩),.int .i64 left] w (RunRet vars fs ps ns head K sk T go b left told w):=by
 intro left
 induction left using Nat.strongRecOn with
 | ind left IH=>
  intro hl b told w S hcov hTw
  by_cases hs:setB vars b wt=true
  ·cases hh:hinB fs ns b
   ·by_cases h0:left=0
    ·subst h0
     exact run_zero vars fs rn bs ps ns head sk sb Ap cp An cn bp bn wt ah c5 c7 K T go E hK hT b told w S (fun p hp=>by
      obtain ⟨j,hj,e⟩:=List.getElem_of_mem hp
      rw [← e]; exact hcov j hj (by simp)) hTw hh
    ·exact run_loop vars fs rn bs ps ns head sk sb Ap cp An cn bp bn wt ah c5 c7 K T go E hK hT left hl h0 (fun l' hl' b' told' w' S' c' t'=>IH l' hl' (by omega) b' told' w' S' c' t') b told w S hcov hTw (fun _=>hh)
   ·exact run_stop vars fs rn bs ps ns head sk sb Ap cp An cn bp bn wt ah c5 c7 K T go E hK hT left b told w S hTw hs hh
  ·by_cases h0:left=0
   ·subst h0
    exfalso
    apply hs
    exact (setB_cov E.hv S.ok E.want E.hin E.nin).2 (E.tight b fun p hp=>by
     obtain ⟨j,hj,e⟩:=List.getElem_of_mem hp
     rw [← e]; exact hcov j hj (by simp))
   ·exact run_loop vars fs rn bs ps ns head sk sb Ap cp An cn bp bn wt ah c5 c7 K T go E hK hT left hl h0 (fun l' hl' b' told' w' S' c' t'=>IH l' hl' (by omega) b' told' w' S' c' t') b told w S hcov hTw (fun h=>absurd h hs)
theorem D.pow_less (n:Nat) (h:n≤4):wrap64 (wrap64 (2 ^ n) - 1)=((2 ^ n - 1:Nat):Int):=by
 have H:∀ n:Nat,n < 5→wrap64 (wrap64 (2 ^ n) - 1)=((2 ^ n - 1:Nat):Int):=by decide +kernel
 exact H n (by omega)
theorem D.all_bits (n j:Nat) (h:n≤4) (hj:j < n):(2 ^ n - 1).testBit j=true:=by
 rw [Nat.testBit_two_pow_sub_one]; simpa using hj
theorem searchAll_any (E:RunEnv vars fs ps ns head wt) (hK:∀ k,K k→k ≠ sk) (hT:TellOk vars head sk K c5 c7 T go) (told:List A) (w:World)
  (S:RunSt vars fs rn bs ps ns sk sb (.slice Ap ps.length cp) (.slice An ns.length cn) bp bn wt ah (.func (.func 142) #[] #[.pointer (some c5),.pointer (some c7)]) K [] w) (hTw:T true w told):
  Calls Tryz.prog 144 #[.pointer (some ⟨sk,0,none⟩)] w fun e w'=>e=.returned (.tuple #[])∧∃ held more,RunPost vars fs ps ns head K sk T go [] (2 ^ ps.length - 1) told held more w w':=by
 have hrun:=runI_any vars fs rn bs ps ns head sk sb Ap cp An cn bp bn wt ah c5 c7 K T go E hK hT (2 ^ ps.length - 1) (by have:=Nat.two_pow_pos ps.length; omega) [] told w S (fun j hj hb=>by rw [all_bits _ _ E.p4 hj] at hb; cases hb) hTw
 have y0:=S.sea.p1
 have hp:=pow_less ps.length E.p4
 have hp4:(ps.length:Int)≤4:=by have:=E.p4; omega
 clear S hTw hT
 go_enter Tryz.func144,Tryz.ntmps144
 go_wp2_with fail
 refine hrun.mono ?_
 rintro e w2 ⟨held,more,rfl,hP⟩
 have HP:=η hP
 clear hrun hP
 go_wp2
 go_end0
 exact ⟨rfl,held,more,HP.out⟩
end
end Go.Proofs.YtiidmgchadagbaaGreatDoor
namespace Go.Proofs.YtiidmgchadagbaaGreatDoor
open Go.RowKit D
open Classical in
noncomputable def D.newL (fs told:List A):List A:=told.foldl (fun acc a=>if a ∈ fs∨a ∈ acc then acc else acc ++ [a]) []
open Classical in
theorem D.newL_snoc (fs told:List A) (a:A):newL fs (told ++ [a])=if a ∈ fs∨a ∈ newL fs told then newL fs told else newL fs told ++ [a]:=by
 unfold newL; rw [List.foldl_append]; rfl
theorem D.snoc_ind {α:Type} {P:List α→Prop} (h0:P []) (h1:∀ l a,P l→P (l ++ [a])) (l:List α):P l:=by
 have:∀ n (l:List α),l.length=n→P l:=by
  intro n
  induction n with
  | zero=>intro l h; rw [List.length_eq_zero_iff.1 h]; exact h0
  | succ n ih=>
   intro l h
   have hne:l ≠ []:=by intro e; rw [e] at h; simp at h
   rw [← List.dropLast_concat_getLast hne]
   exact h1 _ _ (ih _ (by simp [h]))
 exact this _ l rfl
theorem D.newL_spec (fs told:List A):(newL fs told).Nodup∧∀ t,t ∈ newL fs told ↔ t ∈ told∧t ∉ fs:=by
 refine snoc_ind (P:=fun told=>(newL fs told).Nodup∧∀ t,t ∈ newL fs told ↔ t ∈ told∧t ∉ fs) ⟨by simp [newL],fun t=>by simp [newL]⟩ (fun told a ⟨h1,h2⟩=>?_) told
 rw [newL_snoc]
 split
 ·rename_i h
  refine ⟨h1,fun t=>?_⟩
  rw [h2,List.mem_append,List.mem_singleton]
  constructor
  ·exact fun ⟨g1,g2⟩=>⟨.inl g1,g2⟩
  ·rintro ⟨g1 | rfl,g2⟩
   ·exact ⟨g1,g2⟩
   ·rcases h with h | h
    ·exact absurd h g2
    ·exact (h2 t).1 h
 ·rename_i h
  have ha:a ∉ fs∧a ∉ newL fs told:=⟨fun e=>h (.inl e),fun e=>h (.inr e)⟩
  refine ⟨List.nodup_append.2 ⟨h1,by simp,fun x hx y hy e=>?_⟩,fun t=>?_⟩
  ·simp at hy
   exact ha.2 (by rw [← hy,← e]; exact hx)
  ·rw [List.mem_append,List.mem_singleton,List.mem_append,List.mem_singleton,h2]
   constructor
   ·rintro (⟨g1,g2⟩ | rfl)
    ·exact ⟨.inl g1,g2⟩
    ·exact ⟨.inr rfl,ha.1⟩
   ·rintro ⟨g1 | rfl,g2⟩
    ·exact .inl ⟨g1,g2⟩
    ·exact .inr rfl
open Classical in
noncomputable def D.goN (fs L:List A):Bool:=decide ((∃ told a,L=told ++ [a]∧(a ∈ fs∨a ∈ newL fs told))∨fs.length+(newL fs L).length≤300)
open Classical in
theorem D.goN_snoc (fs told:List A) (a:A):goN fs (told ++ [a])=decide (a ∈ fs∨a ∈ newL fs told∨fs.length+(newL fs (told ++ [a])).length≤300):=by
 unfold goN
 apply decide_eq_decide.2
 refine ⟨?_,?_⟩
 ·rintro (⟨t,b,e,h⟩ | h)
  ·have:=List.append_inj' e rfl
   obtain ⟨rfl,e2⟩:=this
   simp at e2
   subst e2
   exact h.imp id .inl
  ·exact .inr (.inr h)
 ·rintro (h | h | h)
  ·exact .inl ⟨told,a,rfl,.inl h⟩
  ·exact .inl ⟨told,a,rfl,.inr h⟩
  ·exact .inr h
open Classical in
theorem D.goN_false {fs L:List A} (h:goN fs L=false):300 < fs.length+(newL fs L).length:=by
 unfold goN at h
 have:=of_decide_eq_false h
 have h2:¬ fs.length+(newL fs L).length≤300:=fun e=>this (.inr e)
 omega
structure D.Sim (fs:List A) (rn:List Nat) (r:Rd):Prop where
 len:rn.length=fs.length
 perm:(fs.zip rn).Perm (r.1.zip r.2)
theorem D.zip_fst {α β:Type}:∀ {l:List α} {m:List β},l.length≤m.length→(l.zip m).map (·.1)=l
 | [],m,_=>by simp
 | a :: l,[],h=>by simp at h
 | a :: l,b :: m,h=>by simp only [List.zip_cons_cons,List.map_cons]; rw [zip_fst (by simpa using h)]
theorem D.Sim.fst {fs:List A} {rn:List Nat} {r:Rd} (h:Sim fs rn r) (hr:RdOk r):fs.Perm r.1:=by
 have:=h.perm.map (·.1)
 rwa [zip_fst (Nat.le_of_eq h.len.symm),zip_fst (Nat.le_of_eq hr.len.symm)] at this
theorem D.putRd_zip {r:Rd} (hr:RdOk r) (a:A) (n:Nat):hasB r.1 a=false→((putRd r a n).1.zip (putRd r a n).2).Perm ((a,n) :: r.1.zip r.2):=by
 intro h
 have e:putRd r a n=(r.1.take (pl r.1 a) ++ a :: r.1.drop (pl r.1 a),r.2.take (pl r.1 a) ++ [n] ++ r.2.drop (pl r.1 a)):=by
  unfold putRd insA
  rw [h]
  rfl
 rw [e]
 have hp:=(pl_split hr.asc a).2.2
 have hl:=hr.len
 have e2:(r.1.take (pl r.1 a) ++ a :: r.1.drop (pl r.1 a)).zip (r.2.take (pl r.1 a) ++ [n] ++ r.2.drop (pl r.1 a))=(r.1.take (pl r.1 a)).zip (r.2.take (pl r.1 a)) ++ (a,n) :: (r.1.drop (pl r.1 a)).zip (r.2.drop (pl r.1 a)):=by
  rw [List.append_assoc,List.zip_append (by simp; omega)]
  rfl
 have e3:r.1.zip r.2=(r.1.take (pl r.1 a)).zip (r.2.take (pl r.1 a)) ++ (r.1.drop (pl r.1 a)).zip (r.2.drop (pl r.1 a)):=by
  rw [← List.zip_append (by simp; omega),List.take_append_drop,List.take_append_drop]
 show List.Perm (List.zip _ _) _
 rw [e2,e3]
 exact List.perm_middle
open Classical in
theorem D.putAll_zip {r:Rd} (hr:RdOk r) (hf:∀ x ∈ r.1,FactOk x) (n:Nat):∀ more:List A,(∀ x ∈ more,FactOk x)→more.Nodup→
  ((putAll more n r).1.zip (putAll more n r).2).Perm (r.1.zip r.2 ++ (more.filter fun a=>decide (a ∉ r.1)).map fun a=>(a,n)):=by
 intro more
 induction more generalizing r with
 | nil=>intro _ _; simp [putAll]
 | cons a more ih=>
  intro hm hn
  have ha:=hm a (List.mem_cons_self ..)
  have hn':=List.nodup_cons.1 hn
  have h1:∀ x,x ∈ (putRd r a n).1 ↔ x ∈ r.1∨x=a:=fun x=>by rw [putRd_fst]; exact mem_insG hf ha x
  have h2:=ih (r:=putRd r a n) (hr.put a n) (fun x hx=>((h1 x).1 hx).elim (hf x) fun e=>e ▸ ha) (fun x hx=>hm x (List.mem_cons_of_mem _ hx)) hn'.2
  have e0:putAll (a :: more) n r=putAll more n (putRd r a n):=rfl
  rw [e0]
  have e1:more.filter (fun b=>decide (b ∉ (putRd r a n).1))=more.filter fun b=>decide (b ∉ r.1):=by
   refine List.filter_congr fun b hb=>decide_eq_decide.2 ?_
   rw [h1]
   constructor
   ·exact fun h e=>h (.inl e)
   ·rintro h (e | rfl)
    ·exact h e
    ·exact hn'.1 hb
  rw [e1] at h2
  refine h2.trans ?_
  by_cases hc:a ∈ r.1
  ·have e2:putRd r a n=r:=by
    unfold putRd
    rw [if_pos (hasB_mem hc)]
   rw [e2,List.filter_cons_of_neg (by simpa using hc)]
  ·have hb:hasB r.1 a=false:=by
    cases hh:hasB r.1 a
    ·rfl
    ·exact absurd ((hasB_gr (fun x hx=>(hf x hx).gr) ha.gr).1 hh) hc
   rw [List.filter_cons_of_pos (by simpa using hc),List.map_cons]
   exact ((putRd_zip hr a n hb).append_right _).trans List.perm_middle.symm
def D.OwnAt (rs:List Ru) (level:Nat) (own:List Ru):Prop:=∀ r,r ∈ own ↔ r ∈ rs∧nameLev rs r.head.name=level
theorem D.sim_round {rs:List Ru} (h:RsOk rs) {r:Rd} (hr:RdOk r) (hf:∀ x ∈ r.1,FactOk x) {fs:List A} {rn:List Nat} (hs:Sim fs rn r) {level n:Nat} {next:List Ru} {new:List A} (hown:∀ q ∈ next,q ∈ rs∧nameLev rs q.head.name=level)
  (hnext:∀ q ∈ rs,nameLev rs q.head.name=level→q ∉ next→∀ t,FolW fs q t→t ∈ fs) (hn:new.Nodup) (hnew:∀ t,t ∈ new ↔ t ∉ fs∧∃ q ∈ next,FolW fs q t):
  Sim (fs ++ new) (rn ++ List.replicate new.length n) (stepR rs (levelsL rs) level r n)∧(stepR rs (levelsL rs) level r n).1.length=fs.length+new.length:=by
 classical
 have hfst:=hs.fst hr
 have hmem:∀ x,x ∈ fs ↔ x ∈ r.1:=fun x=>hfst.mem_iff
 obtain ⟨k1,k2,k3⟩:=once_ts h hf level
 have hz:=putAll_zip hr hf n _ k2 (asc_nodup k1)
 have hp:((onceR r.1 level (rs.zip (levelsL rs))).filter fun a=>decide (a ∉ r.1)).Perm new:=by
  refine (List.perm_ext_iff_of_nodup ((asc_nodup k1).filter _) hn).2 fun t=>?_
  rw [List.mem_filter,k3,hnew,decide_eq_true_iff,← hmem]
  constructor
  ·rintro ⟨⟨q,hq,hl,hf'⟩,h2⟩
   have hfw:FolW fs q t:=(folP_congr fun x _=>hmem x).2 hf'
   refine ⟨h2,q,?_,hfw⟩
   by_cases hqn:q ∈ next
   ·exact hqn
   ·exact absurd (hnext q hq hl hqn t hfw) h2
  ·rintro ⟨h2,q,hq,hf'⟩
   exact ⟨⟨q,(hown q hq).1,(hown q hq).2,(folP_congr fun x _=>hmem x).1 hf'⟩,h2⟩
 have hperm:((fs ++ new).zip (rn ++ List.replicate new.length n)).Perm ((stepR rs (levelsL rs) level r n).1.zip (stepR rs (levelsL rs) level r n).2):=by
  rw [List.zip_append hs.len.symm]
  have e:new.zip (List.replicate new.length n)=new.map fun a=>(a,n):=by
   apply List.ext_getElem
   ·simp
   ·intro i h1 h2
    simp
  rw [e]
  exact ((hs.perm.append (hp.symm.map _))).trans hz.symm
 have hrd:=(putAll_ok hr n (onceR r.1 level (rs.zip (levelsL rs)))).1
 refine ⟨⟨by simp [hs.len],hperm⟩,?_⟩
 have hl:=hperm.length_eq
 have hrl:(stepR rs (levelsL rs) level r n).2.length=(stepR rs (levelsL rs) level r n).1.length:=hrd.len
 simp only [List.length_zip,List.length_append,List.length_replicate,hs.len,hrl,Nat.min_self] at hl
 omega
theorem D.sim_over {rs:List Ru} (h:RsOk rs) {r:Rd} (hr:RdOk r) (hf:∀ x ∈ r.1,FactOk x) {fs:List A} {rn:List Nat} (hs:Sim fs rn r) {level n:Nat} {next:List Ru} {new:List A} (hown:∀ q ∈ next,q ∈ rs∧nameLev rs q.head.name=level)
  (hn:new.Nodup) (hnew:∀ t ∈ new,t ∉ fs∧∃ q ∈ next,FolW fs q t) (hm:300 < fs.length+new.length):300 < (stepR rs (levelsL rs) level r n).1.length:=by
 classical
 have hfst:=hs.fst hr
 have hmem:∀ x,x ∈ fs ↔ x ∈ r.1:=fun x=>hfst.mem_iff
 have h1:=(step_mem h hf level n).2
 have hnd:(r.1 ++ new).Nodup:=List.nodup_append.2 ⟨asc_nodup hr.asc,hn,fun x hx y hy e=>(hnew y hy).1 ((hmem y).2 (e ▸ hx))⟩
 have h2:=nodup_len hnd (l2:=(stepR rs (levelsL rs) level r n).1) fun x hx=>by
  rcases List.mem_append.1 hx with hx | hx
  ·exact (h1 x).2 (.inl hx)
  ·obtain ⟨_,q,hq,hf'⟩:=hnew x hx
   exact (h1 x).2 (.inr ⟨q,(hown q hq).1,(hown q hq).2,(folP_congr fun x _=>hmem x).1 hf'⟩)
 rw [List.length_append,← hfst.length_eq] at h2
 omega
theorem D.not_touched {fs new:List A} {q:Ru} (h:∀ p ∈ q.body,p.no=false→∀ t ∈ new,t.name ≠ p.atom.name) {t:A} (hf:FolW (fs ++ new) q t):FolW fs q t:=by
 obtain ⟨σ,rfl,h1,h2⟩:=hf
 refine ⟨σ,rfl,fun p hp hn=>?_,fun p hp hn hm=>h2 p hp hn (List.mem_append_left _ hm)⟩
 rcases List.mem_append.1 (h1 p hp hn) with hm | hm
 ·exact hm
 ·exact absurd rfl (h p hp hn (fillW σ p.atom) hm)
end Go.Proofs.YtiidmgchadagbaaGreatDoor
