/- Of the proof of FnDelta: SortP, AllP, ProgP, AGetP, Atom, Copy, AtH, L3. -/
import Derived.Sort.KeysCollected
import Derived.Test.YtkjinanbccloeaaGreatDoorA06
import Derived.Test.YtkjinanbccloeaaGreatDoorA07
set_option linter.unusedVariables false
set_option maxHeartbeats 1000000
namespace Go.Proofs.YtkjinanbccloeaaGreatDoor
namespace D
open Go.RowKit
theorem Pz:∀ (l m:List UInt8),l < m ↔ kH sO l m < 0
 | [],[]=>by simp [kH]
 | [],b :: m=>by simp [kH]
 | a :: l,[]=>by simp [kH]
 | a :: l,b :: m=>by
  have e:kH sO (a :: l) (b :: m)=if sO a b=0 then kH sO l m else sO a b:=rfl
  rw [List.cons_lt_cons_iff,Pz l m,e];by_cases h:a=b
  ·subst h
   have h0:sO a a=0:=Ce.refl a;rw [if_pos h0];simp
  ·have hn:¬ sO a b=0:=fun e=>h ((Ce.eq a b).1 e)
   rw [if_neg hn]
   have h1:a < b ↔ sO a b < 0:=by
    unfold sO;by_cases y:a < b
    ·simp [y]
    ·rw [if_neg y]
     constructor
     ·exact fun I=>absurd I y
     ·intro I; split at I <;> omega
   rw [h1];constructor
   ·rintro (I | ⟨I,_⟩)
    ·exact I
    ·exact absurd I h
   ·exact .inl
theorem XB {x y:List UInt8}:leB x y=true ↔ x≤y:=by simp [leB]
theorem Kr (y:List (List UInt8)):(y.mergeSort leB).Pairwise (fun a b=>a≤b):=by
 have I:∀ a b c:List UInt8,leB a b=true→leB b c=true→leB a c=true:=fun a b c h1 J=>by simp only [leB,decide_eq_true_eq] at *; exact List.le_trans h1 J
 have U:∀ a b:List UInt8,(leB a b || leB b a)=true:=fun a b=>by simp only [leB,Bool.or_eq_true,decide_eq_true_eq]; exact List.le_total a b
 exact (List.pairwise_mergeSort I U y).imp fun h=>XB.1 h
theorem Kt {s:List (List UInt8)} (h:s.Pairwise (fun a b=>a≤b)):(Lib.compact s).Pairwise (fun a b=>a < b):=by
 unfold Lib.compact Lib.compactUpTo;have a0:∀ i,i < s.length→s.toArray[i]! = s[i]!:=fun i hi=>by simp
 refine List.pairwise_map.2 ?_;refine ((List.pairwise_lt_range (n:=s.length)).filter _).imp_of_mem ?_;intro i j hi hj a1;have I:=List.mem_filter.1 hj;have y:j < s.length:=List.mem_range.1 I.1;have hk:j=0∨s.toArray[j]! ≠ s.toArray[j - 1]!:=by simpa [Lib.keeps] using I.2
 have J:s.toArray[j]! ≠ s.toArray[j - 1]!:=hk.resolve_left (by omega);have U:=List.pairwise_iff_getElem.1 h;have e1:s.toArray[i]! = s[i]'(by omega):=by rw [getElem!_pos _ _ (by simp; omega)]; simp
 have e2:s.toArray[j]! = s[j]'y:=by rw [getElem!_pos _ _ (by simp; omega)]; simp
 have e3:s.toArray[j - 1]! = s[j - 1]'(by omega):=by rw [getElem!_pos _ _ (by simp; omega)]; simp
 rw [e1,e2];rw [e2,e3] at J
 have h1:s[i]'(by omega)≤s[j - 1]'(by omega):=by
  by_cases e:i=j - 1
  ·subst e; exact List.le_refl _
  ·exact U i (j - 1) (by omega) (by omega) (by omega)
 have h2:s[j - 1]'(by omega)≤s[j]'y:=U (j - 1) j (by omega) y (by omega);have h3:s[i]'(by omega)≤s[j]'y:=List.le_trans h1 h2;rw [← List.not_le];intro h4;exact J (List.le_antisymm (List.le_trans h4 h1) h2)
theorem AX (s:List (List UInt8)) (x:List UInt8):x ∈ Lib.compact s ↔ x ∈ s:=by
 unfold Lib.compact Lib.compactUpTo;constructor
 ·intro h
  obtain ⟨j,y,rfl⟩:=List.mem_map.1 h;have I:j < s.length:=List.mem_range.1 (List.mem_filter.1 y).1;rw [getElem!_pos _ _ (by simpa using I)];simp
 ·intro h
  obtain ⟨j,y,rfl⟩:=List.mem_iff_getElem.1 h
  have key:∀ (j:Nat) (y:j < s.length),∃ i ∈ (List.range s.length).filter (Lib.keeps s.toArray),s.toArray[i]! = s.toArray[j]!:=by
   intro j
   induction j with
   | zero=>intro y; exact ⟨0,List.mem_filter.2 ⟨List.mem_range.2 y,by simp [Lib.keeps]⟩,rfl⟩
   | succ j ih=>
    intro y;by_cases e:s.toArray[j+1]! = s.toArray[j]!
    ·obtain ⟨i,J,he⟩:=ih (by omega)
     exact ⟨i,J,by rw [he,e]⟩
    ·exact ⟨j+1,List.mem_filter.2 ⟨List.mem_range.2 y,by simp only [Lib.keeps,decide_eq_true_eq]; exact .inr e⟩,rfl⟩
  obtain ⟨i,J,he⟩:=key j y;refine List.mem_map.2 ⟨i,J,?_⟩;rw [he,getElem!_pos _ _ (by simpa using y)];simp
theorem Om (s:List (List UInt8)):(Lib.compact s).length≤s.length:=by
 unfold Lib.compact Lib.compactUpTo;rw [List.length_map];exact τ (List.length_filter_le _ _) (by simp)
theorem bytes_inj {a b:ByteArray} (h:a.data.toList=b.data.toList):a=b:=by
 cases a; cases b; simp at h; rw [h]
theorem asc_one {xs ys:List (List UInt8)} (y:xs.Pairwise (fun a b=>a < b)) (I:ys.Pairwise (fun a b=>a < b)) (hm:∀ x,x ∈ xs ↔ x ∈ ys):xs=ys:=by
 have J:xs.Nodup:=y.imp fun {a b} h e=>by subst e; exact List.lt_irrefl _ h
 have U:ys.Nodup:=I.imp fun {a b} h e=>by subst e; exact List.lt_irrefl _ h
 refine List.Perm.eq_of_pairwise (le:=fun a b=>a < b) (fun a b _ _ h1 h2=>absurd (List.lt_trans h1 h2) (List.lt_irrefl _)) y I ((List.perm_ext_iff_of_nodup J U).2 hm)
theorem Dq {I:List (List UInt8)} {xs:List ByteArray} (J:sZ xs) (hm:∀ b,b ∈ I ↔ ∃ x ∈ xs,x.data.toList=b):Lib.compact (I.mergeSort fun x y=>decide (x≤y))=xs.map (·.data.toList):=by
 refine asc_one (Kt (Kr I)) ?_ ?_
 ·exact List.pairwise_map.2 (J.imp fun {a b} h=>(Pz _ _).2 h)
 ·intro b
  rw [AX,(List.mergeSort_perm I leB).mem_iff,hm];simp
def jH (y:List T):List ByteArray:=(y.filter (·.var)).map (·.name)
def jI (ps:List Pt):List ByteArray:=ps.flatMap fun p=>jH p.atom.args
theorem Ia (y:List T) (k:Nat) (h:k < y.length):jH (y.take (k+1))=jH (y.take k) ++ (if y[k].var then [y[k].name] else []):=by
 unfold jH;rw [ρ h,List.filter_append,List.map_append]
 congr 1
 cases hv:y[k].var <;> simp [hv]
theorem Ib (ps:List Pt) (k:Nat) (h:k < ps.length):jI (ps.take (k+1))=jI (ps.take k) ++ jH ps[k].atom.args:=by
 unfold jI;rw [ρ h,List.flatMap_append];simp
theorem Ku (J:List T) (x:ByteArray):x ∈ jH J ↔ kL x J:=by
 unfold jH kL;simp only [List.mem_map,List.mem_filter];constructor
 ·rintro ⟨t,⟨h1,y⟩,I⟩; exact ⟨t,h1,y,I⟩
 ·rintro ⟨t,h1,y,I⟩; exact ⟨t,⟨h1,y⟩,I⟩
theorem Kv (ps:List Pt) (x:ByteArray):x ∈ jI ps ↔ ∃ p ∈ ps,kL x p.atom.args:=by
 unfold jI;simp only [List.mem_flatMap,Ku]
theorem AY (y:List T):(jH y).length≤y.length:=by
 unfold jH; rw [List.length_map]; exact List.length_filter_le _ _
theorem tK:∀ (ps:List Pt),(jI ps).length≤iZ (fun p=>p.atom.args.length) ps
 | []=>by simp [jI]
 | p :: ps=>by
  have h1:=tK ps;have y:=AY p.atom.args;simp only [jI,iZ,List.flatMap_cons,χ,List.map_cons,List.sum_cons] at *;omega
theorem Ic (ps:List Pt):Lib.compact (((jI ps).map (·.data.toList)).mergeSort fun x y=>decide (x≤y))=(aC ps).map (·.data.toList):=by
 refine Dq (mO ps tq) fun b=>?_
 simp only [List.mem_map,Kv];constructor
 ·rintro ⟨x,h,rfl⟩; exact ⟨x,(iw ps [] x).2 (.inr h),rfl⟩
 ·rintro ⟨x,h,rfl⟩
  refine ⟨x,?_,rfl⟩
  rcases (iw ps [] x).1 h with h | h
  ·simp at h
  ·exact h
def jZ (list:List A) (a:A) (b:Bd):List Bd:=list.filterMap fun f=>if (aF a f b).2 then some (aF a f b).1 else none
def F5 (list:List A) (p:Pt) (out:List Bd):List Bd:=if p.no then out else out.flatMap (jZ list p.atom)
def xU (list:List A) (body:List Pt):List Bd:=body.foldl (fun out p=>F5 list p out) [[]]
theorem uV (list:List A) (body:List Pt) (k:Nat) (h:k < body.length):xU list (body.take (k+1))=F5 list body[k] (xU list (body.take k)):=by
 unfold xU;rw [ρ h,List.foldl_append];rfl
theorem Oo (list:List A) (a:A) (b:Bd) (j:Nat) (h:j < list.length):jZ (list.take (j+1)) a b=jZ (list.take j) a b ++ (if (aF a list[j] b).2 then [(aF a list[j] b).1] else []):=by
 unfold jZ;rw [ρ h,List.filterMap_append]
 congr 1
 by_cases hm:(aF a list[j] b).2=true
 ·simp [hm]
 ·simp [hm]
theorem F6 (list:List A) (a:A) (b:Bd):(jZ list a b).length≤list.length:=List.length_filterMap_le _ _
theorem xW {list:List A} {a:A}:∀ (out:List Bd),(out.flatMap (jZ list a)).length≤out.length * list.length:=by
 intro out
 induction out with
 | nil=>simp
 | cons b out ih=>
  rw [List.flatMap_cons,χ,List.length_cons,Nat.add_mul,Nat.one_mul];have:=F6 list a b;omega
theorem QC (list:List A) (a:A) (out:List Bd) (k:Nat) (h:k < out.length):(out.take (k+1)).flatMap (jZ list a)=(out.take k).flatMap (jZ list a) ++ jZ list a out[k]:=by
 rw [ρ h,List.flatMap_append];simp
theorem QD {list:List A} {p:Pt} {out:List Bd} {n:Nat} (y:list.length≤300) (h:out.length≤300 ^ n):(F5 list p out).length≤300 ^ (n+1):=by
 unfold F5
 split
 ·exact τ h (Nat.pow_le_pow_right (by omega) (by omega))
 ·refine τ (xW out) ?_
  rw [Nat.pow_succ];exact Nat.mul_le_mul h y
theorem rC:∀ (y fs:List T) (b:Bd),(cZ y fs b).1.length≤b.length+y.length
 | [],fs,b=>by cases fs <;> simp [cZ]
 | t :: y,[],b=>by simp [cZ]
 | t :: y,f :: fs,b=>by
  rw [cZ]
  split
  ·split
   ·split
    ·have:=rC y fs b
     simp only [List.length_cons]; omega
    ·simp
   ·have:=rC y fs (b ++ [(t.name,f.name)])
    simp only [χ,List.length_cons,List.length_nil] at this ⊢; omega
  ·split
   ·have:=rC y fs b
    simp only [List.length_cons]; omega
   ·simp
theorem Dt (a f:A) (b:Bd):(aF a f b).1.length≤b.length+a.args.length:=by
 unfold aF
 split
 ·exact rC _ _ _
 ·simp
theorem Oq {list:List A} {a:A} {b y:Bd} (h:y ∈ jZ list a b):y.length≤b.length+a.args.length:=by
 unfold jZ at h;obtain ⟨f,_,hf⟩:=List.mem_filterMap.1 h
 split at hf
 ·cases hf
  exact Dt a f b
 ·cases hf
def jf (list:List A) (body:List Pt) (b:Bd):Bool:=body.all fun p=>!p.no || !hasB list (cu p.atom b)
def allB (list:List A) (body:List Pt):List Bd:=(xU list body).filter (jf list body)
def jP (r:Ru):List A:=r.head :: r.body.map (·.atom)
def aI (rs:List Ru):List A:=rs.flatMap jP
def fP (ps:List Pt):List A:=ps.map (·.atom)
theorem qc (rs:List Ru) (k:Nat) (h:k < rs.length):aI (rs.take (k+1))=aI (rs.take k) ++ [rs[k].head] ++ fP rs[k].body:=by
 rw [ρ h]; unfold aI jP fP; simp only [List.flatMap_append,List.flatMap_cons,List.flatMap_nil,List.append_nil,List.append_assoc,List.cons_append,List.nil_append]
theorem tN (ps:List Pt) (k:Nat) (h:k < ps.length):fP (ps.take (k+1))=fP (ps.take k) ++ [ps[k].atom]:=by
 rw [ρ h]; unfold fP; simp only [List.map_append,List.map_cons,List.map_nil]
theorem mW (ps:List Pt):(fP ps).length=ps.length:=by unfold fP; simp
def kX (st:List ByteArray × (ByteArray→Int) × Bool) (a:A):List ByteArray × (ByteArray→Int) × Bool:=
 if a.name ∈ st.1∧st.2.1 a.name ≠ a.args.length then (st.1,st.2.1,false) else (gU st.1 a.name,fun t=>if t=a.name then a.args.length else st.2.1 t,st.2.2)
def dP (xs:List A):List ByteArray × (ByteArray→Int) × Bool:=xs.foldl kX ([],fun _=>0,true)
theorem wR (xs:List A) (a:A):dP (xs ++ [a])=kX (dP xs) a:=by unfold dP; rw [List.foldl_append]; rfl
def kC (xs:List A):Bool:=xs.all fun a=>xs.all fun b=>decide (a.name=b.name→a.args.length=b.args.length)
theorem xX (xs:List A):(∀ s,s ∈ (dP xs).1 ↔ ∃ a ∈ xs,a.name=s)∧(dP xs).1.length≤xs.length∧(∀ s ∈ (dP xs).1,∃ a ∈ xs,a.name=s∧(dP xs).2.1 s=a.args.length)∧
  ((dP xs).2.2=true ↔ ∀ a ∈ xs,(dP xs).2.1 a.name=a.args.length):=by
 have key:∀ (n:Nat) (xs:List A),xs.length=n→(∀ s,s ∈ (dP xs).1 ↔ ∃ a ∈ xs,a.name=s)∧(dP xs).1.length≤xs.length∧(∀ s ∈ (dP xs).1,∃ a ∈ xs,a.name=s∧(dP xs).2.1 s=a.args.length)∧
   ((dP xs).2.2=true ↔ ∀ a ∈ xs,(dP xs).2.1 a.name=a.args.length):=by
  intro n
  induction n with
  | zero=>
   intro xs I;obtain rfl:=List.length_eq_zero_iff.1 I;exact ⟨fun s=>by simp [dP],ν,fun s h=>by simp [dP] at h,by simp [dP]⟩
  | succ n ih=>
   intro xs I
   obtain ⟨ys,a,rfl⟩:∃ ys a,xs=ys ++ [a]:=by
    rcases List.eq_nil_or_concat xs with rfl | ⟨ys,a,rfl⟩
    ·simp at I
    ·exact ⟨ys,a,by simp⟩
   obtain ⟨i1,i0,i2,i3⟩:=ih ys (by simpa using I);rw [wR];by_cases hc:a.name ∈ (dP ys).1∧(dP ys).2.1 a.name ≠ a.args.length
   ·have e:kX (dP ys) a=((dP ys).1,(dP ys).2.1,false):=by unfold kX; rw [if_pos hc]
    rw [e];refine ⟨fun s=>⟨fun h=>?_,fun h=>?_⟩,by simp; omega,fun s h=>?_,⟨fun h=>by simp at h,fun h=>absurd (h a (by simp)) hc.2⟩⟩
    ·obtain ⟨b,hb,e⟩:=(i1 s).1 h
     exact ⟨b,by simp [hb],e⟩
    ·obtain ⟨b,hb,e⟩:=h
     rcases μ.1 hb with hb | hb
     ·exact (i1 s).2 ⟨b,hb,e⟩
     ·rw [List.mem_singleton.1 hb] at e
      rw [← e]; exact hc.1
    ·obtain ⟨b,hb,e⟩:=i2 s h
     exact ⟨b,by simp [hb],e⟩
   ·have e:kX (dP ys) a=(gU (dP ys).1 a.name,fun t=>if t=a.name then (a.args.length:Int) else (dP ys).2.1 t,(dP ys).2.2):=by unfold kX; rw [if_neg hc]
    rw [e];refine ⟨fun s=>?_,?_,fun s h=>?_,?_⟩
    ·rw [jq,i1 s]
     simp only [μ,List.mem_singleton];constructor
     ·rintro (⟨b,hb,e⟩ | rfl)
      ·exact ⟨b,.inl hb,e⟩
      ·exact ⟨a,.inr rfl,rfl⟩
     ·rintro ⟨b,hb | rfl,U⟩
      ·exact .inl ⟨b,hb,U⟩
      ·exact .inr U.symm
    ·have:(gU (dP ys).1 a.name).length≤(dP ys).1.length+1:=by unfold gU; split <;> simp
     simp; omega
    ·dsimp only
     by_cases es:s=a.name
     ·exact ⟨a,by simp,es.symm,by rw [if_pos es]⟩
     ·rw [if_neg es]
      obtain ⟨b,hb,e⟩:=i2 s ((jq.1 h).resolve_right es);exact ⟨b,by simp [hb],e⟩
    ·dsimp only
     rw [i3];constructor
     ·intro h b hb
      by_cases y:b.name=a.name
      ·rw [if_pos y]
       rcases μ.1 hb with hb | hb
       ·have h1:a.name ∈ (dP ys).1:=(i1 _).2 ⟨b,hb,y⟩
        have J:(dP ys).2.1 a.name=a.args.length:=Classical.byContradiction fun h=>hc ⟨h1,h⟩
        have h3:=h b hb;rw [y] at h3;rw [← J,h3]
       ·rw [List.mem_singleton.1 hb]
      ·rw [if_neg y]
       rcases μ.1 hb with hb | hb
       ·exact h b hb
       ·rw [List.mem_singleton.1 hb] at y; exact absurd rfl y
     ·intro h b hb
      have h0:=h b (by simp [hb]);by_cases y:b.name=a.name
      ·have h1:a.name ∈ (dP ys).1:=(i1 _).2 ⟨b,hb,y⟩
       have J:(dP ys).2.1 a.name=a.args.length:=Classical.byContradiction fun h=>hc ⟨h1,h⟩
       rw [if_pos y] at h0;rw [y,J,h0]
      ·rw [if_neg y] at h0
       exact h0
 exact key _ xs rfl
theorem AZ (xs:List A):(dP xs).2.2=kC xs:=by
 obtain ⟨i1,_,i2,I⟩:=xX xs;refine Bool.eq_iff_iff.2 (I.trans ?_);unfold kC;simp only [List.all_eq_true,decide_eq_true_eq];constructor
 ·intro h a ha b hb e
  have h1:=h a ha;have y:=h b hb;rw [e,y] at h1;exact_mod_cast h1.symm
 ·intro h a ha
  obtain ⟨b,hb,e,y⟩:=i2 a.name ((i1 _).2 ⟨a,ha,rfl⟩);rw [y,h b hb a ha e]
theorem Kw {xs:List A} (h:kC xs=true) {a:A} (ha:a ∈ xs):(dP xs).2.1 a.name=a.args.length:=(xX xs).2.2.2.1 (by rw [AZ]; exact h) a ha
theorem Ky {xs:List A} {m:Nat} (h:∀ a ∈ xs,a.args.length≤m) {s:ByteArray} (y:s ∈ (dP xs).1):0≤(dP xs).2.1 s∧(dP xs).2.1 s≤m:=by
 obtain ⟨a,ha,_,e⟩:=(xX xs).2.2.1 s y;have:=h a ha;omega
def clash (a b:A):Bool:=decide (a.name=b.name) && decide (a.args.length ≠ b.args.length)
theorem Ba (xs:List A):kC xs = !(xs.any fun a=>xs.any fun b=>clash a b):=by
 unfold kC clash;simp only [List.all_eq_not_any_not]
 congr 2
 funext a
 simp only [Bool.not_not]
 congr 1
 funext b
 by_cases h1:a.name=b.name <;> by_cases y:a.args.length=b.args.length <;> simp [h1,y]
theorem Ot (a b:A):clash a b=clash b a:=by
 unfold clash;rw [decide_eq_decide.2 (eq_comm:a.name=b.name ↔ b.name=a.name),decide_eq_decide.2 (ne_comm:a.args.length ≠ b.args.length ↔ b.args.length ≠ a.args.length)]
theorem Ou (a:A):clash a a=false:=by simp [clash]
theorem QE {xs:List A} (h:∀ i,(y:i < xs.length)→∀ k,(I:k < i)→clash xs[i] (xs[k]'(by omega))=false):kC xs=true:=by
 rw [Ba];simp only [Bool.not_eq_true',List.any_eq_false,Bool.not_eq_true];intro a ha b hb;obtain ⟨i,y,rfl⟩:=List.mem_iff_getElem.1 ha;obtain ⟨k,I,rfl⟩:=List.mem_iff_getElem.1 hb
 rcases Nat.lt_trichotomy i k with h1 | h1 | h1
 ·rw [Ot]; exact h k I i h1
 ·subst h1; exact Ou _
 ·exact h i y k h1
theorem Uh {xs:List A} {i k:Nat} (y:i < xs.length) (I:k < xs.length) (h:clash xs[i] xs[k]=true):kC xs=false:=by
 rw [Ba];simp only [Bool.not_eq_false',List.any_eq_true];exact ⟨_,δ y,_,δ I,h⟩
def fH (rs:List Ru):Nat:=
 if rs.all fC=false then 1 else if 8 < rs.length then 2 else if kC (aI rs)=false then 3 else if (rs.all fun r=>fJ r.head r.body)=false then 4 else if mP rs=true then 5 else 0
theorem Kz (rs:List Ru):fH rs≤5:=by unfold fH; repeat (first | omega | split)
structure Fine (rs:List Ru):Prop where
 ok:rs.all fC=true
 few:rs.length≤8
 alike:kC (aI rs)=true
 tight:(rs.all fun r=>fJ r.head r.body)=true
 no:mP rs=false
theorem qA (rs:List Ru):fH rs=0 ↔ Fine rs:=by
 unfold fH;constructor
 ·intro h
  split at h
  ·omega
  ·rename_i h1
   split at h
   ·omega
   ·rename_i U
    split at h
    ·omega
    ·rename_i y
     split at h
     ·omega
     ·rename_i I
      split at h
      ·omega
      ·rename_i J
       exact ⟨by simpa using h1,by omega,by simpa using y,by simpa using I,by simpa using J⟩
 ·rintro ⟨h1,U,y,I,J⟩
  rw [if_neg (by simp [h1]),if_neg (by omega),if_neg (by simp [y]),if_neg (by simp [I]),if_neg (by simp [J])]
theorem lD {r:Ru} (h:fC r=true):r.body.length≤4∧(∀ a ∈ jP r,aZ a=true)∧∀ a ∈ jP r,a.args.length≤3:=by
 unfold fC pG at h;simp only [ο,decide_eq_true_eq,List.all_eq_true] at h
 have h1:∀ a ∈ jP r,aZ a=true:=fun a ha=>by
  unfold jP at ha
  rcases List.mem_cons.1 ha with rfl | ha
  ·exact h.2
  ·obtain ⟨p,y,rfl⟩:=List.mem_map.1 ha
   exact h.1.2 p y
 exact ⟨h.1.1,h1,fun a ha=>by
  have:=h1 a ha;unfold aZ at this;simp only [ο,decide_eq_true_eq] at this
  exact this.1.2⟩
theorem xY {rs:List Ru} {a:A} (h:a ∈ aI rs):∃ r ∈ rs,a ∈ jP r:=by
 obtain ⟨r,hr,ha⟩:=List.mem_flatMap.1 h;exact ⟨r,hr,ha⟩
theorem lV {rs:List Ru} (h:rs.all fC=true):(∀ a ∈ aI rs,a.args.length≤3)∧(aI rs).length≤5 * rs.length:=by
 refine ⟨fun a ha=>?_,?_⟩
 ·obtain ⟨r,hr,ha⟩:=xY ha
  exact (lD (List.all_eq_true.1 h r hr)).2.2 a ha
 ·unfold aI
  induction rs with
  | nil=>simp
  | cons r rs ih=>
   simp only [List.all_cons,ο] at h;have h1:=(lD h.1).1;have y:=ih h.2;simp only [List.flatMap_cons,χ,List.length_cons,jP,List.length_map] at *;omega
end D
namespace D
open Go.RowKit Go.Lib
def zu (s:ByteArray):T:=⟨sG s,s⟩
def Ui:A:=⟨⟨#[]⟩,[]⟩
def Du (nm inner:List UInt8):A:=⟨toB nm,if inner = [] then [] else (oN 44 inner).map fun w=>zu (toB w)⟩
def Ye (t:List UInt8):A × Bool:=if 1500 < t.length then (Ui,false) else
 if (cut t [40]).2.2=true∧(cut t [40]).2.1.getLast? = some 41 then (if aZ (Du (cut t [40]).1 (cut t [40]).2.1.dropLast) then (Du (cut t [40]).1 (cut t [40]).2.1.dropLast,true) else (Ui,false)) else (Ui,false)
theorem Dv:∀ (y:List (List UInt8)),lT (y.map fun w=>zu (toB w))=joinL 44 y:=by
 have key:∀ (y:List (List UInt8)) (n:Nat),((y.map fun w=>zu (toB w)).zipIdx n).flatMap (fun x=>(if x.2=0 then [] else [44]) ++ x.1.name.data.toList)=(if n=0 then joinL 44 y else if y = [] then [] else 44 :: joinL 44 y):=by
  intro y
  induction y with
  | nil=>intro n; split <;> rfl
  | cons p ps ih=>
   intro n;rw [List.map_cons,List.zipIdx_cons,List.flatMap_cons,ih (n+1),if_neg (Nat.succ_ne_zero n)]
   cases ps with
   | nil=>
    by_cases hn:n=0
    ·subst hn; simp [joinL,zu,toB]
    ·simp [hn,joinL,zu,toB]
   | cons q r=>
    by_cases hn:n=0
    ·subst hn; simp [joinL,zu,toB]
    ·simp [hn,joinL,zu,toB]
 intro y;have:=key y 0;simpa [lT] using this
theorem Ie (c:UInt8) (h:low c=true):c ≠ 40∧c ≠ 41∧c ≠ 44∧c ≠ 32:=by
 refine ⟨?_,?_,?_,?_⟩ <;> (intro e; subst e; exact absurd h (by decide))
theorem Uj {s:ByteArray} (h:iW s=true):(40:UInt8) ∉ s.data.toList:=by
 unfold iW at h;simp only [ο] at h;intro hm;exact (Ie _ (List.all_eq_true.1 h.1.2 _ hm)).1 rfl
end D
section
open Go.RowKit D
theorem tV (a:A) (c0 c1:Value) (bs:List Nat) (w:World) (h:aJ w [c0,c1] a bs):
  Calls Tryz.prog 200 #[.agg #[c0,c1]] w fun e w'=>e=.returned (.bool (aZ a))∧Below w.heap.size w w':=by
 obtain ⟨s,a1,U,ht⟩:=h;simp only [List.cons.injEq,and_true] at a1;obtain ⟨rfl,rfl⟩:=a1;obtain ⟨Ad,cap,rfl,hl,hm⟩:=aj ht;have a5:=aA (τ hl hm);clear hm;have hn:=fun w=>Au a.name w U
 unfold aZ;obtain ⟨nm,y⟩:=a;dsimp only at *;generalize iW nm=b at *
 go_enter Tryz.func200,Tryz.ntmps200
 go_wp2
 go_loopw [3] (fun i wr=>∃ k:Nat,k≤y.length∧i=.int .i64 k∧(y.take k).all jl=true∧Below w.heap.size w wr∧wr.cell? ⟨w.heap.size,0,none⟩=some (.string nm)∧wr.cell? ⟨w.heap.size,1,none⟩=some (.slice Ad y.length cap)∧w.heap.size < wr.heap.size) (fun i _=>y.length - (intOf i).toNat)
 case atStart=>exact ⟨0,ε,rfl,rfl,ζ,by simp,by simp,by simp⟩
 case round=>
  obtain ⟨k,hk,rfl,J,hb,a2,a3,a6⟩:=hrel;have HA:=η J;clear J;by_cases a0:k < y.length
  ·have hw:=aP.below ht hb
   obtain ⟨b0,o,rfl,_,d0,d1,U⟩:=fF hw a0;have HT:=η ht;clear ht hw
   go_wp2_with (go_at_call 261; refine (Og _ _ U).mono ?_; rintro e w' ⟨rfl,I⟩)
   ·have hx:(!jl y[k])=true:=by assumption
    go_ret;exact ⟨aG (by rw [uN y k a0 (by simpa using hx)]; simp),hb.trans (I.mono (by omega))⟩
   ·have hx:(!jl y[k])=false:=by assumption
    go_roundw
    case rel=>exact ⟨k+1,by omega,by go_num,by rw [jo y k a0,HA.out]; simpa using hx,hb.trans (I.mono (by omega)),ξ I a2,ξ I a3,by have:=I.size; omega⟩
    case measure=>simp [intOf]; omega
  ·have he:k=y.length:=by omega
   subst he;have ha:y.all jl=true:=by have:=HA.out; rwa [ϕ ν] at this
   have a4:=η ha;clear ha;cases b
   all_goals
    go_wp2_with (go_at_call 262; refine (hn _).mono ?_; rintro e w3 ⟨rfl,rfl⟩)
    go_ret;exact ⟨aG (by rw [a4.out]; first | (simp; done) | (rw [Bool.eq_iff_iff]; simp; omega)),hb⟩
theorem tX (a:A) (c0 c1:Value) (bs:List Nat) (w:World) (h:aJ w [c0,c1] a bs):
  Calls Tryz.prog 127 #[.agg #[c0,c1]] w fun e w'=>e=.returned (.bool (aZ a))∧Below w.heap.size w w':=by
 obtain ⟨s,a0,J,ht⟩:=h;simp only [List.cons.injEq,and_true] at a0;obtain ⟨rfl,rfl⟩:=a0;obtain ⟨Ad,cap,rfl,hl,hm⟩:=aj ht;have a3:=aA (τ hl hm);clear hm;have hn:=fun w=>AA a.name w J
 unfold aZ;obtain ⟨nm,y⟩:=a;dsimp only at *;generalize iW nm=b at *;by_cases h3:y.length≤3
 all_goals cases b
 case pos.true=>
  go_enter Tryz.func127,Tryz.ntmps127
  go_wp2_with (go_at_call 183; refine (hn _).mono ?_; rintro e w3 ⟨rfl,rfl⟩)
  go_loopw [18] (fun i wr=>∃ k:Nat,k≤y.length∧i=.int .i64 k∧(y.take k).all jl=true∧Below w.heap.size w wr) (fun i _=>y.length - (intOf i).toNat)
  case atStart=>exact ⟨0,ε,rfl,rfl,ζ⟩
  case round=>
   obtain ⟨k,hk,rfl,I,hb⟩:=hrel;have HA:=η I;clear I;by_cases U:k < y.length
   ·have hw:=aP.below ht hb
    obtain ⟨b0,o,rfl,_,d0,d1,J⟩:=fF hw U;have HT:=η ht;clear ht hw
    go_wp2_with (go_at_call 184; refine (Oe _ _ J).mono ?_; rintro e w' ⟨rfl,a1⟩)
    ·have hx:(!jl y[k])=true:=by assumption
     go_ret;exact ⟨aG (by rw [uN y k U (by simpa using hx)]; simp),(hb.alloc hb.size _).trans (a1.mono (by have:=hb.size; simp; omega))⟩
    ·have hx:(!jl y[k])=false:=by assumption
     go_roundw
     case rel=>exact ⟨k+1,by omega,by go_num,by rw [jo y k U,HA.out]; simpa using hx,(hb.alloc hb.size _).trans (a1.mono (by have:=hb.size; simp; omega))⟩
     case measure=>simp [intOf]; omega
   ·have he:k=y.length:=by omega
    subst he;have ha:y.all jl=true:=by have:=HA.out; rwa [ϕ ν] at this
    have a2:=η ha;clear ha;go_wp2;go_ret;exact ⟨aG (by rw [a2.out]; simp; omega),hb⟩
 all_goals
  go_enter Tryz.func127,Tryz.ntmps127
  go_wp2_with (go_at_call 183; refine (hn _).mono ?_; rintro e w3 ⟨rfl,rfl⟩)
  all_goals (go_ret; exact ⟨aG (by first | (simp; done) | (simp; omega)),ζ⟩)
theorem mX (y:List A) (v:Value) (bs:List Nat) (w:World) (h:aB w [v] y bs) (hn:y.length≤16777216) (ha:∀ a ∈ y,a.args.length≤16777216):
  Calls Tryz.prog 54 #[v] w (Makes aB y w.heap.size w):=by
 obtain ⟨Ad,cap,rfl,hl,hm⟩:=aj h;obtain ⟨i0,hi,a2,a3,a4⟩:=info_parts qp;clear hm;by_cases h0:y.length=0
 ·have hl:((y.length:Int) == 0)=true:=beq_iff_eq.2 (by omega)
  have hx:y = []:=List.length_eq_zero_iff.1 h0;have HX:=η hx;clear h h0 hx hi a2 a3 a4 ha
  go_enter Tryz.func54,Tryz.ntmps54
  go_wp2;go_ret;exact ⟨ϑ,_,[],rfl,by rw [HX.out]; exact bQ _,New.nil _ _⟩
 ·have a8:((y.length:Int) == 0)=false:=beq_eq_false_iff_ne.2 (by omega)
  go_enter Tryz.func54,Tryz.ntmps54
  go_wp2_with (at_make; refine wpList_make_full _ rfl _ _ _ rfl w.heap.size 33 i0 _ 2 Tryz.underlying24 hi a2 a3 _ _ _ _ y.length rfl rfl rfl rfl (by rw [a4]; omega) (by unfold maxLen; omega) ν ?_; intro w1 I J)
  have a5:Below w.heap.size w w1:=ϑ.grown J ν (fun _ e=>by cases e);have a9:w.heap.size < w1.heap.size:=(I.lt _ rfl).2;clear J a8
  go_loopw [14] (fun i wr=>∃ (k:Nat) (L:List Value) (bs':List Nat),k≤y.length∧i=.int .i64 k∧wr.ownsRow w.heap.size 33 2 (.slice (some ⟨w.heap.size,0,none⟩) y.length y.length) y.length L∧
    lg 2 aJ w1.heap.size wr L y k bs'∧Below w.heap.size w wr∧w1.heap.size≤wr.heap.size) (fun i _=>y.length - (intOf i).toNat)
  case atStart=>exact ⟨0,_,_,ε,rfl,I,lg.start,a5,ν⟩
  case round=>
   obtain ⟨k,L,bs',hk,rfl,a0,hF,hb,aa⟩:=hrel;clear I a5;by_cases a6:k < y.length
   ·have hw:=ak.below h hb
    obtain ⟨b,o,Ae,ce,bk,rfl,_,c0,c1,a7,_⟩:=dU hw a6;have ab:y[k].args.length≤16777216:=ha _ (δ _);have HK:=η hF;have ac:(0:Int)≤(k:Int):=by omega
    have ae:(k:Int) < (y.length:Int):=by omega
    clear h hw hF ha;have hL:=η a0.1;have hA:Below wr.heap.size wr (wr.alloc (.cells #[.string y[k].name,.slice Ae y[k].args.length ce] 33)):=ζ;have hc:=Hu y[k] _ _ bk _ (au.below a7 hA) ab
    go_wp2_with fail
    refine hc.mono ?_;rintro e w' ⟨a1,af,b2,rfl,hR,hN⟩;obtain ⟨ag,am,rfl⟩:=vZ hR;have hB:=hA.trans (a1.mono hA.size);have U:=own_below a0 hB;obtain ⟨⟨u0,ao⟩,aq⟩:=Jb U (j:=k * 2) (by omega);obtain ⟨⟨u1,ar⟩,av⟩:=Jb U (j:=k * 2+1) (by omega);obtain ⟨R1,R2,R3,R4⟩:=Yb au a0 HK.out a6 hb hB a9 ν aa hR (hN.mono hA.size);clear U a7 hR hN hc;go_wp2;go_roundw
    case rel=>exact ⟨k+1,_,_,by omega,by go_num,R1,R2,R3,R4⟩
    case measure=>simp [intOf]; omega
   ·have he:k=y.length:=by omega
    subst he;have HF:=η hF;clear hF;go_wp2;go_ret;obtain ⟨b2,r1,r2,r3,r4⟩:=HF.out.slice a0 (fun hm=>by have:=(HF.out.new.own _ hm).1; omega);refine ⟨hb,_,b2,rfl,r1,r2,fun b a1=>⟨?_,r4 b a1⟩⟩
    rcases r3 b a1 with ⟨rfl,h⟩ | h
    ·exact h
    ·have:=(HF.out.new.own b h).1; omega
end
section
open Go.RowKit D
attribute [local go_sem ↓] Go.wp_at_zero Go.wp_at_succ
theorem zA (xs:List A) (a:A) (v U d1:Value) (bs b2:List Nat) (w:World) (h:aB w [v] xs bs) (I:aJ w [U,d1] a b2) (hs:fU xs=true):
  Calls Tryz.prog 141 #[v,.agg #[U,d1]] w fun e w'=>e=.returned (.bool (hasB xs a))∧Below w.heap.size w w':=by
 obtain ⟨Ad,cap,rfl,hl,hm⟩:=aj h;obtain ⟨Aa,ca,rfl,rfl⟩:=bG I;have y:Below w.heap.size w (w.alloc (.cells #[.string a.name,.slice Aa a.args.length ca] 33)):=ζ;have hk:=xR xs a _ _ _ bs b2 _ (ak.below h y) (au.below I y) hs;clear h I hm
 go_enter Tryz.func141,Tryz.ntmps141
 go_wp2_with fail
 refine hk.mono ?_;rintro e w1 ⟨rfl,J⟩;go_wp2;go_ret;exact ⟨rfl,y.trans (J.mono y.size)⟩
theorem Dw (y:List A) (v:Value) (bs:List Nat) (w:World) (h:aB w [v] y bs) (hn:y.length≤100000000000) (ha:∀ a ∈ y,a.args.length≤16777216):
  Calls Tryz.prog 108 #[v] w fun e w'=>Below w.heap.size w w'∧∃ v bs,e=.returned v∧aB w' [v] y bs∧∀ c ∈ bs,w.heap.size≤c:=by
 obtain ⟨Ad,cap,rfl,hl,hm⟩:=aj h;obtain ⟨i0,hi,ag,am,ao⟩:=info_parts qp;clear hm;have hA:Below w.heap.size w (w.alloc (.cells #[] 33)):=ζ;have a6:=aY.empty (n:=2) (R:=aJ) (e:=33) (ω w (.cells #[] 33)) (Nat.le_refl w.heap.size)
 go_enter Tryz.func108,Tryz.ntmps108
 go_wp2
 go_loopw [3,4] (fun v i wr=>∃ (k:Nat) (A:Option Addr) (cp:Nat) (L:List Value) (b2:List Nat),k≤y.length∧i=.int .i64 k∧v=.slice A k cp∧aY 2 aJ w.heap.size 33 wr (.slice A k cp) L (y.take k) b2∧Hid (∀ c ∈ b2,w.heap.size≤c)∧Below w.heap.size w wr) (fun _ i _=>y.length - (intOf i).toNat)
 case atStart=>exact ⟨0,_,_,_,_,ε,rfl,rfl,a6,η (fun c hc=>by cases hc),hA⟩
 case round=>
  obtain ⟨k,A,cp,L,b2,hk,rfl,rfl,hC,a7,hb⟩:=hrel;clear a6 hA;by_cases a3:k < y.length
  ·have a8:=η a3
   obtain ⟨b,o,Ae,ce,bk,rfl,_,c0,c1,a9,_⟩:=dU (ak.below h hb) a3;have aq:y[k].args.length≤16777216:=ha _ (δ _);have aL:(0:Int)≤(k:Int):=by omega
   have aM:(k:Int) < (y.length:Int):=by omega
   have HT:Hid (y.take (k+1)=y.take k ++ [y[k]]):=η (ρ a3);have hc:=Dn y[k] _ _ bk _ a9 aq;have HC:=η hC;clear h ha hC
   go_wp2_with fail
   refine hc.mono ?_;rintro e w1 ⟨aa,aR,b3,rfl,hR,hN⟩;obtain ⟨J,U,rfl⟩:=vZ hR;clear a9 hc;have hlen:(y.take k).length=k:=by rw [List.length_take]; omega
   have a4:Below wr.heap.size wr (w1.alloc (.cells #[.string y[k].name,.slice J y[k].args.length U] 33)):=aa.alloc aa.size _;have ar:Below w1.heap.size w1 (w1.alloc (.cells #[.string y[k].name,.slice J y[k].args.length U] 33)):=ζ;have a5:=HC.out.below au a4;have ab:=au.below hR ar;have hL:Lies (w1.alloc (.cells #[.string y[k].name,.slice J y[k].args.length U] 33)) (some ⟨w1.heap.size,0,none⟩) [.string y[k].name,.slice J y[k].args.length U]:=aS (ω w1 _);have av:=η a5;have ac:Hid ((w1.alloc (.cells #[.string y[k].name,.slice J y[k].args.length U] 33)).ownsRow w.heap.size 33 2 (.slice A k cp) k L):=η (by have:=a5.own; rw [hlen] at this; exact this);have HL:=η hL;have aw:=η ab;have ae:=a4.size;clear a5 hL ab hlen
   go_wp2_with (at_builtin; refine wC rfl _ _ _ rfl w.heap.size 33 i0 (.agg #[.string ⟨#[]⟩,.slice none 0 0]) 2 40 Tryz.underlying24 hi ag am ao rfl (by omega) (.slice A k cp) k L rfl ac.out (some ⟨w1.heap.size,0,none⟩) 1 1 [.string y[k].name,.slice J y[k].args.length U] rfl rfl HL.out (by simp [Value.oneCell']) (by unfold maxLen; omega) (by omega) (τ hb.size ae) ?_; intro A2 az w2 a0 I a1)
   have hlen:(y.take k).length=k:=by rw [List.length_take]; omega
   have a2:∀ b ∈ b3,(Value.slice A k cp).ownBlock ≠ some b:=fun b aD=>je HC.out.own (hN.own b aD).1
   have C3:=av.out.app au (aT.dH eY aw.out) a2 (by rw [hlen]; exact a0) I a1;have B3:=jb (hb.trans (a4.mono hb.size)) ac.out ν (τ hb.size ae) I;have aE:Hid (∀ c ∈ b2 ++ b3,w.heap.size≤c):=η fun c hc=>(μ.1 hc).elim (a7.out c) fun h=>τ hb.size (hN.own c h).1
   clear a0 I a1 a2 hlen hR hN;have H3:=η C3;clear C3;go_wp2;go_roundw
   case rel=>exact ⟨k+1,A2,az,_,_,a8.out,by go_num,rfl,by rw [HT.out]; exact H3.out,aE,B3⟩
   case measure=>have:=a8.out; simp [intOf]; omega
  ·have he:k=y.length:=by omega
   subst he;rw [ϕ ν] at hC;obtain ⟨b3,hs,af⟩:=hC.slice;have HS:=η (ι hs fun c hc=>(af c hc).elim id (a7.out c));clear hC hs af;go_wp2;go_ret;exact ⟨hb,_,b3,rfl,HS.out⟩
theorem Ov (y:List A) (v:Value) (bs:List Nat) (w:World) (h:aB w [v] y bs) (hn:y.length≤16777216) (ha:∀ a ∈ y,a.args.length≤16777216):
  Calls Tryz.prog 108 #[v] w (Reads aB y w.heap.size w):=
 (Dw y v bs w h (by omega) ha).mono fun e w' ⟨h1,I,bs',J,U,_⟩=>⟨h1,I,bs',J,U⟩
end
end Go.Proofs.YtkjinanbccloeaaGreatDoor
