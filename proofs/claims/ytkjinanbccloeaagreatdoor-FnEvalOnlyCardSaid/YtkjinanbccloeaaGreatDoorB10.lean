/- Of the proof of FnEvalOnly: SortP, AllP, ProgP, AGetP, Atom, Copy, AtH, L3. -/
import Derived.Sort.KeysCollected
import Derived.Test.YtkjinanbccloeaaGreatDoorB06
import Derived.Test.YtkjinanbccloeaaGreatDoorB07
set_option linter.unusedVariables false
set_option maxHeartbeats 1000000
namespace Go.Proofs.YtkjinanbccloeaaGreatDoor
namespace D
open Go.RowKit
theorem Ov:∀ (l m:List UInt8),l < m ↔ jL qI l m < 0
 | [],[]=>by simp [jL]
 | [],b :: m=>by simp [jL]
 | a :: l,[]=>by simp [jL]
 | a :: l,b :: m=>by
  have e:jL qI (a :: l) (b :: m)=if qI a b=0 then jL qI l m else qI a b:=rfl
  rw [List.cons_lt_cons_iff,Ov l m,e];by_cases h:a=b
  ·subst h
   have h0:qI a a=0:=zQ.refl a;rw [if_pos h0];simp
  ·have J:¬ qI a b=0:=fun e=>h ((zQ.eq a b).1 e)
   rw [if_neg J]
   have h1:a < b ↔ qI a b < 0:=by
    unfold qI;by_cases y:a < b
    ·simp [y]
    ·rw [if_neg y]
     constructor
     ·exact fun I=>absurd I y
     ·intro I; split at I <;> omega
   rw [h1];constructor
   ·rintro (I | ⟨I,_⟩)
    ·exact I
    ·exact absurd I h
   ·exact .inl
theorem WI {x y:List UInt8}:leB x y=true ↔ x≤y:=by simp [leB]
theorem Jr (y:List (List UInt8)):(y.mergeSort leB).Pairwise (fun a b=>a≤b):=by
 have I:∀ a b c:List UInt8,leB a b=true→leB b c=true→leB a c=true:=fun a b c h1 J=>by simp only [leB,decide_eq_true_eq] at *; exact List.le_trans h1 J
 have U:∀ a b:List UInt8,(leB a b || leB b a)=true:=fun a b=>by simp only [leB,Bool.or_eq_true,decide_eq_true_eq]; exact List.le_total a b
 exact (List.pairwise_mergeSort I U y).imp fun h=>WI.1 h
theorem Js {s:List (List UInt8)} (h:s.Pairwise (fun a b=>a≤b)):(Lib.compact s).Pairwise (fun a b=>a < b):=by
 unfold Lib.compact Lib.compactUpTo;have a0:∀ i,i < s.length→s.toArray[i]! = s[i]!:=fun i hi=>by simp
 refine List.pairwise_map.2 ?_;refine ((List.pairwise_lt_range (n:=s.length)).filter _).imp_of_mem ?_;intro i j hi hj a1;have I:=List.mem_filter.1 hj;have y:j < s.length:=List.mem_range.1 I.1;have hk:j=0∨s.toArray[j]! ≠ s.toArray[j - 1]!:=by simpa [Lib.keeps] using I.2
 have J:s.toArray[j]! ≠ s.toArray[j - 1]!:=hk.resolve_left (by omega);have U:=List.pairwise_iff_getElem.1 h;have e1:s.toArray[i]! = s[i]'(by omega):=by rw [getElem!_pos _ _ (by simp; omega)]; simp
 have e2:s.toArray[j]! = s[j]'y:=by rw [getElem!_pos _ _ (by simp; omega)]; simp
 have e3:s.toArray[j - 1]! = s[j - 1]'(by omega):=by rw [getElem!_pos _ _ (by simp; omega)]; simp
 rw [e1,e2];rw [e2,e3] at J
 have h1:s[i]'(by omega)≤s[j - 1]'(by omega):=by
  by_cases e:i=j - 1
  ·subst e; exact List.le_refl _
  ·exact U i (j - 1) (by omega) (by omega) (by omega)
 have h2:s[j - 1]'(by omega)≤s[j]'y:=U (j - 1) j (by omega) y (by omega);have h3:s[i]'(by omega)≤s[j]'y:=List.le_trans h1 h2;rw [← List.not_le];intro h4;exact J (List.le_antisymm (List.le_trans h4 h1) h2)
theorem yX (s:List (List UInt8)) (x:List UInt8):x ∈ Lib.compact s ↔ x ∈ s:=by
 unfold Lib.compact Lib.compactUpTo;constructor
 ·intro h
  obtain ⟨j,y,rfl⟩:=List.mem_map.1 h;have I:j < s.length:=List.mem_range.1 (List.mem_filter.1 y).1;rw [getElem!_pos _ _ (by simpa using I)];simp
 ·intro h
  obtain ⟨j,y,rfl⟩:=List.mem_iff_getElem.1 h
  have J:∀ (j:Nat) (y:j < s.length),∃ i ∈ (List.range s.length).filter (Lib.keeps s.toArray),s.toArray[i]! = s.toArray[j]!:=by
   intro j
   induction j with
   | zero=>intro y; exact ⟨0,List.mem_filter.2 ⟨List.mem_range.2 y,by simp [Lib.keeps]⟩,rfl⟩
   | succ j ih=>
    intro y;by_cases e:s.toArray[j+1]! = s.toArray[j]!
    ·obtain ⟨i,U,he⟩:=ih (by omega)
     exact ⟨i,U,by rw [he,e]⟩
    ·exact ⟨j+1,List.mem_filter.2 ⟨List.mem_range.2 y,by simp only [Lib.keeps,decide_eq_true_eq]; exact .inr e⟩,rfl⟩
  obtain ⟨i,U,he⟩:=J j y;refine List.mem_map.2 ⟨i,U,?_⟩;rw [he,getElem!_pos _ _ (by simpa using y)];simp
theorem Nb (s:List (List UInt8)):(Lib.compact s).length≤s.length:=by
 unfold Lib.compact Lib.compactUpTo;rw [List.length_map];exact τ (List.length_filter_le _ _) (by simp)
theorem bytes_inj {a b:ByteArray} (h:a.data.toList=b.data.toList):a=b:=by
 cases a; cases b; simp at h; rw [h]
theorem asc_one {xs ys:List (List UInt8)} (y:xs.Pairwise (fun a b=>a < b)) (I:ys.Pairwise (fun a b=>a < b)) (hm:∀ x,x ∈ xs ↔ x ∈ ys):xs=ys:=by
 have J:xs.Nodup:=y.imp fun {a b} h e=>by subst e; exact List.lt_irrefl _ h
 have U:ys.Nodup:=I.imp fun {a b} h e=>by subst e; exact List.lt_irrefl _ h
 refine List.Perm.eq_of_pairwise (le:=fun a b=>a < b) (fun a b _ _ h1 h2=>absurd (List.lt_trans h1 h2) (List.lt_irrefl _)) y I ((List.perm_ext_iff_of_nodup J U).2 hm)
theorem CB {I:List (List UInt8)} {xs:List ByteArray} (J:qL xs) (hm:∀ b,b ∈ I ↔ ∃ x ∈ xs,x.data.toList=b):Lib.compact (I.mergeSort fun x y=>decide (x≤y))=xs.map (·.data.toList):=by
 refine asc_one (Js (Jr I)) ?_ ?_
 ·exact List.pairwise_map.2 (J.imp fun {a b} h=>(Ov _ _).2 h)
 ·intro b
  rw [yX,(List.mergeSort_perm I leB).mem_iff,hm];simp
def jg (y:List T):List ByteArray:=(y.filter (·.var)).map (·.name)
def jh (ps:List Pt):List ByteArray:=ps.flatMap fun p=>jg p.atom.args
theorem G6 (y:List T) (k:Nat) (h:k < y.length):jg (y.take (k+1))=jg (y.take k) ++ (if y[k].var then [y[k].name] else []):=by
 unfold jg;rw [ρ h,List.filter_append,List.map_append]
 congr 1
 cases hv:y[k].var <;> simp [hv]
theorem G7 (ps:List Pt) (k:Nat) (h:k < ps.length):jh (ps.take (k+1))=jh (ps.take k) ++ jg ps[k].atom.args:=by
 unfold jh;rw [ρ h,List.flatMap_append];simp
theorem Jt (J:List T) (x:ByteArray):x ∈ jg J ↔ jP x J:=by
 unfold jg jP;simp only [List.mem_map,List.mem_filter];constructor
 ·rintro ⟨t,⟨h1,y⟩,I⟩; exact ⟨t,h1,y,I⟩
 ·rintro ⟨t,h1,y,I⟩; exact ⟨t,⟨h1,y⟩,I⟩
theorem Ju (ps:List Pt) (x:ByteArray):x ∈ jh ps ↔ ∃ p ∈ ps,jP x p.atom.args:=by
 unfold jh;simp only [List.mem_flatMap,Jt]
theorem yY (y:List T):(jg y).length≤y.length:=by
 unfold jg; rw [List.length_map]; exact List.length_filter_le _ _
theorem qQ:∀ (ps:List Pt),(jh ps).length≤iq (fun p=>p.atom.args.length) ps
 | []=>by simp [jh]
 | p :: ps=>by
  have h1:=qQ ps;have y:=yY p.atom.args;simp only [jh,iq,List.flatMap_cons,χ,List.map_cons,List.sum_cons] at *;omega
theorem G8 (ps:List Pt):Lib.compact (((jh ps).map (·.data.toList)).mergeSort fun x y=>decide (x≤y))=(aB ps).map (·.data.toList):=by
 refine CB (kZ ps qM) fun b=>?_
 simp only [List.mem_map,Ju];constructor
 ·rintro ⟨x,h,rfl⟩; exact ⟨x,(gq ps [] x).2 (.inr h),rfl⟩
 ·rintro ⟨x,h,rfl⟩
  refine ⟨x,?_,rfl⟩
  rcases (gq ps [] x).1 h with h | h
  ·simp at h
  ·exact h
def jG (list:List A) (a:A) (b:Bd):List Bd:=list.filterMap fun f=>if (aC a f b).2 then some (aC a f b).1 else none
def FB (list:List A) (p:Pt) (out:List Bd):List Bd:=if p.no then out else out.flatMap (jG list p.atom)
def vW (list:List A) (body:List Pt):List Bd:=body.foldl (fun out p=>FB list p out) [[]]
theorem sH (list:List A) (body:List Pt) (k:Nat) (h:k < body.length):vW list (body.take (k+1))=FB list body[k] (vW list (body.take k)):=by
 unfold vW;rw [ρ h,List.foldl_append];rfl
theorem Nc (list:List A) (a:A) (b:Bd) (j:Nat) (h:j < list.length):jG (list.take (j+1)) a b=jG (list.take j) a b ++ (if (aC a list[j] b).2 then [(aC a list[j] b).1] else []):=by
 unfold jG;rw [ρ h,List.filterMap_append]
 congr 1
 by_cases hm:(aC a list[j] b).2=true
 ·simp [hm]
 ·simp [hm]
theorem FC (list:List A) (a:A) (b:Bd):(jG list a b).length≤list.length:=List.length_filterMap_le _ _
theorem vX {list:List A} {a:A}:∀ (out:List Bd),(out.flatMap (jG list a)).length≤out.length * list.length:=by
 intro out
 induction out with
 | nil=>simp
 | cons b out ih=>
  rw [List.flatMap_cons,χ,List.length_cons,Nat.add_mul,Nat.one_mul];have:=FC list a b;omega
theorem Pv (list:List A) (a:A) (out:List Bd) (k:Nat) (h:k < out.length):(out.take (k+1)).flatMap (jG list a)=(out.take k).flatMap (jG list a) ++ jG list a out[k]:=by
 rw [ρ h,List.flatMap_append];simp
theorem Px {list:List A} {p:Pt} {out:List Bd} {n:Nat} (y:list.length≤300) (h:out.length≤300 ^ n):(FB list p out).length≤300 ^ (n+1):=by
 unfold FB
 split
 ·exact τ h (Nat.pow_le_pow_right (by omega) (by omega))
 ·refine τ (vX out) ?_
  rw [Nat.pow_succ];exact Nat.mul_le_mul h y
theorem pX:∀ (y fs:List T) (b:Bd),(bY y fs b).1.length≤b.length+y.length
 | [],fs,b=>by cases fs <;> simp [bY]
 | t :: y,[],b=>by simp [bY]
 | t :: y,f :: fs,b=>by
  rw [bY]
  split
  ·split
   ·split
    ·have:=pX y fs b
     simp only [List.length_cons]; omega
    ·simp
   ·have:=pX y fs (b ++ [(t.name,f.name)])
    simp only [χ,List.length_cons,List.length_nil] at this ⊢; omega
  ·split
   ·have:=pX y fs b
    simp only [List.length_cons]; omega
   ·simp
theorem CG (a f:A) (b:Bd):(aC a f b).1.length≤b.length+a.args.length:=by
 unfold aC
 split
 ·exact pX _ _ _
 ·simp
theorem Nh {list:List A} {a:A} {b y:Bd} (h:y ∈ jG list a b):y.length≤b.length+a.args.length:=by
 unfold jG at h;obtain ⟨f,_,hf⟩:=List.mem_filterMap.1 h
 split at hf
 ·cases hf
  exact CG a f b
 ·cases hf
def iI (list:List A) (body:List Pt) (b:Bd):Bool:=body.all fun p=>!p.no || !hasB list (bQ p.atom b)
def allB (list:List A) (body:List Pt):List Bd:=(vW list body).filter (iI list body)
def iZ (r:Ru):List A:=r.head :: r.body.map (·.atom)
def aF (rs:List Ru):List A:=rs.flatMap iZ
def eG (ps:List Pt):List A:=ps.map (·.atom)
theorem oI (rs:List Ru) (k:Nat) (h:k < rs.length):aF (rs.take (k+1))=aF (rs.take k) ++ [rs[k].head] ++ eG rs[k].body:=by
 rw [ρ h]; unfold aF iZ eG; simp only [List.flatMap_append,List.flatMap_cons,List.flatMap_nil,List.append_nil,List.append_assoc,List.cons_append,List.nil_append]
theorem qU (ps:List Pt) (k:Nat) (h:k < ps.length):eG (ps.take (k+1))=eG (ps.take k) ++ [ps[k].atom]:=by
 rw [ρ h]; unfold eG; simp only [List.map_append,List.map_cons,List.map_nil]
theorem lu (ps:List Pt):(eG ps).length=ps.length:=by unfold eG; simp
def jV (st:List ByteArray × (ByteArray→Int) × Bool) (a:A):List ByteArray × (ByteArray→Int) × Bool:=
 if a.name ∈ st.1∧st.2.1 a.name ≠ a.args.length then (st.1,st.2.1,false) else (fO st.1 a.name,fun t=>if t=a.name then a.args.length else st.2.1 t,st.2.2)
def dG (xs:List A):List ByteArray × (ByteArray→Int) × Bool:=xs.foldl jV ([],fun _=>0,true)
theorem uK (xs:List A) (a:A):dG (xs ++ [a])=jV (dG xs) a:=by unfold dG; rw [List.foldl_append]; rfl
def jH (xs:List A):Bool:=xs.all fun a=>xs.all fun b=>decide (a.name=b.name→a.args.length=b.args.length)
theorem vY (xs:List A):(∀ s,s ∈ (dG xs).1 ↔ ∃ a ∈ xs,a.name=s)∧(dG xs).1.length≤xs.length∧(∀ s ∈ (dG xs).1,∃ a ∈ xs,a.name=s∧(dG xs).2.1 s=a.args.length)∧
  ((dG xs).2.2=true ↔ ∀ a ∈ xs,(dG xs).2.1 a.name=a.args.length):=by
 have U:∀ (n:Nat) (xs:List A),xs.length=n→(∀ s,s ∈ (dG xs).1 ↔ ∃ a ∈ xs,a.name=s)∧(dG xs).1.length≤xs.length∧(∀ s ∈ (dG xs).1,∃ a ∈ xs,a.name=s∧(dG xs).2.1 s=a.args.length)∧
   ((dG xs).2.2=true ↔ ∀ a ∈ xs,(dG xs).2.1 a.name=a.args.length):=by
  intro n
  induction n with
  | zero=>
   intro xs J;obtain rfl:=List.length_eq_zero_iff.1 J;exact ⟨fun s=>by simp [dG],ν,fun s h=>by simp [dG] at h,by simp [dG]⟩
  | succ n ih=>
   intro xs J
   obtain ⟨ys,a,rfl⟩:∃ ys a,xs=ys ++ [a]:=by
    rcases List.eq_nil_or_concat xs with rfl | ⟨ys,a,rfl⟩
    ·simp at J
    ·exact ⟨ys,a,by simp⟩
   obtain ⟨i1,i0,i2,i3⟩:=ih ys (by simpa using J);rw [uK];by_cases hc:a.name ∈ (dG ys).1∧(dG ys).2.1 a.name ≠ a.args.length
   ·have e:jV (dG ys) a=((dG ys).1,(dG ys).2.1,false):=by unfold jV; rw [if_pos hc]
    rw [e];refine ⟨fun s=>⟨fun h=>?_,fun h=>?_⟩,by simp; omega,fun s h=>?_,⟨fun h=>by simp at h,fun h=>absurd (h a (by simp)) hc.2⟩⟩
    ·obtain ⟨b,y,e⟩:=(i1 s).1 h
     exact ⟨b,by simp [y],e⟩
    ·obtain ⟨b,y,e⟩:=h
     rcases μ.1 y with y | y
     ·exact (i1 s).2 ⟨b,y,e⟩
     ·rw [List.mem_singleton.1 y] at e
      rw [← e]; exact hc.1
    ·obtain ⟨b,y,e⟩:=i2 s h
     exact ⟨b,by simp [y],e⟩
   ·have e:jV (dG ys) a=(fO (dG ys).1 a.name,fun t=>if t=a.name then (a.args.length:Int) else (dG ys).2.1 t,(dG ys).2.2):=by unfold jV; rw [if_neg hc]
    rw [e];refine ⟨fun s=>?_,?_,fun s h=>?_,?_⟩
    ·rw [iR,i1 s]
     simp only [μ,List.mem_singleton];constructor
     ·rintro (⟨b,y,e⟩ | rfl)
      ·exact ⟨b,.inl y,e⟩
      ·exact ⟨a,.inr rfl,rfl⟩
     ·rintro ⟨b,y | rfl,e'⟩
      ·exact .inl ⟨b,y,e'⟩
      ·exact .inr e'.symm
    ·have:(fO (dG ys).1 a.name).length≤(dG ys).1.length+1:=by unfold fO; split <;> simp
     simp; omega
    ·dsimp only
     by_cases es:s=a.name
     ·exact ⟨a,by simp,es.symm,by rw [if_pos es]⟩
     ·rw [if_neg es]
      obtain ⟨b,y,e⟩:=i2 s ((iR.1 h).resolve_right es);exact ⟨b,by simp [y],e⟩
    ·dsimp only
     rw [i3];constructor
     ·intro h b y
      by_cases I:b.name=a.name
      ·rw [if_pos I]
       rcases μ.1 y with y | y
       ·have h1:a.name ∈ (dG ys).1:=(i1 _).2 ⟨b,y,I⟩
        have h2:(dG ys).2.1 a.name=a.args.length:=Classical.byContradiction fun h=>hc ⟨h1,h⟩
        have h3:=h b y;rw [I] at h3;rw [← h2,h3]
       ·rw [List.mem_singleton.1 y]
      ·rw [if_neg I]
       rcases μ.1 y with y | y
       ·exact h b y
       ·rw [List.mem_singleton.1 y] at I; exact absurd rfl I
     ·intro h b y
      have h0:=h b (by simp [y]);by_cases I:b.name=a.name
      ·have h1:a.name ∈ (dG ys).1:=(i1 _).2 ⟨b,y,I⟩
       have h2:(dG ys).2.1 a.name=a.args.length:=Classical.byContradiction fun h=>hc ⟨h1,h⟩
       rw [if_pos I] at h0;rw [I,h2,h0]
      ·rw [if_neg I] at h0
       exact h0
 exact U _ xs rfl
theorem yZ (xs:List A):(dG xs).2.2=jH xs:=by
 obtain ⟨i1,_,i2,J⟩:=vY xs;refine Bool.eq_iff_iff.2 (J.trans ?_);unfold jH;simp only [List.all_eq_true,decide_eq_true_eq];constructor
 ·intro h a ha b y e
  have h1:=h a ha;have I:=h b y;rw [e,I] at h1;exact_mod_cast h1.symm
 ·intro h a ha
  obtain ⟨b,y,e,I⟩:=i2 a.name ((i1 _).2 ⟨a,ha,rfl⟩);rw [I,h b y a ha e]
theorem Jv {xs:List A} (h:jH xs=true) {a:A} (ha:a ∈ xs):(dG xs).2.1 a.name=a.args.length:=(vY xs).2.2.2.1 (by rw [yZ]; exact h) a ha
theorem Jw {xs:List A} {m:Nat} (h:∀ a ∈ xs,a.args.length≤m) {s:ByteArray} (y:s ∈ (dG xs).1):0≤(dG xs).2.1 s∧(dG xs).2.1 s≤m:=by
 obtain ⟨a,ha,_,e⟩:=(vY xs).2.2.1 s y;have:=h a ha;omega
def clash (a b:A):Bool:=decide (a.name=b.name) && decide (a.args.length ≠ b.args.length)
theorem qV (xs:List A):jH xs = !(xs.any fun a=>xs.any fun b=>clash a b):=by
 unfold jH clash;simp only [List.all_eq_not_any_not]
 congr 2
 funext a
 simp only [Bool.not_not]
 congr 1
 funext b
 by_cases h1:a.name=b.name <;> by_cases y:a.args.length=b.args.length <;> simp [h1,y]
theorem Nj (a b:A):clash a b=clash b a:=by
 unfold clash;rw [decide_eq_decide.2 (eq_comm:a.name=b.name ↔ b.name=a.name),decide_eq_decide.2 (ne_comm:a.args.length ≠ b.args.length ↔ b.args.length ≠ a.args.length)]
theorem Nk (a:A):clash a a=false:=by simp [clash]
theorem Py {xs:List A} (h:∀ i,(y:i < xs.length)→∀ k,(I:k < i)→clash xs[i] (xs[k]'(by omega))=false):jH xs=true:=by
 rw [qV];simp only [Bool.not_eq_true',List.any_eq_false,Bool.not_eq_true];intro a ha b J;obtain ⟨i,y,rfl⟩:=List.mem_iff_getElem.1 ha;obtain ⟨k,I,rfl⟩:=List.mem_iff_getElem.1 J
 rcases Nat.lt_trichotomy i k with h1 | h1 | h1
 ·rw [Nj]; exact h k I i h1
 ·subst h1; exact Nk _
 ·exact h i y k h1
theorem SL {xs:List A} {i k:Nat} (y:i < xs.length) (I:k < xs.length) (h:clash xs[i] xs[k]=true):jH xs=false:=by
 rw [qV];simp only [Bool.not_eq_false',List.any_eq_true];exact ⟨_,δ y,_,δ I,h⟩
def dV (rs:List Ru):Nat:=
 if rs.all dN=false then 1 else if 8 < rs.length then 2 else if jH (aF rs)=false then 3 else if (rs.all fun r=>dZ r.head r.body)=false then 4 else if lg rs=true then 5 else 0
theorem Jy (rs:List Ru):dV rs≤5:=by unfold dV; repeat (first | omega | split)
structure Fine (rs:List Ru):Prop where
 ok:rs.all dN=true
 few:rs.length≤8
 alike:jH (aF rs)=true
 tight:(rs.all fun r=>dZ r.head r.body)=true
 no:lg rs=false
theorem lN (rs:List Ru):dV rs=0 ↔ Fine rs:=by
 unfold dV;constructor
 ·intro h
  split at h
  ·omega
  ·rename_i h1
   split at h
   ·omega
   ·rename_i U
    split at h
    ·omega
    ·rename_i y
     split at h
     ·omega
     ·rename_i I
      split at h
      ·omega
      ·rename_i J
       exact ⟨by simpa using h1,by omega,by simpa using y,by simpa using I,by simpa using J⟩
 ·rintro ⟨h1,U,y,I,J⟩
  rw [if_neg (by simp [h1]),if_neg (by omega),if_neg (by simp [y]),if_neg (by simp [I]),if_neg (by simp [J])]
theorem kF {r:Ru} (h:dN r=true):r.body.length≤4∧(∀ a ∈ iZ r,aX a=true)∧∀ a ∈ iZ r,a.args.length≤3:=by
 unfold dN mD at h;simp only [ο,decide_eq_true_eq,List.all_eq_true] at h
 have h1:∀ a ∈ iZ r,aX a=true:=fun a ha=>by
  unfold iZ at ha
  rcases List.mem_cons.1 ha with rfl | ha
  ·exact h.2
  ·obtain ⟨p,y,rfl⟩:=List.mem_map.1 ha
   exact h.1.2 p y
 exact ⟨h.1.1,h1,fun a ha=>by
  have:=h1 a ha;unfold aX at this;simp only [ο,decide_eq_true_eq] at this
  exact this.1.2⟩
theorem vZ {rs:List Ru} {a:A} (h:a ∈ aF rs):∃ r ∈ rs,a ∈ iZ r:=by
 obtain ⟨r,hr,ha⟩:=List.mem_flatMap.1 h;exact ⟨r,hr,ha⟩
theorem kQ {rs:List Ru} (h:rs.all dN=true):(∀ a ∈ aF rs,a.args.length≤3)∧(aF rs).length≤5 * rs.length:=by
 refine ⟨fun a ha=>?_,?_⟩
 ·obtain ⟨r,hr,ha⟩:=vZ ha
  exact (kF (List.all_eq_true.1 h r hr)).2.2 a ha
 ·unfold aF
  induction rs with
  | nil=>simp
  | cons r rs ih=>
   simp only [List.all_cons,ο] at h;have h1:=(kF h.1).1;have y:=ih h.2;simp only [List.flatMap_cons,χ,List.length_cons,iZ,List.length_map] at *;omega
end D
namespace D
open Go.RowKit Go.Lib
def xY (s:ByteArray):T:=⟨qE s,s⟩
def SN:A:=⟨⟨#[]⟩,[]⟩
def CJ (nm inner:List UInt8):A:=⟨toB nm,if inner = [] then [] else (nI 44 inner).map fun w=>xY (toB w)⟩
def Xr (t:List UInt8):A × Bool:=if 1500 < t.length then (SN,false) else
 if (cut t [40]).2.2=true∧(cut t [40]).2.1.getLast? = some 41 then (if aX (CJ (cut t [40]).1 (cut t [40]).2.1.dropLast) then (CJ (cut t [40]).1 (cut t [40]).2.1.dropLast,true) else (SN,false)) else (SN,false)
theorem CO:∀ (y:List (List UInt8)),kN (y.map fun w=>xY (toB w))=joinL 44 y:=by
 have J:∀ (y:List (List UInt8)) (n:Nat),((y.map fun w=>xY (toB w)).zipIdx n).flatMap (fun x=>(if x.2=0 then [] else [44]) ++ x.1.name.data.toList)=(if n=0 then joinL 44 y else if y = [] then [] else 44 :: joinL 44 y):=by
  intro y
  induction y with
  | nil=>intro n; split <;> rfl
  | cons p ps ih=>
   intro n;rw [List.map_cons,List.zipIdx_cons,List.flatMap_cons,ih (n+1),if_neg (Nat.succ_ne_zero n)]
   cases ps with
   | nil=>
    by_cases I:n=0
    ·subst I; simp [joinL,xY,toB]
    ·simp [I,joinL,xY,toB]
   | cons q r=>
    by_cases I:n=0
    ·subst I; simp [joinL,xY,toB]
    ·simp [I,joinL,xY,toB]
 intro y;have:=J y 0;simpa [kN] using this
theorem G9 (c:UInt8) (h:low c=true):c ≠ 40∧c ≠ 41∧c ≠ 44∧c ≠ 32:=by
 refine ⟨?_,?_,?_,?_⟩ <;> (intro e; subst e; exact absurd h (by decide))
theorem SQ {s:ByteArray} (h:gZ s=true):(40:UInt8) ∉ s.data.toList:=by
 unfold gZ at h;simp only [ο] at h;intro hm;exact (G9 _ (List.all_eq_true.1 h.1.2 _ hm)).1 rfl
end D
section
open Go.RowKit D
theorem qW (a:A) (c0 c1:Value) (bs:List Nat) (w:World) (h:aG w [c0,c1] a bs):
  Calls Tryz.prog 200 #[.agg #[c0,c1]] w fun e w'=>e=.returned (.bool (aX a))∧Below w.heap.size w w':=by
 obtain ⟨s,a1,U,ht⟩:=h;simp only [List.cons.injEq,and_true] at a1;obtain ⟨rfl,rfl⟩:=a1;obtain ⟨Ad,cap,rfl,hl,hm⟩:=ak ht;have a5:=aA (τ hl hm);clear hm;have hn:=fun w=>yN a.name w U
 unfold aX;obtain ⟨nm,y⟩:=a;dsimp only at *;generalize gZ nm=b at *
 go_enter Tryz.func200,Tryz.ntmps200
 go_wp2
 go_loopw [3] (fun i wr=>∃ k:Nat,k≤y.length∧i=.int .i64 k∧(y.take k).all iM=true∧Below w.heap.size w wr∧wr.cell? ⟨w.heap.size,0,none⟩=some (.string nm)∧wr.cell? ⟨w.heap.size,1,none⟩=some (.slice Ad y.length cap)∧w.heap.size < wr.heap.size) (fun i _=>y.length - (intOf i).toNat)
 case atStart=>exact ⟨0,ε,rfl,rfl,ζ,by simp,by simp,by simp⟩
 case round=>
  obtain ⟨k,hk,rfl,J,hb,a2,a3,a6⟩:=hrel;have HA:=η J;clear J;by_cases a0:k < y.length
  ·have hw:=aN.below ht hb
   obtain ⟨b0,o,rfl,_,d0,d1,U⟩:=dY hw a0;have HT:=η ht;clear ht hw
   go_wp2_with (go_at_call 261; refine (MS _ _ U).mono ?_; rintro e w' ⟨rfl,I⟩)
   ·have hx:(!iM y[k])=true:=by assumption
    go_ret;exact ⟨aJ (by rw [rZ y k a0 (by simpa using hx)]; simp),hb.trans (I.mono (by omega))⟩
   ·have hx:(!iM y[k])=false:=by assumption
    go_roundw
    case rel=>exact ⟨k+1,by omega,by go_num,by rw [iP y k a0,HA.out]; simpa using hx,hb.trans (I.mono (by omega)),ξ I a2,ξ I a3,by have:=I.size; omega⟩
    case measure=>simp [intOf]; omega
  ·have he:k=y.length:=by omega
   subst he;have ha:y.all iM=true:=by have:=HA.out; rwa [ϕ ν] at this
   have a4:=η ha;clear ha;cases b
   all_goals
    go_wp2_with (go_at_call 262; refine (hn _).mono ?_; rintro e w3 ⟨rfl,rfl⟩)
    go_ret;exact ⟨aJ (by rw [a4.out]; first | (simp; done) | (rw [Bool.eq_iff_iff]; simp; omega)),hb⟩
theorem qX (a:A) (c0 c1:Value) (bs:List Nat) (w:World) (h:aG w [c0,c1] a bs):
  Calls Tryz.prog 127 #[.agg #[c0,c1]] w fun e w'=>e=.returned (.bool (aX a))∧Below w.heap.size w w':=by
 obtain ⟨s,a1,U,ht⟩:=h;simp only [List.cons.injEq,and_true] at a1;obtain ⟨rfl,rfl⟩:=a1;obtain ⟨Ad,cap,rfl,hl,hm⟩:=ak ht;have a4:=aA (τ hl hm);clear hm;have hn:=fun w=>yO a.name w U
 unfold aX;obtain ⟨nm,y⟩:=a;dsimp only at *;generalize gZ nm=b at *;by_cases h3:y.length≤3
 all_goals cases b
 case pos.true=>
  go_enter Tryz.func127,Tryz.ntmps127
  go_wp2_with (go_at_call 183; refine (hn _).mono ?_; rintro e w3 ⟨rfl,rfl⟩)
  go_loopw [18] (fun i wr=>∃ k:Nat,k≤y.length∧i=.int .i64 k∧(y.take k).all iM=true∧Below w.heap.size w wr) (fun i _=>y.length - (intOf i).toNat)
  case atStart=>exact ⟨0,ε,rfl,rfl,ζ⟩
  case round=>
   obtain ⟨k,hk,rfl,I,J⟩:=hrel;have HA:=η I;clear I;by_cases a0:k < y.length
   ·have hw:=aN.below ht J
    obtain ⟨b0,o,rfl,_,d0,d1,U⟩:=dY hw a0;have HT:=η ht;clear ht hw
    go_wp2_with (go_at_call 184; refine (MR _ _ U).mono ?_; rintro e w' ⟨rfl,a2⟩)
    ·have hx:(!iM y[k])=true:=by assumption
     go_ret;exact ⟨aJ (by rw [rZ y k a0 (by simpa using hx)]; simp),(J.alloc J.size _).trans (a2.mono (by have:=J.size; simp; omega))⟩
    ·have hx:(!iM y[k])=false:=by assumption
     go_roundw
     case rel=>exact ⟨k+1,by omega,by go_num,by rw [iP y k a0,HA.out]; simpa using hx,(J.alloc J.size _).trans (a2.mono (by have:=J.size; simp; omega))⟩
     case measure=>simp [intOf]; omega
   ·have he:k=y.length:=by omega
    subst he;have ha:y.all iM=true:=by have:=HA.out; rwa [ϕ ν] at this
    have a3:=η ha;clear ha;go_wp2;go_ret;exact ⟨aJ (by rw [a3.out]; simp; omega),J⟩
 all_goals
  go_enter Tryz.func127,Tryz.ntmps127
  go_wp2_with (go_at_call 183; refine (hn _).mono ?_; rintro e w3 ⟨rfl,rfl⟩)
  all_goals (go_ret; exact ⟨aJ (by first | (simp; done) | (simp; omega)),ζ⟩)
theorem Eu (y:List A) (v:Value) (bs:List Nat) (w:World) (h:aU w [v] y bs) (hn:y.length≤16777216) (ha:∀ a ∈ y,a.args.length≤16777216):
  Calls Tryz.prog 54 #[v] w (Makes aU y w.heap.size w):=by
 obtain ⟨Ad,cap,rfl,hl,hm⟩:=ak h;obtain ⟨i0,hi,a2,a3,a4⟩:=info_parts sF;clear hm;by_cases h0:y.length=0
 ·have hl:((y.length:Int) == 0)=true:=beq_iff_eq.2 (by omega)
  have hx:y = []:=List.length_eq_zero_iff.1 h0;have HX:=η hx;clear h h0 hx hi a2 a3 a4 ha
  go_enter Tryz.func54,Tryz.ntmps54
  go_wp2;go_ret;exact ⟨ϑ,_,[],rfl,by rw [HX.out]; exact MG _,New.nil _ _⟩
 ·have a8:((y.length:Int) == 0)=false:=beq_eq_false_iff_ne.2 (by omega)
  go_enter Tryz.func54,Tryz.ntmps54
  go_wp2_with (at_make; refine wpList_make_full _ rfl _ _ _ rfl w.heap.size 33 i0 _ 2 Tryz.underlying24 hi a2 a3 _ _ _ _ y.length rfl rfl rfl rfl (by rw [a4]; omega) (by unfold maxLen; omega) ν ?_; intro w1 I J)
  have a5:Below w.heap.size w w1:=ϑ.grown J ν (fun _ e=>by cases e);have a9:w.heap.size < w1.heap.size:=(I.lt _ rfl).2;clear J a8
  go_loopw [14] (fun i wr=>∃ (k:Nat) (L:List Value) (bs':List Nat),k≤y.length∧i=.int .i64 k∧wr.ownsRow w.heap.size 33 2 (.slice (some ⟨w.heap.size,0,none⟩) y.length y.length) y.length L∧
    jX 2 aG w1.heap.size wr L y k bs'∧Below w.heap.size w wr∧w1.heap.size≤wr.heap.size) (fun i _=>y.length - (intOf i).toNat)
  case atStart=>exact ⟨0,_,_,ε,rfl,I,jX.start,a5,ν⟩
  case round=>
   obtain ⟨k,L,bs',hk,rfl,a0,hF,hb,aa⟩:=hrel;clear I a5;by_cases a6:k < y.length
   ·have hw:=au.below h hb
    obtain ⟨b,o,Ae,ce,bk,rfl,_,c0,c1,a7,_⟩:=dJ hw a6;have ab:y[k].args.length≤16777216:=ha _ (δ _);have HK:=η hF;have ac:(0:Int)≤(k:Int):=by omega
    have ae:(k:Int) < (y.length:Int):=by omega
    clear h hw hF ha;have hL:=η a0.1;have hA:Below wr.heap.size wr (wr.alloc (.cells #[.string y[k].name,.slice Ae y[k].args.length ce] 33)):=ζ;have hc:=GX y[k] _ _ bk _ (aj.below a7 hA) ab
    go_wp2_with fail
    refine hc.mono ?_;rintro e w' ⟨a1,af,b2,rfl,hR,hN⟩;obtain ⟨ag,am,rfl⟩:=AA hR;have hB:=hA.trans (a1.mono hA.size);have U:=own_below a0 hB;obtain ⟨⟨u0,ao⟩,ap⟩:=IJ U (j:=k * 2) (by omega);obtain ⟨⟨u1,aq⟩,ar⟩:=IJ U (j:=k * 2+1) (by omega);obtain ⟨R1,R2,R3,R4⟩:=Xn aj a0 HK.out a6 hb hB a9 ν aa hR (hN.mono hA.size);clear U a7 hR hN hc;go_wp2;go_roundw
    case rel=>exact ⟨k+1,_,_,by omega,by go_num,R1,R2,R3,R4⟩
    case measure=>simp [intOf]; omega
   ·have he:k=y.length:=by omega
    subst he;have HF:=η hF;clear hF;go_wp2;go_ret;obtain ⟨b2,r1,r2,r3,r4⟩:=HF.out.slice a0 (fun hm=>by have:=(HF.out.new.own _ hm).1; omega);refine ⟨hb,_,b2,rfl,r1,r2,fun b a1=>⟨?_,r4 b a1⟩⟩
    rcases r3 b a1 with ⟨rfl,h⟩ | h
    ·exact h
    ·have:=(HF.out.new.own b h).1; omega
end
section
open Go.RowKit D
attribute [local go_sem ↓] Go.wp_at_zero Go.wp_at_succ
theorem Pz (xs:List A) (a:A) (v U d1:Value) (bs b2:List Nat) (w:World) (h:aU w [v] xs bs) (I:aG w [U,d1] a b2) (hs:fK xs=true):
  Calls Tryz.prog 141 #[v,.agg #[U,d1]] w fun e w'=>e=.returned (.bool (hasB xs a))∧Below w.heap.size w w':=by
 obtain ⟨Ad,cap,rfl,hl,hm⟩:=ak h;obtain ⟨Aa,ca,rfl,rfl⟩:=aY I;have y:Below w.heap.size w (w.alloc (.cells #[.string a.name,.slice Aa a.args.length ca] 33)):=ζ;have hk:=vV xs a _ _ _ bs b2 _ (au.below h y) (aj.below I y) hs;clear h I hm
 go_enter Tryz.func141,Tryz.ntmps141
 go_wp2_with fail
 refine hk.mono ?_;rintro e w1 ⟨rfl,J⟩;go_wp2;go_ret;exact ⟨rfl,y.trans (J.mono y.size)⟩
theorem Nl (y:List A) (v:Value) (bs:List Nat) (w:World) (h:aU w [v] y bs) (hn:y.length≤100000000000) (ha:∀ a ∈ y,a.args.length≤16777216):
  Calls Tryz.prog 108 #[v] w fun e w'=>Below w.heap.size w w'∧∃ v bs,e=.returned v∧aU w' [v] y bs∧∀ c ∈ bs,w.heap.size≤c:=by
 obtain ⟨Ad,cap,rfl,hl,hm⟩:=ak h;obtain ⟨i0,hi,ag,am,ao⟩:=info_parts sF;clear hm;have hA:Below w.heap.size w (w.alloc (.cells #[] 33)):=ζ;have a6:=aZ.empty (n:=2) (R:=aG) (e:=33) (ω w (.cells #[] 33)) (Nat.le_refl w.heap.size)
 go_enter Tryz.func108,Tryz.ntmps108
 go_wp2
 go_loopw [3,4] (fun v i wr=>∃ (k:Nat) (A:Option Addr) (cp:Nat) (L:List Value) (b2:List Nat),k≤y.length∧i=.int .i64 k∧v=.slice A k cp∧aZ 2 aG w.heap.size 33 wr (.slice A k cp) L (y.take k) b2∧Hid (∀ c ∈ b2,w.heap.size≤c)∧Below w.heap.size w wr) (fun _ i _=>y.length - (intOf i).toNat)
 case atStart=>exact ⟨0,_,_,_,_,ε,rfl,rfl,a6,η (fun c hc=>by cases hc),hA⟩
 case round=>
  obtain ⟨k,A,cp,L,b2,hk,rfl,rfl,hC,a7,hb⟩:=hrel;clear a6 hA;by_cases a3:k < y.length
  ·have a8:=η a3
   obtain ⟨b,o,Ae,ce,bk,rfl,_,c0,c1,a9,_⟩:=dJ (au.below h hb) a3;have ap:y[k].args.length≤16777216:=ha _ (δ _);have aE:(0:Int)≤(k:Int):=by omega
   have aL:(k:Int) < (y.length:Int):=by omega
   have HT:Hid (y.take (k+1)=y.take k ++ [y[k]]):=η (ρ a3);have hc:=MX y[k] _ _ bk _ a9 ap;have HC:=η hC;clear h ha hC
   go_wp2_with fail
   refine hc.mono ?_;rintro e w1 ⟨aa,aM,b3,rfl,hR,hN⟩;obtain ⟨J,U,rfl⟩:=AA hR;clear a9 hc;have hlen:(y.take k).length=k:=by rw [List.length_take]; omega
   have a4:Below wr.heap.size wr (w1.alloc (.cells #[.string y[k].name,.slice J y[k].args.length U] 33)):=aa.alloc aa.size _;have aq:Below w1.heap.size w1 (w1.alloc (.cells #[.string y[k].name,.slice J y[k].args.length U] 33)):=ζ;have a5:=HC.out.below aj a4;have ab:=aj.below hR aq;have hL:Lies (w1.alloc (.cells #[.string y[k].name,.slice J y[k].args.length U] 33)) (some ⟨w1.heap.size,0,none⟩) [.string y[k].name,.slice J y[k].args.length U]:=aS (ω w1 _);have ar:=η a5;have ac:Hid ((w1.alloc (.cells #[.string y[k].name,.slice J y[k].args.length U] 33)).ownsRow w.heap.size 33 2 (.slice A k cp) k L):=η (by have:=a5.own; rw [hlen] at this; exact this);have HL:=η hL;have av:=η ab;have ae:=a4.size;clear a5 hL ab hlen
   go_wp2_with (at_builtin; refine um rfl _ _ _ rfl w.heap.size 33 i0 (.agg #[.string ⟨#[]⟩,.slice none 0 0]) 2 40 Tryz.underlying24 hi ag am ao rfl (by omega) (.slice A k cp) k L rfl ac.out (some ⟨w1.heap.size,0,none⟩) 1 1 [.string y[k].name,.slice J y[k].args.length U] rfl rfl HL.out (by simp [Value.oneCell']) (by unfold maxLen; omega) (by omega) (τ hb.size ae) ?_; intro A2 aw w2 a0 I a1)
   have hlen:(y.take k).length=k:=by rw [List.length_take]; omega
   have a2:∀ b ∈ b3,(Value.slice A k cp).ownBlock ≠ some b:=fun b az=>jM HC.out.own (hN.own b az).1
   have C3:=ar.out.app aj (aQ.dh eU av.out) a2 (by rw [hlen]; exact a0) I a1;have B3:=iE (hb.trans (a4.mono hb.size)) ac.out ν (τ hb.size ae) I;have aD:Hid (∀ c ∈ b2 ++ b3,w.heap.size≤c):=η fun c hc=>(μ.1 hc).elim (a7.out c) fun h=>τ hb.size (hN.own c h).1
   clear a0 I a1 a2 hlen hR hN;have H3:=η C3;clear C3;go_wp2;go_roundw
   case rel=>exact ⟨k+1,A2,aw,_,_,a8.out,by go_num,rfl,by rw [HT.out]; exact H3.out,aD,B3⟩
   case measure=>have:=a8.out; simp [intOf]; omega
  ·have he:k=y.length:=by omega
   subst he;rw [ϕ ν] at hC;obtain ⟨b3,hs,af⟩:=hC.slice;have HS:=η (ι hs fun c hc=>(af c hc).elim id (a7.out c));clear hC hs af;go_wp2;go_ret;exact ⟨hb,_,b3,rfl,HS.out⟩
end
end Go.Proofs.YtkjinanbccloeaaGreatDoor
