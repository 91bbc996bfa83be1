/- Of the proof of FnEvalNeeds: SortP, AllP, ProgP, AGetP, Atom, Copy, AtH, L3. -/
import Derived.Sort.KeysCollected
import Derived.Test.YtkjinanbccloeaaGreatDoorM07
import Derived.Test.YtkjinanbccloeaaGreatDoorM08
set_option linter.unusedVariables false
set_option maxHeartbeats 1000000
namespace Go.Proofs.YtkjinanbccloeaaGreatDoor
namespace D
open Go.RowKit
theorem vN:∀ (l m:List UInt8),l < m ↔ jF qM l m < 0
 | [],[]=>by simp [jF]
 | [],b :: m=>by simp [jF]
 | a :: l,[]=>by simp [jF]
 | a :: l,b :: m=>by
  have e:jF qM (a :: l) (b :: m)=if qM a b=0 then jF qM l m else qM a b:=rfl
  rw [List.cons_lt_cons_iff,vN l m,e];by_cases h:a=b
  ·subst h
   have h0:qM a a=0:=AL.refl a;rw [if_pos h0];simp
  ·have J:¬ qM a b=0:=fun e=>h ((AL.eq a b).1 e)
   rw [if_neg J]
   have h1:a < b ↔ qM a b < 0:=by
    unfold qM;by_cases y:a < b
    ·simp [y]
    ·rw [if_neg y]
     constructor
     ·exact fun I=>absurd I y
     ·intro I; split at I <;> omega
   rw [h1];constructor
   ·rintro (I | ⟨I,_⟩)
    ·exact I
    ·exact absurd I h
   ·exact .inl
theorem VF {x y:List UInt8}:leB x y=true ↔ x≤y:=by simp [leB]
theorem yO (y:List (List UInt8)):(y.mergeSort leB).Pairwise (fun a b=>a≤b):=by
 have I:∀ a b c:List UInt8,leB a b=true→leB b c=true→leB a c=true:=fun a b c h1 J=>by simp only [leB,decide_eq_true_eq] at *; exact List.le_trans h1 J
 have U:∀ a b:List UInt8,(leB a b || leB b a)=true:=fun a b=>by simp only [leB,Bool.or_eq_true,decide_eq_true_eq]; exact List.le_total a b
 exact (List.pairwise_mergeSort I U y).imp fun h=>VF.1 h
theorem I4 {s:List (List UInt8)} (h:s.Pairwise (fun a b=>a≤b)):(Lib.compact s).Pairwise (fun a b=>a < b):=by
 unfold Lib.compact Lib.compactUpTo;have a0:∀ i,i < s.length→s.toArray[i]! = s[i]!:=fun i hi=>by simp
 refine List.pairwise_map.2 ?_;refine ((List.pairwise_lt_range (n:=s.length)).filter _).imp_of_mem ?_;intro i j hi hj a1;have I:=List.mem_filter.1 hj;have y:j < s.length:=List.mem_range.1 I.1;have hk:j=0∨s.toArray[j]! ≠ s.toArray[j - 1]!:=by simpa [Lib.keeps] using I.2
 have J:s.toArray[j]! ≠ s.toArray[j - 1]!:=hk.resolve_left (by omega);have U:=List.pairwise_iff_getElem.1 h;have e1:s.toArray[i]! = s[i]'(by omega):=by rw [getElem!_pos _ _ (by simp; omega)]; simp
 have e2:s.toArray[j]! = s[j]'y:=by rw [getElem!_pos _ _ (by simp; omega)]; simp
 have e3:s.toArray[j - 1]! = s[j - 1]'(by omega):=by rw [getElem!_pos _ _ (by simp; omega)]; simp
 rw [e1,e2];rw [e2,e3] at J
 have h1:s[i]'(by omega)≤s[j - 1]'(by omega):=by
  by_cases e:i=j - 1
  ·subst e; exact List.le_refl _
  ·exact U i (j - 1) (by omega) (by omega) (by omega)
 have h2:s[j - 1]'(by omega)≤s[j]'y:=U (j - 1) j (by omega) y (by omega);have h3:s[i]'(by omega)≤s[j]'y:=List.le_trans h1 h2;rw [← List.not_le];intro h4;exact J (List.le_antisymm (List.le_trans h4 h1) h2)
theorem yP (s:List (List UInt8)) (x:List UInt8):x ∈ Lib.compact s ↔ x ∈ s:=by
 unfold Lib.compact Lib.compactUpTo;constructor
 ·intro h
  obtain ⟨j,y,rfl⟩:=List.mem_map.1 h;have I:j < s.length:=List.mem_range.1 (List.mem_filter.1 y).1;rw [getElem!_pos _ _ (by simpa using I)];simp
 ·intro h
  obtain ⟨j,y,rfl⟩:=List.mem_iff_getElem.1 h
  have J:∀ (j:Nat) (y:j < s.length),∃ i ∈ (List.range s.length).filter (Lib.keeps s.toArray),s.toArray[i]! = s.toArray[j]!:=by
   intro j
   induction j with
   | zero=>intro y; exact ⟨0,List.mem_filter.2 ⟨List.mem_range.2 y,by simp [Lib.keeps]⟩,rfl⟩
   | succ j ih=>
    intro y;by_cases e:s.toArray[j+1]! = s.toArray[j]!
    ·obtain ⟨i,U,he⟩:=ih (by omega)
     exact ⟨i,U,by rw [he,e]⟩
    ·exact ⟨j+1,List.mem_filter.2 ⟨List.mem_range.2 y,by simp only [Lib.keeps,decide_eq_true_eq]; exact .inr e⟩,rfl⟩
  obtain ⟨i,U,he⟩:=J j y;refine List.mem_map.2 ⟨i,U,?_⟩;rw [he,getElem!_pos _ _ (by simpa using y)];simp
theorem LW (s:List (List UInt8)):(Lib.compact s).length≤s.length:=by
 unfold Lib.compact Lib.compactUpTo;rw [List.length_map];exact τ (List.length_filter_le _ _) (by simp)
theorem bytes_inj {a b:ByteArray} (h:a.data.toList=b.data.toList):a=b:=by
 cases a; cases b; simp at h; rw [h]
theorem asc_one {xs ys:List (List UInt8)} (y:xs.Pairwise (fun a b=>a < b)) (I:ys.Pairwise (fun a b=>a < b)) (hm:∀ x,x ∈ xs ↔ x ∈ ys):xs=ys:=by
 have J:xs.Nodup:=y.imp fun {a b} h e=>by subst e; exact List.lt_irrefl _ h
 have U:ys.Nodup:=I.imp fun {a b} h e=>by subst e; exact List.lt_irrefl _ h
 refine List.Perm.eq_of_pairwise (le:=fun a b=>a < b) (fun a b _ _ h1 h2=>absurd (List.lt_trans h1 h2) (List.lt_irrefl _)) y I ((List.perm_ext_iff_of_nodup J U).2 hm)
theorem Cc {I:List (List UInt8)} {xs:List ByteArray} (J:mW xs) (hm:∀ b,b ∈ I ↔ ∃ x ∈ xs,x.data.toList=b):Lib.compact (I.mergeSort fun x y=>decide (x≤y))=xs.map (·.data.toList):=by
 refine asc_one (I4 (yO I)) ?_ ?_
 ·exact List.pairwise_map.2 (J.imp fun {a b} h=>(vN _ _).2 h)
 ·intro b
  rw [yP,(List.mergeSort_perm I leB).mem_iff,hm];simp
def ja (y:List T):List ByteArray:=(y.filter (·.var)).map (·.name)
def jb (ps:List Pt):List ByteArray:=ps.flatMap fun p=>ja p.atom.args
theorem Gl (y:List T) (k:Nat) (h:k < y.length):ja (y.take (k+1))=ja (y.take k) ++ (if y[k].var then [y[k].name] else []):=by
 unfold ja;rw [ρ h,List.filter_append,List.map_append]
 congr 1
 cases hv:y[k].var <;> simp [hv]
theorem Gm (ps:List Pt) (k:Nat) (h:k < ps.length):jb (ps.take (k+1))=jb (ps.take k) ++ ja ps[k].atom.args:=by
 unfold jb;rw [ρ h,List.flatMap_append];simp
theorem I5 (J:List T) (x:ByteArray):x ∈ ja J ↔ jI x J:=by
 unfold ja jI;simp only [List.mem_map,List.mem_filter];constructor
 ·rintro ⟨t,⟨h1,y⟩,I⟩; exact ⟨t,h1,y,I⟩
 ·rintro ⟨t,h1,y,I⟩; exact ⟨t,⟨h1,y⟩,I⟩
theorem I7 (ps:List Pt) (x:ByteArray):x ∈ jb ps ↔ ∃ p ∈ ps,jI x p.atom.args:=by
 unfold jb;simp only [List.mem_flatMap,I5]
theorem yQ (y:List T):(ja y).length≤y.length:=by
 unfold ja; rw [List.length_map]; exact List.length_filter_le _ _
theorem qV:∀ (ps:List Pt),(jb ps).length≤iq (fun p=>p.atom.args.length) ps
 | []=>by simp [jb]
 | p :: ps=>by
  have h1:=qV ps;have y:=yQ p.atom.args;simp only [jb,iq,List.flatMap_cons,χ,List.map_cons,List.sum_cons] at *;omega
theorem Gn (ps:List Pt):Lib.compact (((jb ps).map (·.data.toList)).mergeSort fun x y=>decide (x≤y))=(aC ps).map (·.data.toList):=by
 refine Cc (kW ps mX) fun b=>?_
 simp only [List.mem_map,I7];constructor
 ·rintro ⟨x,h,rfl⟩; exact ⟨x,(fV ps [] x).2 (.inr h),rfl⟩
 ·rintro ⟨x,h,rfl⟩
  refine ⟨x,?_,rfl⟩
  rcases (fV ps [] x).1 h with h | h
  ·simp at h
  ·exact h
def jw (list:List A) (a:A) (b:Bd):List Bd:=list.filterMap fun f=>if (aF a f b).2 then some (aF a f b).1 else none
def EJ (list:List A) (p:Pt) (out:List Bd):List Bd:=if p.no then out else out.flatMap (jw list p.atom)
def vO (list:List A) (body:List Pt):List Bd:=body.foldl (fun out p=>EJ list p out) [[]]
theorem sJ (list:List A) (body:List Pt) (k:Nat) (h:k < body.length):vO list (body.take (k+1))=EJ list body[k] (vO list (body.take k)):=by
 unfold vO;rw [ρ h,List.foldl_append];rfl
theorem LX (list:List A) (a:A) (b:Bd) (j:Nat) (h:j < list.length):jw (list.take (j+1)) a b=jw (list.take j) a b ++ (if (aF a list[j] b).2 then [(aF a list[j] b).1] else []):=by
 unfold jw;rw [ρ h,List.filterMap_append]
 congr 1
 by_cases hm:(aF a list[j] b).2=true
 ·simp [hm]
 ·simp [hm]
theorem EK (list:List A) (a:A) (b:Bd):(jw list a b).length≤list.length:=List.length_filterMap_le _ _
theorem vP {list:List A} {a:A}:∀ (out:List Bd),(out.flatMap (jw list a)).length≤out.length * list.length:=by
 intro out
 induction out with
 | nil=>simp
 | cons b out ih=>
  rw [List.flatMap_cons,χ,List.length_cons,Nat.add_mul,Nat.one_mul];have:=EK list a b;omega
theorem OD (list:List A) (a:A) (out:List Bd) (k:Nat) (h:k < out.length):(out.take (k+1)).flatMap (jw list a)=(out.take k).flatMap (jw list a) ++ jw list a out[k]:=by
 rw [ρ h,List.flatMap_append];simp
theorem OE {list:List A} {p:Pt} {out:List Bd} {n:Nat} (y:list.length≤300) (h:out.length≤300 ^ n):(EJ list p out).length≤300 ^ (n+1):=by
 unfold EJ
 split
 ·exact τ h (Nat.pow_le_pow_right (by omega) (by omega))
 ·refine τ (vP out) ?_
  rw [Nat.pow_succ];exact Nat.mul_le_mul h y
theorem pW:∀ (y fs:List T) (b:Bd),(bV y fs b).1.length≤b.length+y.length
 | [],fs,b=>by cases fs <;> simp [bV]
 | t :: y,[],b=>by simp [bV]
 | t :: y,f :: fs,b=>by
  rw [bV]
  split
  ·split
   ·split
    ·have:=pW y fs b
     simp only [List.length_cons]; omega
    ·simp
   ·have:=pW y fs (b ++ [(t.name,f.name)])
    simp only [χ,List.length_cons,List.length_nil] at this ⊢; omega
  ·split
   ·have:=pW y fs b
    simp only [List.length_cons]; omega
   ·simp
theorem Ce (a f:A) (b:Bd):(aF a f b).1.length≤b.length+a.args.length:=by
 unfold aF
 split
 ·exact pW _ _ _
 ·simp
theorem LY {list:List A} {a:A} {b y:Bd} (h:y ∈ jw list a b):y.length≤b.length+a.args.length:=by
 unfold jw at h;obtain ⟨f,_,hf⟩:=List.mem_filterMap.1 h
 split at hf
 ·cases hf
  exact Ce a f b
 ·cases hf
def iD (list:List A) (body:List Pt) (b:Bd):Bool:=body.all fun p=>!p.no || !hasB list (bU p.atom b)
def allB (list:List A) (body:List Pt):List Bd:=(vO list body).filter (iD list body)
def jh (r:Ru):List A:=r.head :: r.body.map (·.atom)
def aB (rs:List Ru):List A:=rs.flatMap jh
def eF (ps:List Pt):List A:=ps.map (·.atom)
theorem nZ (rs:List Ru) (k:Nat) (h:k < rs.length):aB (rs.take (k+1))=aB (rs.take k) ++ [rs[k].head] ++ eF rs[k].body:=by
 rw [ρ h]; unfold aB jh eF; simp only [List.flatMap_append,List.flatMap_cons,List.flatMap_nil,List.append_nil,List.append_assoc,List.cons_append,List.nil_append]
theorem qW (ps:List Pt) (k:Nat) (h:k < ps.length):eF (ps.take (k+1))=eF (ps.take k) ++ [ps[k].atom]:=by
 rw [ρ h]; unfold eF; simp only [List.map_append,List.map_cons,List.map_nil]
theorem lg (ps:List Pt):(eF ps).length=ps.length:=by unfold eF; simp
def jP (st:List ByteArray × (ByteArray→Int) × Bool) (a:A):List ByteArray × (ByteArray→Int) × Bool:=
 if a.name ∈ st.1∧st.2.1 a.name ≠ a.args.length then (st.1,st.2.1,false) else (dG st.1 a.name,fun t=>if t=a.name then a.args.length else st.2.1 t,st.2.2)
def bZ (xs:List A):List ByteArray × (ByteArray→Int) × Bool:=xs.foldl jP ([],fun _=>0,true)
theorem uG (xs:List A) (a:A):bZ (xs ++ [a])=jP (bZ xs) a:=by unfold bZ; rw [List.foldl_append]; rfl
def jy (xs:List A):Bool:=xs.all fun a=>xs.all fun b=>decide (a.name=b.name→a.args.length=b.args.length)
theorem ny (xs:List A):(∀ s,s ∈ (bZ xs).1 ↔ ∃ a ∈ xs,a.name=s)∧(bZ xs).1.length≤xs.length∧(∀ s ∈ (bZ xs).1,∃ a ∈ xs,a.name=s∧(bZ xs).2.1 s=a.args.length)∧
  ((bZ xs).2.2=true ↔ ∀ a ∈ xs,(bZ xs).2.1 a.name=a.args.length):=by
 have U:∀ (n:Nat) (xs:List A),xs.length=n→(∀ s,s ∈ (bZ xs).1 ↔ ∃ a ∈ xs,a.name=s)∧(bZ xs).1.length≤xs.length∧(∀ s ∈ (bZ xs).1,∃ a ∈ xs,a.name=s∧(bZ xs).2.1 s=a.args.length)∧
   ((bZ xs).2.2=true ↔ ∀ a ∈ xs,(bZ xs).2.1 a.name=a.args.length):=by
  intro n
  induction n with
  | zero=>
   intro xs J;obtain rfl:=List.length_eq_zero_iff.1 J;exact ⟨fun s=>by simp [bZ],ν,fun s h=>by simp [bZ] at h,by simp [bZ]⟩
  | succ n ih=>
   intro xs J
   obtain ⟨ys,a,rfl⟩:∃ ys a,xs=ys ++ [a]:=by
    rcases List.eq_nil_or_concat xs with rfl | ⟨ys,a,rfl⟩
    ·simp at J
    ·exact ⟨ys,a,by simp⟩
   obtain ⟨i1,i0,i2,i3⟩:=ih ys (by simpa using J);rw [uG];by_cases hc:a.name ∈ (bZ ys).1∧(bZ ys).2.1 a.name ≠ a.args.length
   ·have e:jP (bZ ys) a=((bZ ys).1,(bZ ys).2.1,false):=by unfold jP; rw [if_pos hc]
    rw [e];refine ⟨fun s=>⟨fun h=>?_,fun h=>?_⟩,by simp; omega,fun s h=>?_,⟨fun h=>by simp at h,fun h=>absurd (h a (by simp)) hc.2⟩⟩
    ·obtain ⟨b,y,e⟩:=(i1 s).1 h
     exact ⟨b,by simp [y],e⟩
    ·obtain ⟨b,y,e⟩:=h
     rcases μ.1 y with y | y
     ·exact (i1 s).2 ⟨b,y,e⟩
     ·rw [List.mem_singleton.1 y] at e
      rw [← e]; exact hc.1
    ·obtain ⟨b,y,e⟩:=i2 s h
     exact ⟨b,by simp [y],e⟩
   ·have e:jP (bZ ys) a=(dG (bZ ys).1 a.name,fun t=>if t=a.name then (a.args.length:Int) else (bZ ys).2.1 t,(bZ ys).2.2):=by unfold jP; rw [if_neg hc]
    rw [e];refine ⟨fun s=>?_,?_,fun s h=>?_,?_⟩
    ·rw [dw,i1 s]
     simp only [μ,List.mem_singleton];constructor
     ·rintro (⟨b,y,e⟩ | rfl)
      ·exact ⟨b,.inl y,e⟩
      ·exact ⟨a,.inr rfl,rfl⟩
     ·rintro ⟨b,y | rfl,e'⟩
      ·exact .inl ⟨b,y,e'⟩
      ·exact .inr e'.symm
    ·have:(dG (bZ ys).1 a.name).length≤(bZ ys).1.length+1:=by unfold dG; split <;> simp
     simp; omega
    ·dsimp only
     by_cases es:s=a.name
     ·exact ⟨a,by simp,es.symm,by rw [if_pos es]⟩
     ·rw [if_neg es]
      obtain ⟨b,y,e⟩:=i2 s ((dw.1 h).resolve_right es);exact ⟨b,by simp [y],e⟩
    ·dsimp only
     rw [i3];constructor
     ·intro h b y
      by_cases I:b.name=a.name
      ·rw [if_pos I]
       rcases μ.1 y with y | y
       ·have h1:a.name ∈ (bZ ys).1:=(i1 _).2 ⟨b,y,I⟩
        have h2:(bZ ys).2.1 a.name=a.args.length:=Classical.byContradiction fun h=>hc ⟨h1,h⟩
        have h3:=h b y;rw [I] at h3;rw [← h2,h3]
       ·rw [List.mem_singleton.1 y]
      ·rw [if_neg I]
       rcases μ.1 y with y | y
       ·exact h b y
       ·rw [List.mem_singleton.1 y] at I; exact absurd rfl I
     ·intro h b y
      have h0:=h b (by simp [y]);by_cases I:b.name=a.name
      ·have h1:a.name ∈ (bZ ys).1:=(i1 _).2 ⟨b,y,I⟩
       have h2:(bZ ys).2.1 a.name=a.args.length:=Classical.byContradiction fun h=>hc ⟨h1,h⟩
       rw [if_pos I] at h0;rw [I,h2,h0]
      ·rw [if_neg I] at h0
       exact h0
 exact U _ xs rfl
theorem yR (xs:List A):(bZ xs).2.2=jy xs:=by
 obtain ⟨i1,_,i2,J⟩:=ny xs;refine Bool.eq_iff_iff.2 (J.trans ?_);unfold jy;simp only [List.all_eq_true,decide_eq_true_eq];constructor
 ·intro h a ha b y e
  have h1:=h a ha;have I:=h b y;rw [e,I] at h1;exact_mod_cast h1.symm
 ·intro h a ha
  obtain ⟨b,y,e,I⟩:=i2 a.name ((i1 _).2 ⟨a,ha,rfl⟩);rw [I,h b y a ha e]
theorem I8 {xs:List A} (h:jy xs=true) {a:A} (ha:a ∈ xs):(bZ xs).2.1 a.name=a.args.length:=(ny xs).2.2.2.1 (by rw [yR]; exact h) a ha
theorem I9 {xs:List A} {m:Nat} (h:∀ a ∈ xs,a.args.length≤m) {s:ByteArray} (y:s ∈ (bZ xs).1):0≤(bZ xs).2.1 s∧(bZ xs).2.1 s≤m:=by
 obtain ⟨a,ha,_,e⟩:=(ny xs).2.2.1 s y;have:=h a ha;omega
def clash (a b:A):Bool:=decide (a.name=b.name) && decide (a.args.length ≠ b.args.length)
theorem yS (xs:List A):jy xs = !(xs.any fun a=>xs.any fun b=>clash a b):=by
 unfold jy clash;simp only [List.all_eq_not_any_not]
 congr 2
 funext a
 simp only [Bool.not_not]
 congr 1
 funext b
 by_cases h1:a.name=b.name <;> by_cases y:a.args.length=b.args.length <;> simp [h1,y]
theorem LZ (a b:A):clash a b=clash b a:=by
 unfold clash;rw [decide_eq_decide.2 (eq_comm:a.name=b.name ↔ b.name=a.name),decide_eq_decide.2 (ne_comm:a.args.length ≠ b.args.length ↔ b.args.length ≠ a.args.length)]
theorem L6 (a:A):clash a a=false:=by simp [clash]
theorem OG {xs:List A} (h:∀ i,(y:i < xs.length)→∀ k,(I:k < i)→clash xs[i] (xs[k]'(by omega))=false):jy xs=true:=by
 rw [yS];simp only [Bool.not_eq_true',List.any_eq_false,Bool.not_eq_true];intro a ha b J;obtain ⟨i,y,rfl⟩:=List.mem_iff_getElem.1 ha;obtain ⟨k,I,rfl⟩:=List.mem_iff_getElem.1 J
 rcases Nat.lt_trichotomy i k with h1 | h1 | h1
 ·rw [LZ]; exact h k I i h1
 ·subst h1; exact L6 _
 ·exact h i y k h1
theorem Q9 {xs:List A} {i k:Nat} (y:i < xs.length) (I:k < xs.length) (h:clash xs[i] xs[k]=true):jy xs=false:=by
 rw [yS];simp only [Bool.not_eq_false',List.any_eq_true];exact ⟨_,δ y,_,δ I,h⟩
def dJ (rs:List Ru):Nat:=
 if rs.all dM=false then 1 else if 8 < rs.length then 2 else if jy (aB rs)=false then 3 else if (rs.all fun r=>dW r.head r.body)=false then 4 else if kP rs=true then 5 else 0
theorem Ja (rs:List Ru):dJ rs≤5:=by unfold dJ; repeat (first | omega | split)
structure Fine (rs:List Ru):Prop where
 ok:rs.all dM=true
 few:rs.length≤8
 alike:jy (aB rs)=true
 tight:(rs.all fun r=>dW r.head r.body)=true
 no:kP rs=false
theorem lG (rs:List Ru):dJ rs=0 ↔ Fine rs:=by
 unfold dJ;constructor
 ·intro h
  split at h
  ·omega
  ·rename_i h1
   split at h
   ·omega
   ·rename_i U
    split at h
    ·omega
    ·rename_i y
     split at h
     ·omega
     ·rename_i I
      split at h
      ·omega
      ·rename_i J
       exact ⟨by simpa using h1,by omega,by simpa using y,by simpa using I,by simpa using J⟩
 ·rintro ⟨h1,U,y,I,J⟩
  rw [if_neg (by simp [h1]),if_neg (by omega),if_neg (by simp [y]),if_neg (by simp [I]),if_neg (by simp [J])]
theorem jA {r:Ru} (h:dM r=true):r.body.length≤4∧(∀ a ∈ jh r,aX a=true)∧∀ a ∈ jh r,a.args.length≤3:=by
 unfold dM nO at h;simp only [ο,decide_eq_true_eq,List.all_eq_true] at h
 have h1:∀ a ∈ jh r,aX a=true:=fun a ha=>by
  unfold jh at ha
  rcases List.mem_cons.1 ha with rfl | ha
  ·exact h.2
  ·obtain ⟨p,y,rfl⟩:=List.mem_map.1 ha
   exact h.1.2 p y
 exact ⟨h.1.1,h1,fun a ha=>by
  have:=h1 a ha;unfold aX at this;simp only [ο,decide_eq_true_eq] at this
  exact this.1.2⟩
theorem vS {rs:List Ru} {a:A} (h:a ∈ aB rs):∃ r ∈ rs,a ∈ jh r:=by
 obtain ⟨r,hr,ha⟩:=List.mem_flatMap.1 h;exact ⟨r,hr,ha⟩
theorem jc {rs:List Ru} (h:rs.all dM=true):(∀ a ∈ aB rs,a.args.length≤3)∧(aB rs).length≤5 * rs.length:=by
 refine ⟨fun a ha=>?_,?_⟩
 ·obtain ⟨r,hr,ha⟩:=vS ha
  exact (jA (List.all_eq_true.1 h r hr)).2.2 a ha
 ·unfold aB
  induction rs with
  | nil=>simp
  | cons r rs ih=>
   simp only [List.all_cons,ο] at h;have h1:=(jA h.1).1;have y:=ih h.2;simp only [List.flatMap_cons,χ,List.length_cons,jh,List.length_map] at *;omega
end D
namespace D
open Go.RowKit Go.Lib
def xO (s:ByteArray):T:=⟨qF s,s⟩
def Rf:A:=⟨⟨#[]⟩,[]⟩
def Ci (nm inner:List UInt8):A:=⟨toB nm,if inner = [] then [] else (ni 44 inner).map fun w=>xO (toB w)⟩
def Wj (t:List UInt8):A × Bool:=if 1500 < t.length then (Rf,false) else
 if (cut t [40]).2.2=true∧(cut t [40]).2.1.getLast? = some 41 then (if aX (Ci (cut t [40]).1 (cut t [40]).2.1.dropLast) then (Ci (cut t [40]).1 (cut t [40]).2.1.dropLast,true) else (Rf,false)) else (Rf,false)
theorem Cj:∀ (y:List (List UInt8)),kK (y.map fun w=>xO (toB w))=joinL 44 y:=by
 have J:∀ (y:List (List UInt8)) (n:Nat),((y.map fun w=>xO (toB w)).zipIdx n).flatMap (fun x=>(if x.2=0 then [] else [44]) ++ x.1.name.data.toList)=(if n=0 then joinL 44 y else if y = [] then [] else 44 :: joinL 44 y):=by
  intro y
  induction y with
  | nil=>intro n; split <;> rfl
  | cons p ps ih=>
   intro n;rw [List.map_cons,List.zipIdx_cons,List.flatMap_cons,ih (n+1),if_neg (Nat.succ_ne_zero n)]
   cases ps with
   | nil=>
    by_cases I:n=0
    ·subst I; simp [joinL,xO,toB]
    ·simp [I,joinL,xO,toB]
   | cons q r=>
    by_cases I:n=0
    ·subst I; simp [joinL,xO,toB]
    ·simp [I,joinL,xO,toB]
 intro y;have:=J y 0;simpa [kK] using this
theorem Gp (c:UInt8) (h:low c=true):c ≠ 40∧c ≠ 41∧c ≠ 44∧c ≠ 32:=by
 refine ⟨?_,?_,?_,?_⟩ <;> (intro e; subst e; exact absurd h (by decide))
theorem Rh {s:ByteArray} (h:gZ s=true):(40:UInt8) ∉ s.data.toList:=by
 unfold gZ at h;simp only [ο] at h;intro hm;exact (Gp _ (List.all_eq_true.1 h.1.2 _ hm)).1 rfl
end D
section
open Go.RowKit D
theorem qX (a:A) (c0 c1:Value) (bs:List Nat) (w:World) (h:aI w [c0,c1] a bs):
  Calls Tryz.prog 200 #[.agg #[c0,c1]] w fun e w'=>e=.returned (.bool (aX a))∧Below w.heap.size w w':=by
 obtain ⟨s,a1,U,ht⟩:=h;simp only [List.cons.injEq,and_true] at a1;obtain ⟨rfl,rfl⟩:=a1;obtain ⟨Ad,cap,rfl,hl,hm⟩:=ak ht;have a5:=aA (τ hl hm);clear hm;have hn:=fun w=>yF a.name w U
 unfold aX;obtain ⟨nm,y⟩:=a;dsimp only at *;generalize gZ nm=b at *
 go_enter Tryz.func200,Tryz.ntmps200
 go_wp2
 go_loopw [3] (fun i wr=>∃ k:Nat,k≤y.length∧i=.int .i64 k∧(y.take k).all iI=true∧Below w.heap.size w wr∧wr.cell? ⟨w.heap.size,0,none⟩=some (.string nm)∧wr.cell? ⟨w.heap.size,1,none⟩=some (.slice Ad y.length cap)∧w.heap.size < wr.heap.size) (fun i _=>y.length - (intOf i).toNat)
 case atStart=>exact ⟨0,ε,rfl,rfl,ζ,by simp,by simp,by simp⟩
 case round=>
  obtain ⟨k,hk,rfl,J,hb,a2,a3,a6⟩:=hrel;have HA:=η J;clear J;by_cases a0:k < y.length
  ·have hw:=aN.below ht hb
   obtain ⟨b0,o,rfl,_,d0,d1,U⟩:=dU hw a0;have HT:=η ht;clear ht hw
   go_wp2_with (go_at_call 261; refine (LK _ _ U).mono ?_; rintro e w' ⟨rfl,I⟩)
   ·have hx:(!iI y[k])=true:=by assumption
    go_ret;exact ⟨aH (by rw [rY y k a0 (by simpa using hx)]; simp),hb.trans (I.mono (by omega))⟩
   ·have hx:(!iI y[k])=false:=by assumption
    go_roundw
    case rel=>exact ⟨k+1,by omega,by go_num,by rw [iJ y k a0,HA.out]; simpa using hx,hb.trans (I.mono (by omega)),ξ I a2,ξ I a3,by have:=I.size; omega⟩
    case measure=>simp [intOf]; omega
  ·have he:k=y.length:=by omega
   subst he;have ha:y.all iI=true:=by have:=HA.out; rwa [ϕ ν] at this
   have a4:=η ha;clear ha;cases b
   all_goals
    go_wp2_with (go_at_call 262; refine (hn _).mono ?_; rintro e w3 ⟨rfl,rfl⟩)
    go_ret;exact ⟨aH (by rw [a4.out]; first | (simp; done) | (rw [Bool.eq_iff_iff]; simp; omega)),hb⟩
theorem qY (a:A) (c0 c1:Value) (bs:List Nat) (w:World) (h:aI w [c0,c1] a bs):
  Calls Tryz.prog 127 #[.agg #[c0,c1]] w fun e w'=>e=.returned (.bool (aX a))∧Below w.heap.size w w':=by
 obtain ⟨s,a1,U,ht⟩:=h;simp only [List.cons.injEq,and_true] at a1;obtain ⟨rfl,rfl⟩:=a1;obtain ⟨Ad,cap,rfl,hl,hm⟩:=ak ht;have a4:=aA (τ hl hm);clear hm;have hn:=fun w=>yG a.name w U
 unfold aX;obtain ⟨nm,y⟩:=a;dsimp only at *;generalize gZ nm=b at *;by_cases h3:y.length≤3
 all_goals cases b
 case pos.true=>
  go_enter Tryz.func127,Tryz.ntmps127
  go_wp2_with (go_at_call 183; refine (hn _).mono ?_; rintro e w3 ⟨rfl,rfl⟩)
  go_loopw [18] (fun i wr=>∃ k:Nat,k≤y.length∧i=.int .i64 k∧(y.take k).all iI=true∧Below w.heap.size w wr) (fun i _=>y.length - (intOf i).toNat)
  case atStart=>exact ⟨0,ε,rfl,rfl,ζ⟩
  case round=>
   obtain ⟨k,hk,rfl,I,J⟩:=hrel;have HA:=η I;clear I;by_cases a0:k < y.length
   ·have hw:=aN.below ht J
    obtain ⟨b0,o,rfl,_,d0,d1,U⟩:=dU hw a0;have HT:=η ht;clear ht hw
    go_wp2_with (go_at_call 184; refine (LJ _ _ U).mono ?_; rintro e w' ⟨rfl,a2⟩)
    ·have hx:(!iI y[k])=true:=by assumption
     go_ret;exact ⟨aH (by rw [rY y k a0 (by simpa using hx)]; simp),(J.alloc J.size _).trans (a2.mono (by have:=J.size; simp; omega))⟩
    ·have hx:(!iI y[k])=false:=by assumption
     go_roundw
     case rel=>exact ⟨k+1,by omega,by go_num,by rw [iJ y k a0,HA.out]; simpa using hx,(J.alloc J.size _).trans (a2.mono (by have:=J.size; simp; omega))⟩
     case measure=>simp [intOf]; omega
   ·have he:k=y.length:=by omega
    subst he;have ha:y.all iI=true:=by have:=HA.out; rwa [ϕ ν] at this
    have a3:=η ha;clear ha;go_wp2;go_ret;exact ⟨aH (by rw [a3.out]; simp; omega),J⟩
 all_goals
  go_enter Tryz.func127,Tryz.ntmps127
  go_wp2_with (go_at_call 183; refine (hn _).mono ?_; rintro e w3 ⟨rfl,rfl⟩)
  all_goals (go_ret; exact ⟨aH (by first | (simp; done) | (simp; omega)),ζ⟩)
theorem DZ (y:List A) (v:Value) (bs:List Nat) (w:World) (h:aV w [v] y bs) (hn:y.length≤16777216) (ha:∀ a ∈ y,a.args.length≤16777216):
  Calls Tryz.prog 54 #[v] w (Makes aV y w.heap.size w):=by
 obtain ⟨Ad,cap,rfl,hl,hm⟩:=ak h;obtain ⟨i0,hi,a2,a3,a4⟩:=info_parts sF;clear hm;by_cases h0:y.length=0
 ·have hl:((y.length:Int) == 0)=true:=beq_iff_eq.2 (by omega)
  have hx:y = []:=List.length_eq_zero_iff.1 h0;have HX:=η hx;clear h h0 hx hi a2 a3 a4 ha
  go_enter Tryz.func54,Tryz.ntmps54
  go_wp2;go_ret;exact ⟨ϑ,_,[],rfl,by rw [HX.out]; exact La _,New.nil _ _⟩
 ·have a8:((y.length:Int) == 0)=false:=beq_eq_false_iff_ne.2 (by omega)
  go_enter Tryz.func54,Tryz.ntmps54
  go_wp2_with (at_make; refine wpList_make_full _ rfl _ _ _ rfl w.heap.size 33 i0 _ 2 Tryz.underlying24 hi a2 a3 _ _ _ _ y.length rfl rfl rfl rfl (by rw [a4]; omega) (by unfold maxLen; omega) ν ?_; intro w1 I J)
  have a5:Below w.heap.size w w1:=ϑ.grown J ν (fun _ e=>by cases e);have a9:w.heap.size < w1.heap.size:=(I.lt _ rfl).2;clear J a8
  go_loopw [14] (fun i wr=>∃ (k:Nat) (L:List Value) (bs':List Nat),k≤y.length∧i=.int .i64 k∧wr.ownsRow w.heap.size 33 2 (.slice (some ⟨w.heap.size,0,none⟩) y.length y.length) y.length L∧
    jS 2 aI w1.heap.size wr L y k bs'∧Below w.heap.size w wr∧w1.heap.size≤wr.heap.size) (fun i _=>y.length - (intOf i).toNat)
  case atStart=>exact ⟨0,_,_,ε,rfl,I,jS.start,a5,ν⟩
  case round=>
   obtain ⟨k,L,bs',hk,rfl,a0,hF,hb,aa⟩:=hrel;clear I a5;by_cases a6:k < y.length
   ·have hw:=au.below h hb
    obtain ⟨b,o,Ae,ce,bk,rfl,_,c0,c1,a7,_⟩:=dY hw a6;have ab:y[k].args.length≤16777216:=ha _ (δ _);have HK:=η hF;have ac:(0:Int)≤(k:Int):=by omega
    have ae:(k:Int) < (y.length:Int):=by omega
    clear h hw hF ha;have hL:=η a0.1;have hA:Below wr.heap.size wr (wr.alloc (.cells #[.string y[k].name,.slice Ae y[k].args.length ce] 33)):=ζ;have hc:=Gg y[k] _ _ bk _ (aj.below a7 hA) ab
    go_wp2_with fail
    refine hc.mono ?_;rintro e w' ⟨a1,af,b2,rfl,hR,hN⟩;obtain ⟨ag,am,rfl⟩:=AZ hR;have hB:=hA.trans (a1.mono hA.size);have U:=own_below a0 hB;obtain ⟨⟨u0,ao⟩,ap⟩:=Ic U (j:=k * 2) (by omega);obtain ⟨⟨u1,aq⟩,ar⟩:=Ic U (j:=k * 2+1) (by omega);obtain ⟨R1,R2,R3,R4⟩:=V8 aj a0 HK.out a6 hb hB a9 ν aa hR (hN.mono hA.size);clear U a7 hR hN hc;go_wp2;go_roundw
    case rel=>exact ⟨k+1,_,_,by omega,by go_num,R1,R2,R3,R4⟩
    case measure=>simp [intOf]; omega
   ·have he:k=y.length:=by omega
    subst he;have HF:=η hF;clear hF;go_wp2;go_ret;obtain ⟨b2,r1,r2,r3,r4⟩:=HF.out.slice a0 (fun hm=>by have:=(HF.out.new.own _ hm).1; omega);refine ⟨hb,_,b2,rfl,r1,r2,fun b a1=>⟨?_,r4 b a1⟩⟩
    rcases r3 b a1 with ⟨rfl,h⟩ | h
    ·exact h
    ·have:=(HF.out.new.own b h).1; omega
end
section
open Go.RowKit D
attribute [local go_sem ↓] Go.wp_at_zero Go.wp_at_succ
theorem OH (xs:List A) (a:A) (v U d1:Value) (bs b2:List Nat) (w:World) (h:aV w [v] xs bs) (I:aI w [U,d1] a b2) (hs:gB xs=true):
  Calls Tryz.prog 141 #[v,.agg #[U,d1]] w fun e w'=>e=.returned (.bool (hasB xs a))∧Below w.heap.size w w':=by
 obtain ⟨Ad,cap,rfl,hl,hm⟩:=ak h;obtain ⟨Aa,ca,rfl,rfl⟩:=bI I;have y:Below w.heap.size w (w.alloc (.cells #[.string a.name,.slice Aa a.args.length ca] 33)):=ζ;have hk:=vM xs a _ _ _ bs b2 _ (au.below h y) (aj.below I y) hs;clear h I hm
 go_enter Tryz.func141,Tryz.ntmps141
 go_wp2_with fail
 refine hk.mono ?_;rintro e w1 ⟨rfl,J⟩;go_wp2;go_ret;exact ⟨rfl,y.trans (J.mono y.size)⟩
theorem L8 (y:List A) (v:Value) (bs:List Nat) (w:World) (h:aV w [v] y bs) (hn:y.length≤100000000000) (ha:∀ a ∈ y,a.args.length≤16777216):
  Calls Tryz.prog 108 #[v] w fun e w'=>Below w.heap.size w w'∧∃ v bs,e=.returned v∧aV w' [v] y bs∧∀ c ∈ bs,w.heap.size≤c:=by
 obtain ⟨Ad,cap,rfl,hl,hm⟩:=ak h;obtain ⟨i0,hi,ag,am,ao⟩:=info_parts sF;clear hm;have hA:Below w.heap.size w (w.alloc (.cells #[] 33)):=ζ;have a6:=aW.empty (n:=2) (R:=aI) (e:=33) (ω w (.cells #[] 33)) (Nat.le_refl w.heap.size)
 go_enter Tryz.func108,Tryz.ntmps108
 go_wp2
 go_loopw [3,4] (fun v i wr=>∃ (k:Nat) (A:Option Addr) (cp:Nat) (L:List Value) (b2:List Nat),k≤y.length∧i=.int .i64 k∧v=.slice A k cp∧aW 2 aI w.heap.size 33 wr (.slice A k cp) L (y.take k) b2∧Hid (∀ c ∈ b2,w.heap.size≤c)∧Below w.heap.size w wr) (fun _ i _=>y.length - (intOf i).toNat)
 case atStart=>exact ⟨0,_,_,_,_,ε,rfl,rfl,a6,η (fun c hc=>by cases hc),hA⟩
 case round=>
  obtain ⟨k,A,cp,L,b2,hk,rfl,rfl,hC,a7,hb⟩:=hrel;clear a6 hA;by_cases a3:k < y.length
  ·have a8:=η a3
   obtain ⟨b,o,Ae,ce,bk,rfl,_,c0,c1,a9,_⟩:=dY (au.below h hb) a3;have ap:y[k].args.length≤16777216:=ha _ (δ _);have aE:(0:Int)≤(k:Int):=by omega
   have aL:(k:Int) < (y.length:Int):=by omega
   have HT:Hid (y.take (k+1)=y.take k ++ [y[k]]):=η (ρ a3);have hc:=LQ y[k] _ _ bk _ a9 ap;have HC:=η hC;clear h ha hC
   go_wp2_with fail
   refine hc.mono ?_;rintro e w1 ⟨aa,aM,b3,rfl,hR,hN⟩;obtain ⟨J,U,rfl⟩:=AZ hR;clear a9 hc;have hlen:(y.take k).length=k:=by rw [List.length_take]; omega
   have a4:Below wr.heap.size wr (w1.alloc (.cells #[.string y[k].name,.slice J y[k].args.length U] 33)):=aa.alloc aa.size _;have aq:Below w1.heap.size w1 (w1.alloc (.cells #[.string y[k].name,.slice J y[k].args.length U] 33)):=ζ;have a5:=HC.out.below aj a4;have ab:=aj.below hR aq;have hL:Lies (w1.alloc (.cells #[.string y[k].name,.slice J y[k].args.length U] 33)) (some ⟨w1.heap.size,0,none⟩) [.string y[k].name,.slice J y[k].args.length U]:=aP (ω w1 _);have ar:=η a5;have ac:Hid ((w1.alloc (.cells #[.string y[k].name,.slice J y[k].args.length U] 33)).ownsRow w.heap.size 33 2 (.slice A k cp) k L):=η (by have:=a5.own; rw [hlen] at this; exact this);have HL:=η hL;have av:=η ab;have ae:=a4.size;clear a5 hL ab hlen
   go_wp2_with (at_builtin; refine uf rfl _ _ _ rfl w.heap.size 33 i0 (.agg #[.string ⟨#[]⟩,.slice none 0 0]) 2 40 Tryz.underlying24 hi ag am ao rfl (by omega) (.slice A k cp) k L rfl ac.out (some ⟨w1.heap.size,0,none⟩) 1 1 [.string y[k].name,.slice J y[k].args.length U] rfl rfl HL.out (by simp [Value.oneCell']) (by unfold maxLen; omega) (by omega) (τ hb.size ae) ?_; intro A2 aw w2 a0 I a1)
   have hlen:(y.take k).length=k:=by rw [List.length_take]; omega
   have a2:∀ b ∈ b3,(Value.slice A k cp).ownBlock ≠ some b:=fun b az=>jG HC.out.own (hN.own b az).1
   have C3:=ar.out.app aj (aQ.cu dZ av.out) a2 (by rw [hlen]; exact a0) I a1;have B3:=gK (hb.trans (a4.mono hb.size)) ac.out ν (τ hb.size ae) I;have aD:Hid (∀ c ∈ b2 ++ b3,w.heap.size≤c):=η fun c hc=>(μ.1 hc).elim (a7.out c) fun h=>τ hb.size (hN.own c h).1
   clear a0 I a1 a2 hlen hR hN;have H3:=η C3;clear C3;go_wp2;go_roundw
   case rel=>exact ⟨k+1,A2,aw,_,_,a8.out,by go_num,rfl,by rw [HT.out]; exact H3.out,aD,B3⟩
   case measure=>have:=a8.out; simp [intOf]; omega
  ·have he:k=y.length:=by omega
   subst he;rw [ϕ ν] at hC;obtain ⟨b3,hs,af⟩:=hC.slice;have HS:=η (ι hs fun c hc=>(af c hc).elim id (a7.out c));clear hC hs af;go_wp2;go_ret;exact ⟨hb,_,b3,rfl,HS.out⟩
end
end Go.Proofs.YtkjinanbccloeaaGreatDoor
