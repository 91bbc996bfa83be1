/- Of the proof of FnEval,FnEvalOrder,FnEvalMore: SortP, AllP, ProgP, AGetP, Atom, Copy, AtH, L3. -/
import Derived.Sort.KeysCollected
import Derived.Test.YtkjinanbccloeaaGreatDoorM07
import Derived.Test.YtkjinanbccloeaaGreatDoorM08
set_option linter.unusedVariables false
set_option maxHeartbeats 1000000
namespace Go.Proofs.YtkjinanbccloeaaGreatDoor.D
open Go.RowKit
theorem PE:∀ (l m:List UInt8),l < m ↔ jH qM l m < 0
 | [],[]=>by simp [jH]
 | [],b :: m=>by simp [jH]
 | a :: l,[]=>by simp [jH]
 | a :: l,b :: m=>by
  have e:jH qM (a :: l) (b :: m)=if qM a b=0 then jH qM l m else qM a b:=rfl
  rw [List.cons_lt_cons_iff,PE l m,e];by_cases h:a=b
  ·subst h
   have h0:qM a a=0:=Bf.refl a;rw [if_pos h0];simp
  ·have J:¬ qM a b=0:=fun e=>h ((Bf.eq a b).1 e)
   rw [if_neg J]
   have h1:a < b ↔ qM a b < 0:=by
    unfold qM;by_cases y:a < b
    ·simp [y]
    ·rw [if_neg y]
     constructor
     ·exact fun I=>absurd I y
     ·intro I; split at I <;> omega
   rw [h1];constructor
   ·rintro (I | ⟨I,_⟩)
    ·exact I
    ·exact absurd I h
   ·exact .inl
theorem XJ {x y:List UInt8}:leB x y=true ↔ x≤y:=by simp [leB]
theorem JY (y:List (List UInt8)):(y.mergeSort leB).Pairwise (fun a b=>a≤b):=by
 have I:∀ a b c:List UInt8,leB a b=true→leB b c=true→leB a c=true:=fun a b c h1 J=>by simp only [leB,decide_eq_true_eq] at *; exact List.le_trans h1 J
 have U:∀ a b:List UInt8,(leB a b || leB b a)=true:=fun a b=>by simp only [leB,Bool.or_eq_true,decide_eq_true_eq]; exact List.le_total a b
 exact (List.pairwise_mergeSort I U y).imp fun h=>XJ.1 h
theorem JZ {s:List (List UInt8)} (h:s.Pairwise (fun a b=>a≤b)):(Lib.compact s).Pairwise (fun a b=>a < b):=by
 unfold Lib.compact Lib.compactUpTo;have a0:∀ i,i < s.length→s.toArray[i]! = s[i]!:=fun i hi=>by simp
 refine List.pairwise_map.2 ?_;refine ((List.pairwise_lt_range (n:=s.length)).filter _).imp_of_mem ?_;intro i j hi hj a1;have I:=List.mem_filter.1 hj;have y:j < s.length:=List.mem_range.1 I.1;have hk:j=0∨s.toArray[j]! ≠ s.toArray[j - 1]!:=by simpa [Lib.keeps] using I.2
 have J:s.toArray[j]! ≠ s.toArray[j - 1]!:=hk.resolve_left (by omega);have U:=List.pairwise_iff_getElem.1 h;have e1:s.toArray[i]! = s[i]'(by omega):=by rw [getElem!_pos _ _ (by simp; omega)]; simp
 have e2:s.toArray[j]! = s[j]'y:=by rw [getElem!_pos _ _ (by simp; omega)]; simp
 have e3:s.toArray[j - 1]! = s[j - 1]'(by omega):=by rw [getElem!_pos _ _ (by simp; omega)]; simp
 rw [e1,e2];rw [e2,e3] at J
 have h1:s[i]'(by omega)≤s[j - 1]'(by omega):=by
  by_cases e:i=j - 1
  ·subst e; exact List.le_refl _
  ·exact U i (j - 1) (by omega) (by omega) (by omega)
 have h2:s[j - 1]'(by omega)≤s[j]'y:=U (j - 1) j (by omega) y (by omega);have h3:s[i]'(by omega)≤s[j]'y:=List.le_trans h1 h2;rw [← List.not_le];intro h4;exact J (List.le_antisymm (List.le_trans h4 h1) h2)
theorem zh (s:List (List UInt8)) (x:List UInt8):x ∈ Lib.compact s ↔ x ∈ s:=by
 unfold Lib.compact Lib.compactUpTo;constructor
 ·intro h
  obtain ⟨j,y,rfl⟩:=List.mem_map.1 h;have I:j < s.length:=List.mem_range.1 (List.mem_filter.1 y).1;rw [getElem!_pos _ _ (by simpa using I)];simp
 ·intro h
  obtain ⟨j,y,rfl⟩:=List.mem_iff_getElem.1 h
  have J:∀ (j:Nat) (y:j < s.length),∃ i ∈ (List.range s.length).filter (Lib.keeps s.toArray),s.toArray[i]! = s.toArray[j]!:=by
   intro j
   induction j with
   | zero=>intro y; exact ⟨0,List.mem_filter.2 ⟨List.mem_range.2 y,by simp [Lib.keeps]⟩,rfl⟩
   | succ j ih=>
    intro y;by_cases e:s.toArray[j+1]! = s.toArray[j]!
    ·obtain ⟨i,U,he⟩:=ih (by omega)
     exact ⟨i,U,by rw [he,e]⟩
    ·exact ⟨j+1,List.mem_filter.2 ⟨List.mem_range.2 y,by simp only [Lib.keeps,decide_eq_true_eq]; exact .inr e⟩,rfl⟩
  obtain ⟨i,U,he⟩:=J j y;refine List.mem_map.2 ⟨i,U,?_⟩;rw [he,getElem!_pos _ _ (by simpa using y)];simp
theorem Oj (s:List (List UInt8)):(Lib.compact s).length≤s.length:=by
 unfold Lib.compact Lib.compactUpTo;rw [List.length_map];exact Nat.le_trans (List.length_filter_le _ _) (by simp)
theorem bytes_inj {a b:ByteArray} (h:a.data.toList=b.data.toList):a=b:=by
 cases a; cases b; simp at h; rw [h]
theorem asc_one {xs ys:List (List UInt8)} (y:xs.Pairwise (fun a b=>a < b)) (I:ys.Pairwise (fun a b=>a < b)) (hm:∀ x,x ∈ xs ↔ x ∈ ys):xs=ys:=by
 have J:xs.Nodup:=y.imp fun {a b} h e=>by subst e; exact List.lt_irrefl _ h
 have U:ys.Nodup:=I.imp fun {a b} h e=>by subst e; exact List.lt_irrefl _ h
 refine List.Perm.eq_of_pairwise (le:=fun a b=>a < b) (fun a b _ _ h1 h2=>absurd (List.lt_trans h1 h2) (List.lt_irrefl _)) y I ((List.perm_ext_iff_of_nodup J U).2 hm)
theorem DF {I:List (List UInt8)} {xs:List ByteArray} (J:qP xs) (hm:∀ b,b ∈ I ↔ ∃ x ∈ xs,x.data.toList=b):Lib.compact (I.mergeSort fun x y=>decide (x≤y))=xs.map (·.data.toList):=by
 refine asc_one (JZ (JY I)) ?_ ?_
 ·exact List.pairwise_map.2 (J.imp fun {a b} h=>(PE _ _).2 h)
 ·intro b
  rw [zh,(List.mergeSort_perm I leB).mem_iff,hm];simp
def jd (y:List T):List ByteArray:=(y.filter (·.var)).map (·.name)
def je (ps:List Pt):List ByteArray:=ps.flatMap fun p=>jd p.atom.args
theorem Ip (y:List T) (k:Nat) (h:k < y.length):jd (y.take (k+1))=jd (y.take k) ++ (if y[k].var then [y[k].name] else []):=by
 unfold jd;rw [List.take_succ_eq_append_getElem h,List.filter_append,List.map_append]
 congr 1
 cases hv:y[k].var <;> simp [hv]
theorem Iq (ps:List Pt) (k:Nat) (h:k < ps.length):je (ps.take (k+1))=je (ps.take k) ++ jd ps[k].atom.args:=by
 unfold je;rw [List.take_succ_eq_append_getElem h,List.flatMap_append];simp
theorem J3 (J:List T) (x:ByteArray):x ∈ jd J ↔ jM x J:=by
 unfold jd jM;simp only [List.mem_map,List.mem_filter];constructor
 ·rintro ⟨t,⟨h1,y⟩,I⟩; exact ⟨t,h1,y,I⟩
 ·rintro ⟨t,h1,y,I⟩; exact ⟨t,⟨h1,y⟩,I⟩
theorem J4 (ps:List Pt) (x:ByteArray):x ∈ je ps ↔ ∃ p ∈ ps,jM x p.atom.args:=by
 unfold je;simp only [List.mem_flatMap,J3]
theorem zi (y:List T):(jd y).length≤y.length:=by
 unfold jd; rw [List.length_map]; exact List.length_filter_le _ _
theorem qX:∀ (ps:List Pt),(je ps).length≤iq (fun p=>p.atom.args.length) ps
 | []=>by simp [je]
 | p :: ps=>by
  have h1:=qX ps;have y:=zi p.atom.args;simp only [je,iq,List.flatMap_cons,List.length_append,List.map_cons,List.sum_cons] at *;omega
theorem Ir (ps:List Pt):Lib.compact (((je ps).map (·.data.toList)).mergeSort fun x y=>decide (x≤y))=(aB ps).map (·.data.toList):=by
 refine DF (lg ps qQ) fun b=>?_
 simp only [List.mem_map,J4];constructor
 ·rintro ⟨x,h,rfl⟩; exact ⟨x,(fZ ps [] x).2 (.inr h),rfl⟩
 ·rintro ⟨x,h,rfl⟩
  refine ⟨x,?_,rfl⟩
  rcases (fZ ps [] x).1 h with h | h
  ·simp at h
  ·exact h
def jC (list:List A) (a:A) (b:Bd):List Bd:=list.filterMap fun f=>if (aC a f b).2 then some (aC a f b).1 else none
def Gj (list:List A) (p:Pt) (out:List Bd):List Bd:=if p.no then out else out.flatMap (jC list p.atom)
def wB (list:List A) (body:List Pt):List Bd:=body.foldl (fun out p=>Gj list p out) [[]]
theorem sO (list:List A) (body:List Pt) (k:Nat) (h:k < body.length):wB list (body.take (k+1))=Gj list body[k] (wB list (body.take k)):=by
 unfold wB;rw [List.take_succ_eq_append_getElem h,List.foldl_append];rfl
theorem Ol (list:List A) (a:A) (b:Bd) (j:Nat) (h:j < list.length):jC (list.take (j+1)) a b=jC (list.take j) a b ++ (if (aC a list[j] b).2 then [(aC a list[j] b).1] else []):=by
 unfold jC;rw [List.take_succ_eq_append_getElem h,List.filterMap_append]
 congr 1
 by_cases hm:(aC a list[j] b).2=true
 ·simp [hm]
 ·simp [hm]
theorem Gl (list:List A) (a:A) (b:Bd):(jC list a b).length≤list.length:=List.length_filterMap_le _ _
theorem wC {list:List A} {a:A}:∀ (out:List Bd),(out.flatMap (jC list a)).length≤out.length * list.length:=by
 intro out
 induction out with
 | nil=>simp
 | cons b out ih=>
  rw [List.flatMap_cons,List.length_append,List.length_cons,Nat.add_mul,Nat.one_mul];have:=Gl list a b;omega
theorem QE (list:List A) (a:A) (out:List Bd) (k:Nat) (h:k < out.length):(out.take (k+1)).flatMap (jC list a)=(out.take k).flatMap (jC list a) ++ jC list a out[k]:=by
 rw [List.take_succ_eq_append_getElem h,List.flatMap_append];simp
theorem QF {list:List A} {p:Pt} {out:List Bd} {n:Nat} (y:list.length≤300) (h:out.length≤300 ^ n):(Gj list p out).length≤300 ^ (n+1):=by
 unfold Gj
 split
 ·exact Nat.le_trans h (Nat.pow_le_pow_right (by omega) (by omega))
 ·refine Nat.le_trans (wC out) ?_
  rw [Nat.pow_succ];exact Nat.mul_le_mul h y
theorem qc:∀ (y fs:List T) (b:Bd),(bV y fs b).1.length≤b.length+y.length
 | [],fs,b=>by cases fs <;> simp [bV]
 | t :: y,[],b=>by simp [bV]
 | t :: y,f :: fs,b=>by
  rw [bV]
  split
  ·split
   ·split
    ·have:=qc y fs b
     simp only [List.length_cons]; omega
    ·simp
   ·have:=qc y fs (b ++ [(t.name,f.name)])
    simp only [List.length_append,List.length_cons,List.length_nil] at this ⊢; omega
  ·split
   ·have:=qc y fs b
    simp only [List.length_cons]; omega
   ·simp
theorem DI (a f:A) (b:Bd):(aC a f b).1.length≤b.length+a.args.length:=by
 unfold aC
 split
 ·exact qc _ _ _
 ·simp
theorem Om {list:List A} {a:A} {b y:Bd} (h:y ∈ jC list a b):y.length≤b.length+a.args.length:=by
 unfold jC at h;obtain ⟨f,_,hf⟩:=List.mem_filterMap.1 h
 split at hf
 ·cases hf
  exact DI a f b
 ·cases hf
def iD (list:List A) (body:List Pt) (b:Bd):Bool:=body.all fun p=>!p.no || !hasB list (bK p.atom b)
def allB (list:List A) (body:List Pt):List Bd:=(wB list body).filter (iD list body)
def iV (r:Ru):List A:=r.head :: r.body.map (·.atom)
def aF (rs:List Ru):List A:=rs.flatMap iV
def eu (ps:List Pt):List A:=ps.map (·.atom)
theorem oJ (rs:List Ru) (k:Nat) (h:k < rs.length):aF (rs.take (k+1))=aF (rs.take k) ++ [rs[k].head] ++ eu rs[k].body:=by
 rw [List.take_succ_eq_append_getElem h]; unfold aF iV eu; simp only [List.flatMap_append,List.flatMap_cons,List.flatMap_nil,List.append_nil,List.append_assoc,List.cons_append,List.nil_append]
theorem qY (ps:List Pt) (k:Nat) (h:k < ps.length):eu (ps.take (k+1))=eu (ps.take k) ++ [ps[k].atom]:=by
 rw [List.take_succ_eq_append_getElem h]; unfold eu; simp only [List.map_append,List.map_cons,List.map_nil]
theorem lD (ps:List Pt):(eu ps).length=ps.length:=by unfold eu; simp
def jV (st:List ByteArray × (ByteArray→Int) × Bool) (a:A):List ByteArray × (ByteArray→Int) × Bool:=
 if a.name ∈ st.1∧st.2.1 a.name ≠ a.args.length then (st.1,st.2.1,false) else (fM st.1 a.name,fun t=>if t=a.name then a.args.length else st.2.1 t,st.2.2)
def dD (xs:List A):List ByteArray × (ByteArray→Int) × Bool:=xs.foldl jV ([],fun _=>0,true)
theorem uV (xs:List A) (a:A):dD (xs ++ [a])=jV (dD xs) a:=by unfold dD; rw [List.foldl_append]; rfl
def jD (xs:List A):Bool:=xs.all fun a=>xs.all fun b=>decide (a.name=b.name→a.args.length=b.args.length)
theorem wE (xs:List A):(∀ s,s ∈ (dD xs).1 ↔ ∃ a ∈ xs,a.name=s)∧(dD xs).1.length≤xs.length∧(∀ s ∈ (dD xs).1,∃ a ∈ xs,a.name=s∧(dD xs).2.1 s=a.args.length)∧
  ((dD xs).2.2=true ↔ ∀ a ∈ xs,(dD xs).2.1 a.name=a.args.length):=by
 have U:∀ (n:Nat) (xs:List A),xs.length=n→(∀ s,s ∈ (dD xs).1 ↔ ∃ a ∈ xs,a.name=s)∧(dD xs).1.length≤xs.length∧(∀ s ∈ (dD xs).1,∃ a ∈ xs,a.name=s∧(dD xs).2.1 s=a.args.length)∧
   ((dD xs).2.2=true ↔ ∀ a ∈ xs,(dD xs).2.1 a.name=a.args.length):=by
  intro n
  induction n with
  | zero=>
   intro xs J;obtain rfl:=List.length_eq_zero_iff.1 J;exact ⟨fun s=>by simp [dD],Nat.le_refl _,fun s h=>by simp [dD] at h,by simp [dD]⟩
  | succ n ih=>
   intro xs J
   obtain ⟨ys,a,rfl⟩:∃ ys a,xs=ys ++ [a]:=by
    rcases List.eq_nil_or_concat xs with rfl | ⟨ys,a,rfl⟩
    ·simp at J
    ·exact ⟨ys,a,by simp⟩
   obtain ⟨i1,i0,i2,i3⟩:=ih ys (by simpa using J);rw [uV];by_cases hc:a.name ∈ (dD ys).1∧(dD ys).2.1 a.name ≠ a.args.length
   ·have e:jV (dD ys) a=((dD ys).1,(dD ys).2.1,false):=by unfold jV; rw [if_pos hc]
    rw [e];refine ⟨fun s=>⟨fun h=>?_,fun h=>?_⟩,by simp; omega,fun s h=>?_,⟨fun h=>by simp at h,fun h=>absurd (h a (by simp)) hc.2⟩⟩
    ·obtain ⟨b,y,e⟩:=(i1 s).1 h
     exact ⟨b,by simp [y],e⟩
    ·obtain ⟨b,y,e⟩:=h
     rcases List.mem_append.1 y with y | y
     ·exact (i1 s).2 ⟨b,y,e⟩
     ·rw [List.mem_singleton.1 y] at e
      rw [← e]; exact hc.1
    ·obtain ⟨b,y,e⟩:=i2 s h
     exact ⟨b,by simp [y],e⟩
   ·have e:jV (dD ys) a=(fM (dD ys).1 a.name,fun t=>if t=a.name then (a.args.length:Int) else (dD ys).2.1 t,(dD ys).2.2):=by unfold jV; rw [if_neg hc]
    rw [e];refine ⟨fun s=>?_,?_,fun s h=>?_,?_⟩
    ·rw [iK,i1 s]
     simp only [List.mem_append,List.mem_singleton];constructor
     ·rintro (⟨b,y,e⟩ | rfl)
      ·exact ⟨b,.inl y,e⟩
      ·exact ⟨a,.inr rfl,rfl⟩
     ·rintro ⟨b,y | rfl,e'⟩
      ·exact .inl ⟨b,y,e'⟩
      ·exact .inr e'.symm
    ·have:(fM (dD ys).1 a.name).length≤(dD ys).1.length+1:=by unfold fM; split <;> simp
     simp; omega
    ·dsimp only
     by_cases es:s=a.name
     ·exact ⟨a,by simp,es.symm,by rw [if_pos es]⟩
     ·rw [if_neg es]
      obtain ⟨b,y,e⟩:=i2 s ((iK.1 h).resolve_right es);exact ⟨b,by simp [y],e⟩
    ·dsimp only
     rw [i3];constructor
     ·intro h b y
      by_cases I:b.name=a.name
      ·rw [if_pos I]
       rcases List.mem_append.1 y with y | y
       ·have h1:a.name ∈ (dD ys).1:=(i1 _).2 ⟨b,y,I⟩
        have h2:(dD ys).2.1 a.name=a.args.length:=Classical.byContradiction fun h=>hc ⟨h1,h⟩
        have h3:=h b y;rw [I] at h3;rw [← h2,h3]
       ·rw [List.mem_singleton.1 y]
      ·rw [if_neg I]
       rcases List.mem_append.1 y with y | y
       ·exact h b y
       ·rw [List.mem_singleton.1 y] at I; exact absurd rfl I
     ·intro h b y
      have h0:=h b (by simp [y]);by_cases I:b.name=a.name
      ·have h1:a.name ∈ (dD ys).1:=(i1 _).2 ⟨b,y,I⟩
       have h2:(dD ys).2.1 a.name=a.args.length:=Classical.byContradiction fun h=>hc ⟨h1,h⟩
       rw [if_pos I] at h0;rw [I,h2,h0]
      ·rw [if_neg I] at h0
       exact h0
 exact U _ xs rfl
theorem zk (xs:List A):(dD xs).2.2=jD xs:=by
 obtain ⟨i1,_,i2,J⟩:=wE xs;refine Bool.eq_iff_iff.2 (J.trans ?_);unfold jD;simp only [List.all_eq_true,decide_eq_true_eq];constructor
 ·intro h a ha b y e
  have h1:=h a ha;have I:=h b y;rw [e,I] at h1;exact_mod_cast h1.symm
 ·intro h a ha
  obtain ⟨b,y,e,I⟩:=i2 a.name ((i1 _).2 ⟨a,ha,rfl⟩);rw [I,h b y a ha e]
theorem J5 {xs:List A} (h:jD xs=true) {a:A} (ha:a ∈ xs):(dD xs).2.1 a.name=a.args.length:=(wE xs).2.2.2.1 (by rw [zk]; exact h) a ha
theorem J6 {xs:List A} {m:Nat} (h:∀ a ∈ xs,a.args.length≤m) {s:ByteArray} (y:s ∈ (dD xs).1):0≤(dD xs).2.1 s∧(dD xs).2.1 s≤m:=by
 obtain ⟨a,ha,_,e⟩:=(wE xs).2.2.1 s y;have:=h a ha;omega
def clash (a b:A):Bool:=decide (a.name=b.name) && decide (a.args.length ≠ b.args.length)
theorem nZ (xs:List A):jD xs = !(xs.any fun a=>xs.any fun b=>clash a b):=by
 unfold jD clash;simp only [List.all_eq_not_any_not]
 congr 2
 funext a
 simp only [Bool.not_not]
 congr 1
 funext b
 by_cases h1:a.name=b.name <;> by_cases y:a.args.length=b.args.length <;> simp [h1,y]
theorem Oo (a b:A):clash a b=clash b a:=by
 unfold clash;rw [decide_eq_decide.2 (eq_comm:a.name=b.name ↔ b.name=a.name),decide_eq_decide.2 (ne_comm:a.args.length ≠ b.args.length ↔ b.args.length ≠ a.args.length)]
theorem Oq (a:A):clash a a=false:=by simp [clash]
theorem QG {xs:List A} (h:∀ i,(y:i < xs.length)→∀ k,(I:k < i)→clash xs[i] (xs[k]'(by omega))=false):jD xs=true:=by
 rw [nZ];simp only [Bool.not_eq_true',List.any_eq_false,Bool.not_eq_true];intro a ha b J;obtain ⟨i,y,rfl⟩:=List.mem_iff_getElem.1 ha;obtain ⟨k,I,rfl⟩:=List.mem_iff_getElem.1 J
 rcases Nat.lt_trichotomy i k with h1 | h1 | h1
 ·rw [Oo]; exact h k I i h1
 ·subst h1; exact Oq _
 ·exact h i y k h1
theorem Um {xs:List A} {i k:Nat} (y:i < xs.length) (I:k < xs.length) (h:clash xs[i] xs[k]=true):jD xs=false:=by
 rw [nZ];simp only [Bool.not_eq_false',List.any_eq_true];exact ⟨_,List.getElem_mem y,_,List.getElem_mem I,h⟩
def dQ (rs:List Ru):Nat:=
 if rs.all dM=false then 1 else if 8 < rs.length then 2 else if jD (aF rs)=false then 3 else if (rs.all fun r=>dY r.head r.body)=false then 4 else if kT rs=true then 5 else 0
theorem J7 (rs:List Ru):dQ rs≤5:=by unfold dQ; repeat (first | omega | split)
structure Fine (rs:List Ru):Prop where
 ok:rs.all dM=true
 few:rs.length≤8
 alike:jD (aF rs)=true
 tight:(rs.all fun r=>dY r.head r.body)=true
 no:kT rs=false
theorem jU (rs:List Ru):dQ rs=0 ↔ Fine rs:=by
 unfold dQ;constructor
 ·intro h
  split at h
  ·omega
  ·rename_i h1
   split at h
   ·omega
   ·rename_i U
    split at h
    ·omega
    ·rename_i y
     split at h
     ·omega
     ·rename_i I
      split at h
      ·omega
      ·rename_i J
       exact ⟨by simpa using h1,by omega,by simpa using y,by simpa using I,by simpa using J⟩
 ·rintro ⟨h1,U,y,I,J⟩
  rw [if_neg (by simp [h1]),if_neg (by omega),if_neg (by simp [y]),if_neg (by simp [I]),if_neg (by simp [J])]
theorem kF {r:Ru} (h:dM r=true):r.body.length≤4∧(∀ a ∈ iV r,aX a=true)∧∀ a ∈ iV r,a.args.length≤3:=by
 unfold dM mF at h;simp only [Bool.and_eq_true,decide_eq_true_eq,List.all_eq_true] at h
 have h1:∀ a ∈ iV r,aX a=true:=fun a ha=>by
  unfold iV at ha
  rcases List.mem_cons.1 ha with rfl | ha
  ·exact h.2
  ·obtain ⟨p,y,rfl⟩:=List.mem_map.1 ha
   exact h.1.2 p y
 exact ⟨h.1.1,h1,fun a ha=>by
  have:=h1 a ha;unfold aX at this;simp only [Bool.and_eq_true,decide_eq_true_eq] at this
  exact this.1.2⟩
theorem wF {rs:List Ru} {a:A} (h:a ∈ aF rs):∃ r ∈ rs,a ∈ iV r:=by
 obtain ⟨r,hr,ha⟩:=List.mem_flatMap.1 h;exact ⟨r,hr,ha⟩
theorem kQ {rs:List Ru} (h:rs.all dM=true):(∀ a ∈ aF rs,a.args.length≤3)∧(aF rs).length≤5 * rs.length:=by
 refine ⟨fun a ha=>?_,?_⟩
 ·obtain ⟨r,hr,ha⟩:=wF ha
  exact (kF (List.all_eq_true.1 h r hr)).2.2 a ha
 ·unfold aF
  induction rs with
  | nil=>simp
  | cons r rs ih=>
   simp only [List.all_cons,Bool.and_eq_true] at h;have h1:=(kF h.1).1;have y:=ih h.2;simp only [List.flatMap_cons,List.length_append,List.length_cons,iV,List.length_map] at *;omega
end Go.Proofs.YtkjinanbccloeaaGreatDoor.D
namespace Go.Proofs.YtkjinanbccloeaaGreatDoor.D
open Go.RowKit Go.Lib
def yu (s:ByteArray):T:=⟨qI s,s⟩
def Un:A:=⟨⟨#[]⟩,[]⟩
def DJ (nm inner:List UInt8):A:=⟨toB nm,if inner = [] then [] else (nI 44 inner).map fun w=>yu (toB w)⟩
def Yl (t:List UInt8):A × Bool:=if 1500 < t.length then (Un,false) else
 if (cut t [40]).2.2=true∧(cut t [40]).2.1.getLast? = some 41 then (if aX (DJ (cut t [40]).1 (cut t [40]).2.1.dropLast) then (DJ (cut t [40]).1 (cut t [40]).2.1.dropLast,true) else (Un,false)) else (Un,false)
theorem DK:∀ (y:List (List UInt8)),kN (y.map fun w=>yu (toB w))=joinL 44 y:=by
 have J:∀ (y:List (List UInt8)) (n:Nat),((y.map fun w=>yu (toB w)).zipIdx n).flatMap (fun x=>(if x.2=0 then [] else [44]) ++ x.1.name.data.toList)=(if n=0 then joinL 44 y else if y = [] then [] else 44 :: joinL 44 y):=by
  intro y
  induction y with
  | nil=>intro n; split <;> rfl
  | cons p ps ih=>
   intro n;rw [List.map_cons,List.zipIdx_cons,List.flatMap_cons,ih (n+1),if_neg (Nat.succ_ne_zero n)]
   cases ps with
   | nil=>
    by_cases I:n=0
    ·subst I; simp [joinL,yu,toB]
    ·simp [I,joinL,yu,toB]
   | cons q r=>
    by_cases I:n=0
    ·subst I; simp [joinL,yu,toB]
    ·simp [I,joinL,yu,toB]
 intro y;have:=J y 0;simpa [kN] using this
theorem Iu (c:UInt8) (h:low c=true):c ≠ 40∧c ≠ 41∧c ≠ 44∧c ≠ 32:=by
 refine ⟨?_,?_,?_,?_⟩ <;> (intro e; subst e; exact absurd h (by decide))
theorem Uo {s:ByteArray} (h:gZ s=true):(40:UInt8) ∉ s.data.toList:=by
 unfold gZ at h;simp only [Bool.and_eq_true] at h;intro hm;exact (Iu _ (List.all_eq_true.1 h.1.2 _ hm)).1 rfl
end Go.Proofs.YtkjinanbccloeaaGreatDoor.D
namespace Go.Proofs.YtkjinanbccloeaaGreatDoor
open Go.RowKit D
theorem qZ (a:A) (c0 c1:Value) (bs:List Nat) (w:World) (h:aG w [c0,c1] a bs):
  Calls Tryz.prog 200 #[.agg #[c0,c1]] w fun e w'=>e=.returned (.bool (aX a))∧Below w.heap.size w w':=by
 obtain ⟨s,a1,U,ht⟩:=h;simp only [List.cons.injEq,and_true] at a1;obtain ⟨rfl,rfl⟩:=a1;obtain ⟨Ad,cap,rfl,hl,hm⟩:=ak ht;have a5:=ay (Nat.le_trans hl hm);clear hm;have hn:=fun w=>yT a.name w U
 unfold aX;obtain ⟨nm,y⟩:=a;dsimp only at *;generalize gZ nm=b at *
 go_enter Tryz.func200,Tryz.ntmps200
 go_wp2
 go_loopw [3] (fun i wr=>∃ k:Nat,k≤y.length∧i=.int .i64 k∧(y.take k).all iH=true∧Below w.heap.size w wr∧wr.cell? ⟨w.heap.size,0,none⟩=some (.string nm)∧wr.cell? ⟨w.heap.size,1,none⟩=some (.slice Ad y.length cap)∧w.heap.size < wr.heap.size) (fun i _=>y.length - (intOf i).toNat)
 case atStart=>exact ⟨0,Nat.zero_le _,rfl,rfl,(Below.refl _ _).alloc (Nat.le_refl _) _,by simp,by simp,by simp⟩
 case round=>
  obtain ⟨k,hk,rfl,J,hb,a2,a3,a6⟩:=hrel;have HA:=η J;clear J;by_cases a0:k < y.length
  ·have hw:=aO.below ht hb
   obtain ⟨b0,o,rfl,_,d0,d1,U⟩:=dW hw a0;have HT:=η ht;clear ht hw
   go_wp2_with (go_at_call 261; refine (Ob _ _ U).mono ?_; rintro e w' ⟨rfl,I⟩)
   ·have hx:(!iH y[k])=true:=by assumption
    go_ret;exact ⟨aI (by rw [sF y k a0 (by simpa using hx)]; simp),hb.trans (I.mono (by omega))⟩
   ·have hx:(!iH y[k])=false:=by assumption
    go_roundw
    case rel=>exact ⟨k+1,by omega,by go_num,by rw [iI y k a0,HA.out]; simpa using hx,hb.trans (I.mono (by omega)),cell_later I a2,cell_later I a3,by have:=I.size; omega⟩
    case measure=>simp [intOf]; omega
  ·have he:k=y.length:=by omega
   subst he;have ha:y.all iH=true:=by have:=HA.out; rwa [List.take_of_length_le (Nat.le_refl _)] at this
   have a4:=η ha;clear ha;cases b
   all_goals
    go_wp2_with (go_at_call 262; refine (hn _).mono ?_; rintro e w3 ⟨rfl,rfl⟩)
    go_ret;exact ⟨aI (by rw [a4.out]; first | (simp; done) | (rw [Bool.eq_iff_iff]; simp; omega)),hb⟩
theorem rq (a:A) (c0 c1:Value) (bs:List Nat) (w:World) (h:aG w [c0,c1] a bs):
  Calls Tryz.prog 127 #[.agg #[c0,c1]] w fun e w'=>e=.returned (.bool (aX a))∧Below w.heap.size w w':=by
 obtain ⟨s,a1,U,ht⟩:=h;simp only [List.cons.injEq,and_true] at a1;obtain ⟨rfl,rfl⟩:=a1;obtain ⟨Ad,cap,rfl,hl,hm⟩:=ak ht;have a4:=ay (Nat.le_trans hl hm);clear hm;have hn:=fun w=>yU a.name w U
 unfold aX;obtain ⟨nm,y⟩:=a;dsimp only at *;generalize gZ nm=b at *;by_cases h3:y.length≤3
 all_goals cases b
 case pos.true=>
  go_enter Tryz.func127,Tryz.ntmps127
  go_wp2_with (go_at_call 183; refine (hn _).mono ?_; rintro e w3 ⟨rfl,rfl⟩)
  go_loopw [18] (fun i wr=>∃ k:Nat,k≤y.length∧i=.int .i64 k∧(y.take k).all iH=true∧Below w.heap.size w wr) (fun i _=>y.length - (intOf i).toNat)
  case atStart=>exact ⟨0,Nat.zero_le _,rfl,rfl,(Below.refl _ _).alloc (Nat.le_refl _) _⟩
  case round=>
   obtain ⟨k,hk,rfl,I,J⟩:=hrel;have HA:=η I;clear I;by_cases a0:k < y.length
   ·have hw:=aO.below ht J
    obtain ⟨b0,o,rfl,_,d0,d1,U⟩:=dW hw a0;have HT:=η ht;clear ht hw
    go_wp2_with (go_at_call 184; refine (Oa _ _ U).mono ?_; rintro e w' ⟨rfl,a2⟩)
    ·have hx:(!iH y[k])=true:=by assumption
     go_ret;exact ⟨aI (by rw [sF y k a0 (by simpa using hx)]; simp),(J.alloc J.size _).trans (a2.mono (by have:=J.size; simp; omega))⟩
    ·have hx:(!iH y[k])=false:=by assumption
     go_roundw
     case rel=>exact ⟨k+1,by omega,by go_num,by rw [iI y k a0,HA.out]; simpa using hx,(J.alloc J.size _).trans (a2.mono (by have:=J.size; simp; omega))⟩
     case measure=>simp [intOf]; omega
   ·have he:k=y.length:=by omega
    subst he;have ha:y.all iH=true:=by have:=HA.out; rwa [List.take_of_length_le (Nat.le_refl _)] at this
    have a3:=η ha;clear ha;go_wp2;go_ret;exact ⟨aI (by rw [a3.out]; simp; omega),J⟩
 all_goals
  go_enter Tryz.func127,Tryz.ntmps127
  go_wp2_with (go_at_call 183; refine (hn _).mono ?_; rintro e w3 ⟨rfl,rfl⟩)
  all_goals (go_ret; exact ⟨aI (by first | (simp; done) | (simp; omega)),(Below.refl _ _).alloc (Nat.le_refl _) _⟩)
theorem Fg (y:List A) (v:Value) (bs:List Nat) (w:World) (h:aW w [v] y bs) (hn:y.length≤16777216) (ha:∀ a ∈ y,a.args.length≤16777216):
  Calls Tryz.prog 54 #[v] w (Makes aW y w.heap.size w):=by
 obtain ⟨Ad,cap,rfl,hl,hm⟩:=ak h;obtain ⟨i0,hi,a2,a3,a4⟩:=info_parts sK;clear hm;by_cases h0:y.length=0
 ·have hl:((y.length:Int) == 0)=true:=beq_iff_eq.2 (by omega)
  have hx:y = []:=List.length_eq_zero_iff.1 h0;have HX:=η hx;clear h h0 hx hi a2 a3 a4 ha
  go_enter Tryz.func54,Tryz.ntmps54
  go_wp2;go_ret;exact ⟨Below.refl _ _,_,[],rfl,by rw [HX.out]; exact NS _,New.nil _ _⟩
 ·have a8:((y.length:Int) == 0)=false:=beq_eq_false_iff_ne.2 (by omega)
  go_enter Tryz.func54,Tryz.ntmps54
  go_wp2_with (at_make; refine wpList_make_full _ rfl _ _ _ rfl w.heap.size 33 i0 _ 2 Tryz.underlying24 hi a2 a3 _ _ _ _ y.length rfl rfl rfl rfl (by rw [a4]; omega) (by unfold maxLen; omega) (Nat.le_refl _) ?_; intro w1 I J)
  have a5:Below w.heap.size w w1:=(Below.refl _ _).grown J (Nat.le_refl _) (fun _ e=>by cases e);have a9:w.heap.size < w1.heap.size:=(I.lt _ rfl).2;clear J a8
  go_loopw [14] (fun i wr=>∃ (k:Nat) (L:List Value) (bs':List Nat),k≤y.length∧i=.int .i64 k∧wr.ownsRow w.heap.size 33 2 (.slice (some ⟨w.heap.size,0,none⟩) y.length y.length) y.length L∧
    jX 2 aG w1.heap.size wr L y k bs'∧Below w.heap.size w wr∧w1.heap.size≤wr.heap.size) (fun i _=>y.length - (intOf i).toNat)
  case atStart=>exact ⟨0,_,_,Nat.zero_le _,rfl,I,jX.start,a5,Nat.le_refl _⟩
  case round=>
   obtain ⟨k,L,bs',hk,rfl,a0,hF,hb,aa⟩:=hrel;clear I a5;by_cases a6:k < y.length
   ·have hw:=au.below h hb
    obtain ⟨b,o,Ae,ce,bk,rfl,_,c0,c1,a7,_⟩:=dK hw a6;have ab:y[k].args.length≤16777216:=ha _ (List.getElem_mem _);have HK:=η hF;have ac:(0:Int)≤(k:Int):=by omega
    have ae:(k:Int) < (y.length:Int):=by omega
    clear h hw hF ha;have hL:=η a0.1;have hA:Below wr.heap.size wr (wr.alloc (.cells #[.string y[k].name,.slice Ae y[k].args.length ce] 33)):=(Below.refl _ _).alloc (Nat.le_refl _) _;have hc:=Ij y[k] _ _ bk _ (aj.below a7 hA) ab
    go_wp2_with fail
    refine hc.mono ?_;rintro e w' ⟨a1,af,b2,rfl,hR,hN⟩;obtain ⟨ag,am,rfl⟩:=BK hR;have hB:=hA.trans (a1.mono hA.size);have U:=own_below a0 hB;obtain ⟨⟨u0,ao⟩,ap⟩:=Jp U (j:=k * 2) (by omega);obtain ⟨⟨u1,aq⟩,ar⟩:=Jp U (j:=k * 2+1) (by omega);obtain ⟨R1,R2,R3,R4⟩:=Yf aj a0 HK.out a6 hb hB a9 (Nat.le_refl _) aa hR (hN.mono hA.size);clear U a7 hR hN hc;go_wp2;go_roundw
    case rel=>exact ⟨k+1,_,_,by omega,by go_num,R1,R2,R3,R4⟩
    case measure=>simp [intOf]; omega
   ·have he:k=y.length:=by omega
    subst he;have HF:=η hF;clear hF;go_wp2;go_ret;obtain ⟨b2,r1,r2,r3,r4⟩:=HF.out.slice a0 (fun hm=>by have:=(HF.out.new.own _ hm).1; omega);refine ⟨hb,_,b2,rfl,r1,r2,fun b a1=>⟨?_,r4 b a1⟩⟩
    rcases r3 b a1 with ⟨rfl,h⟩ | h
    ·exact h
    ·have:=(HF.out.new.own b h).1; omega
end Go.Proofs.YtkjinanbccloeaaGreatDoor
namespace Go.Proofs.YtkjinanbccloeaaGreatDoor
open Go.RowKit D
attribute [local go_sem ↓] Go.wp_at_zero Go.wp_at_succ
theorem QI (xs:List A) (a:A) (v U d1:Value) (bs b2:List Nat) (w:World) (h:aW w [v] xs bs) (I:aG w [U,d1] a b2) (hs:fJ xs=true):
  Calls Tryz.prog 141 #[v,.agg #[U,d1]] w fun e w'=>e=.returned (.bool (hasB xs a))∧Below w.heap.size w w':=by
 obtain ⟨Ad,cap,rfl,hl,hm⟩:=ak h;obtain ⟨Aa,ca,rfl,rfl⟩:=aZ I;have y:Below w.heap.size w (w.alloc (.cells #[.string a.name,.slice Aa a.args.length ca] 33)):=(Below.refl _ _).alloc (Nat.le_refl _) _;have hk:=wu xs a _ _ _ bs b2 _ (au.below h y) (aj.below I y) hs;clear h I hm
 go_enter Tryz.func141,Tryz.ntmps141
 go_wp2_with fail
 refine hk.mono ?_;rintro e w1 ⟨rfl,J⟩;go_wp2;go_ret;exact ⟨rfl,y.trans (J.mono y.size)⟩
theorem Ot (y:List A) (v:Value) (bs:List Nat) (w:World) (h:aW w [v] y bs) (hn:y.length≤100000000000) (ha:∀ a ∈ y,a.args.length≤16777216):
  Calls Tryz.prog 108 #[v] w fun e w'=>Below w.heap.size w w'∧∃ v bs,e=.returned v∧aW w' [v] y bs∧∀ c ∈ bs,w.heap.size≤c:=by
 obtain ⟨Ad,cap,rfl,hl,hm⟩:=ak h;obtain ⟨i0,hi,ag,am,ao⟩:=info_parts sK;clear hm;have hA:Below w.heap.size w (w.alloc (.cells #[] 33)):=(Below.refl _ _).alloc (Nat.le_refl _) _;have a6:=aY.empty (n:=2) (R:=aG) (e:=33) (heap_alloc_new w (.cells #[] 33)) (Nat.le_refl w.heap.size)
 go_enter Tryz.func108,Tryz.ntmps108
 go_wp2
 go_loopw [3,4] (fun v i wr=>∃ (k:Nat) (A:Option Addr) (cp:Nat) (L:List Value) (b2:List Nat),k≤y.length∧i=.int .i64 k∧v=.slice A k cp∧aY 2 aG w.heap.size 33 wr (.slice A k cp) L (y.take k) b2∧Hid (∀ c ∈ b2,w.heap.size≤c)∧Below w.heap.size w wr) (fun _ i _=>y.length - (intOf i).toNat)
 case atStart=>exact ⟨0,_,_,_,_,Nat.zero_le _,rfl,rfl,a6,η (fun c hc=>by cases hc),hA⟩
 case round=>
  obtain ⟨k,A,cp,L,b2,hk,rfl,rfl,hC,a7,hb⟩:=hrel;clear a6 hA;by_cases a3:k < y.length
  ·have a8:=η a3
   obtain ⟨b,o,Ae,ce,bk,rfl,_,c0,c1,a9,_⟩:=dK (au.below h hb) a3;have ap:y[k].args.length≤16777216:=ha _ (List.getElem_mem _);have aE:(0:Int)≤(k:Int):=by omega
   have aL:(k:Int) < (y.length:Int):=by omega
   have HT:Hid (y.take (k+1)=y.take k ++ [y[k]]):=η (List.take_succ_eq_append_getElem a3);have hc:=Og y[k] _ _ bk _ a9 ap;have HC:=η hC;clear h ha hC
   go_wp2_with fail
   refine hc.mono ?_;rintro e w1 ⟨aa,aM,b3,rfl,hR,hN⟩;obtain ⟨J,U,rfl⟩:=BK hR;clear a9 hc;have hlen:(y.take k).length=k:=by rw [List.length_take]; omega
   have a4:Below wr.heap.size wr (w1.alloc (.cells #[.string y[k].name,.slice J y[k].args.length U] 33)):=aa.alloc aa.size _;have aq:Below w1.heap.size w1 (w1.alloc (.cells #[.string y[k].name,.slice J y[k].args.length U] 33)):=(Below.refl _ _).alloc (Nat.le_refl _) _;have a5:=HC.out.below aj a4;have ab:=aj.below hR aq;have hL:Lies (w1.alloc (.cells #[.string y[k].name,.slice J y[k].args.length U] 33)) (some ⟨w1.heap.size,0,none⟩) [.string y[k].name,.slice J y[k].args.length U]:=aS (heap_alloc_new w1 _);have ar:=η a5;have ac:Hid ((w1.alloc (.cells #[.string y[k].name,.slice J y[k].args.length U] 33)).ownsRow w.heap.size 33 2 (.slice A k cp) k L):=η (by have:=a5.own; rw [hlen] at this; exact this);have HL:=η hL;have av:=η ab;have ae:=a4.size;clear a5 hL ab hlen
   go_wp2_with (at_builtin; refine uF rfl _ _ _ rfl w.heap.size 33 i0 (.agg #[.string ⟨#[]⟩,.slice none 0 0]) 2 40 Tryz.underlying24 hi ag am ao rfl (by omega) (.slice A k cp) k L rfl ac.out (some ⟨w1.heap.size,0,none⟩) 1 1 [.string y[k].name,.slice J y[k].args.length U] rfl rfl HL.out (by simp [Value.oneCell']) (by unfold maxLen; omega) (by omega) (Nat.le_trans hb.size ae) ?_; intro A2 aw w2 a0 I a1)
   have hlen:(y.take k).length=k:=by rw [List.length_take]; omega
   have a2:∀ b ∈ b3,(Value.slice A k cp).ownBlock ≠ some b:=fun b az=>jI HC.out.own (hN.own b az).1
   have C3:=ar.out.app aj (aQ.cZ eH av.out) a2 (by rw [hlen]; exact a0) I a1;have B3:=iy (hb.trans (a4.mono hb.size)) ac.out (Nat.le_refl _) (Nat.le_trans hb.size ae) I;have aD:Hid (∀ c ∈ b2 ++ b3,w.heap.size≤c):=η fun c hc=>(List.mem_append.1 hc).elim (a7.out c) fun h=>Nat.le_trans hb.size (hN.own c h).1
   clear a0 I a1 a2 hlen hR hN;have H3:=η C3;clear C3;go_wp2;go_roundw
   case rel=>exact ⟨k+1,A2,aw,_,_,a8.out,by go_num,rfl,by rw [HT.out]; exact H3.out,aD,B3⟩
   case measure=>have:=a8.out; simp [intOf]; omega
  ·have he:k=y.length:=by omega
   subst he;rw [List.take_of_length_le (Nat.le_refl _)] at hC;obtain ⟨b3,hs,af⟩:=hC.slice;have HS:=η (And.intro hs fun c hc=>(af c hc).elim id (a7.out c));clear hC hs af;go_wp2;go_ret;exact ⟨hb,_,b3,rfl,HS.out⟩
end Go.Proofs.YtkjinanbccloeaaGreatDoor
