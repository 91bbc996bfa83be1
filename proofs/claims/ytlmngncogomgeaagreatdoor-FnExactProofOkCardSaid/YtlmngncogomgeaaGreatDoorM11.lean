/- Of the proof of FnExactProofOk: ProgP, SortP, PfW, PrfO, AGetP, Bulk. -/
import Derived.Test.YtlmngncogomgeaaGreatDoorM06
import Derived.Test.YtlmngncogomgeaaGreatDoorM05
import Derived.Sort.KeysCollected
set_option linter.unusedVariables false
namespace Go.Proofs.YtlmngncogomgeaaGreatDoor
namespace D
open Go.RowKit
def jh (r:Ru):List A:=r.head :: r.body.map (·.atom)
def aH (rs:List Ru):List A:=rs.flatMap jh
def eu (ps:List Pt):List A:=ps.map (·.atom)
theorem oC (rs:List Ru) (k:Nat) (h:k < rs.length):aH (rs.take (k+1))=aH (rs.take k) ++ [rs[k].head] ++ eu rs[k].body:=by
 rw [ρ h]; unfold aH jh eu; simp only [List.flatMap_append,List.flatMap_cons,List.flatMap_nil,List.append_nil,List.append_assoc,List.cons_append,List.nil_append]
theorem qX (ps:List Pt) (k:Nat) (h:k < ps.length):eu (ps.take (k+1))=eu (ps.take k) ++ [ps[k].atom]:=by
 rw [ρ h]; unfold eu; simp only [List.map_append,List.map_cons,List.map_nil]
theorem kZ (ps:List Pt):(eu ps).length=ps.length:=by unfold eu; simp
def jS (st:List ByteArray × (ByteArray→Int) × Bool) (a:A):List ByteArray × (ByteArray→Int) × Bool:=
 if a.name ∈ st.1∧st.2.1 a.name ≠ a.args.length then (st.1,st.2.1,false) else (fO st.1 a.name,fun t=>if t=a.name then a.args.length else st.2.1 t,st.2.2)
def dH (xs:List A):List ByteArray × (ByteArray→Int) × Bool:=xs.foldl jS ([],fun _=>0,true)
theorem vC (xs:List A) (a:A):dH (xs ++ [a])=jS (dH xs) a:=by unfold dH; rw [List.foldl_append]; rfl
def jC (xs:List A):Bool:=xs.all fun a=>xs.all fun b=>decide (a.name=b.name→a.args.length=b.args.length)
theorem wS (xs:List A):(∀ s,s ∈ (dH xs).1 ↔ ∃ a ∈ xs,a.name=s)∧(dH xs).1.length≤xs.length∧(∀ s ∈ (dH xs).1,∃ a ∈ xs,a.name=s∧(dH xs).2.1 s=a.args.length)∧
  ((dH xs).2.2=true ↔ ∀ a ∈ xs,(dH xs).2.1 a.name=a.args.length):=by
 have U:∀ (n:Nat) (xs:List A),xs.length=n→(∀ s,s ∈ (dH xs).1 ↔ ∃ a ∈ xs,a.name=s)∧(dH xs).1.length≤xs.length∧(∀ s ∈ (dH xs).1,∃ a ∈ xs,a.name=s∧(dH xs).2.1 s=a.args.length)∧
   ((dH xs).2.2=true ↔ ∀ a ∈ xs,(dH xs).2.1 a.name=a.args.length):=by
  intro n
  induction n with
  | zero=>
   intro xs J;obtain rfl:=List.length_eq_zero_iff.1 J;exact ⟨fun s=>by simp [dH],ν,fun s h=>by simp [dH] at h,by simp [dH]⟩
  | succ n ih=>
   intro xs J
   obtain ⟨ys,a,rfl⟩:∃ ys a,xs=ys ++ [a]:=by
    rcases List.eq_nil_or_concat xs with rfl | ⟨ys,a,rfl⟩
    ·simp at J
    ·exact ⟨ys,a,by simp⟩
   obtain ⟨i1,i0,i2,i3⟩:=ih ys (by simpa using J);rw [vC];by_cases hc:a.name ∈ (dH ys).1∧(dH ys).2.1 a.name ≠ a.args.length
   ·have e:jS (dH ys) a=((dH ys).1,(dH ys).2.1,false):=by unfold jS; rw [if_pos hc]
    rw [e];refine ⟨fun s=>⟨fun h=>?_,fun h=>?_⟩,by simp; omega,fun s h=>?_,⟨fun h=>by simp at h,fun h=>absurd (h a (by simp)) hc.2⟩⟩
    ·obtain ⟨b,y,e⟩:=(i1 s).1 h
     exact ⟨b,by simp [y],e⟩
    ·obtain ⟨b,y,e⟩:=h
     rcases μ.1 y with y | y
     ·exact (i1 s).2 ⟨b,y,e⟩
     ·rw [ώ.1 y] at e
      rw [← e]; exact hc.1
    ·obtain ⟨b,y,e⟩:=i2 s h
     exact ⟨b,by simp [y],e⟩
   ·have e:jS (dH ys) a=(fO (dH ys).1 a.name,fun t=>if t=a.name then (a.args.length:Int) else (dH ys).2.1 t,(dH ys).2.2):=by unfold jS; rw [if_neg hc]
    rw [e];refine ⟨fun s=>?_,?_,fun s h=>?_,?_⟩
    ·rw [iT,i1 s]
     simp only [μ,ώ];constructor
     ·rintro (⟨b,y,e⟩ | rfl)
      ·exact ⟨b,.inl y,e⟩
      ·exact ⟨a,.inr rfl,rfl⟩
     ·rintro ⟨b,y | rfl,e'⟩
      ·exact .inl ⟨b,y,e'⟩
      ·exact .inr e'.symm
    ·have:(fO (dH ys).1 a.name).length≤(dH ys).1.length+1:=by unfold fO; split <;> simp
     simp; omega
    ·dsimp only
     by_cases es:s=a.name
     ·exact ⟨a,by simp,es.symm,by rw [if_pos es]⟩
     ·rw [if_neg es]
      obtain ⟨b,y,e⟩:=i2 s ((iT.1 h).resolve_right es);exact ⟨b,by simp [y],e⟩
    ·dsimp only
     rw [i3];constructor
     ·intro h b y
      by_cases I:b.name=a.name
      ·rw [if_pos I]
       rcases μ.1 y with y | y
       ·have h1:a.name ∈ (dH ys).1:=(i1 _).2 ⟨b,y,I⟩
        have h2:(dH ys).2.1 a.name=a.args.length:=Classical.byContradiction fun h=>hc ⟨h1,h⟩
        have h3:=h b y;rw [I] at h3;rw [← h2,h3]
       ·rw [ώ.1 y]
      ·rw [if_neg I]
       rcases μ.1 y with y | y
       ·exact h b y
       ·rw [ώ.1 y] at I; exact absurd rfl I
     ·intro h b y
      have h0:=h b (by simp [y]);by_cases I:b.name=a.name
      ·have h1:a.name ∈ (dH ys).1:=(i1 _).2 ⟨b,y,I⟩
       have h2:(dH ys).2.1 a.name=a.args.length:=Classical.byContradiction fun h=>hc ⟨h1,h⟩
       rw [if_pos I] at h0;rw [I,h2,h0]
      ·rw [if_neg I] at h0
       exact h0
 exact U _ xs rfl
theorem zA (xs:List A):(dH xs).2.2=jC xs:=by
 obtain ⟨i1,_,i2,J⟩:=wS xs;refine Bool.eq_iff_iff.2 (J.trans ?_);unfold jC;simp only [ό,decide_eq_true_eq];constructor
 ·intro h a ha b y e
  have h1:=h a ha;have I:=h b y;rw [e,I] at h1;exact_mod_cast h1.symm
 ·intro h a ha
  obtain ⟨b,y,e,I⟩:=i2 a.name ((i1 _).2 ⟨a,ha,rfl⟩);rw [I,h b y a ha e]
theorem Io {xs:List A} (h:jC xs=true) {a:A} (ha:a ∈ xs):(dH xs).2.1 a.name=a.args.length:=(wS xs).2.2.2.1 (by rw [zA]; exact h) a ha
theorem Ip {xs:List A} {m:Nat} (h:∀ a ∈ xs,a.args.length≤m) {s:ByteArray} (y:s ∈ (dH xs).1):0≤(dH xs).2.1 s∧(dH xs).2.1 s≤m:=by
 obtain ⟨a,ha,_,e⟩:=(wS xs).2.2.1 s y;have:=h a ha;omega
def clash (a b:A):Bool:=decide (a.name=b.name) && decide (a.args.length ≠ b.args.length)
theorem zB (xs:List A):jC xs = !(xs.any fun a=>xs.any fun b=>clash a b):=by
 unfold jC clash;simp only [List.all_eq_not_any_not]
 congr 2
 funext a
 simp only [Bool.not_not]
 congr 1
 funext b
 by_cases h1:a.name=b.name <;> by_cases y:a.args.length=b.args.length <;> simp [h1,y]
theorem LC (a b:A):clash a b=clash b a:=by
 unfold clash;rw [decide_eq_decide.2 (eq_comm:a.name=b.name ↔ b.name=a.name),decide_eq_decide.2 (ne_comm:a.args.length ≠ b.args.length ↔ b.args.length ≠ a.args.length)]
theorem LD (a:A):clash a a=false:=by simp [clash]
theorem Ox {xs:List A} (h:∀ i,(hi:i < xs.length)→∀ k,(hk:k < i)→clash xs[i] (xs[k]'(by omega))=false):jC xs=true:=by
 rw [zB];simp only [Bool.not_eq_true',List.any_eq_false,Bool.not_eq_true];intro a ha b y;obtain ⟨i,hi,rfl⟩:=List.mem_iff_getElem.1 ha;obtain ⟨k,hk,rfl⟩:=List.mem_iff_getElem.1 y
 rcases Nat.lt_trichotomy i k with h1 | h1 | h1
 ·rw [LC]; exact h k hk i h1
 ·subst h1; exact LD _
 ·exact h i hi k h1
theorem QT {xs:List A} {i k:Nat} (hi:i < xs.length) (hk:k < xs.length) (h:clash xs[i] xs[k]=true):jC xs=false:=by
 rw [zB];simp only [Bool.not_eq_false',List.any_eq_true];exact ⟨_,δ hi,_,δ hk,h⟩
def eH (rs:List Ru):Nat:=
 if rs.all dS=false then 1 else if 8 < rs.length then 2 else if jC (aH rs)=false then 3 else if (rs.all fun r=>eG r.head r.body)=false then 4 else if kW rs=true then 5 else 0
theorem Iq (rs:List Ru):eH rs≤5:=by unfold eH; repeat (first | omega | split)
structure Fine (rs:List Ru):Prop where
 ok:rs.all dS=true
 few:rs.length≤8
 alike:jC (aH rs)=true
 tight:(rs.all fun r=>eG r.head r.body)=true
 no:kW rs=false
theorem oP (rs:List Ru):eH rs=0 ↔ Fine rs:=by
 unfold eH;constructor
 ·intro h
  split at h
  ·omega
  ·rename_i h1
   split at h
   ·omega
   ·rename_i U
    split at h
    ·omega
    ·rename_i y
     split at h
     ·omega
     ·rename_i I
      split at h
      ·omega
      ·rename_i J
       exact ⟨by simpa using h1,by omega,by simpa using y,by simpa using I,by simpa using J⟩
 ·rintro ⟨h1,U,y,I,J⟩
  rw [if_neg (by simp [h1]),if_neg (by omega),if_neg (by simp [y]),if_neg (by simp [I]),if_neg (by simp [J])]
theorem jX {r:Ru} (h:dS r=true):r.body.length≤4∧(∀ a ∈ jh r,aZ a=true)∧∀ a ∈ jh r,a.args.length≤3:=by
 unfold dS nJ at h;simp only [ο,decide_eq_true_eq,ό] at h
 have h1:∀ a ∈ jh r,aZ a=true:=fun a ha=>by
  unfold jh at ha
  rcases ύ.1 ha with rfl | ha
  ·exact h.2
  ·obtain ⟨p,y,rfl⟩:=List.mem_map.1 ha
   exact h.1.2 p y
 exact ⟨h.1.1,h1,fun a ha=>by
  have:=h1 a ha;unfold aZ at this;simp only [ο,decide_eq_true_eq] at this
  exact this.1.2⟩
theorem wU {rs:List Ru} {a:A} (h:a ∈ aH rs):∃ r ∈ rs,a ∈ jh r:=by
 obtain ⟨r,hr,ha⟩:=List.mem_flatMap.1 h;exact ⟨r,hr,ha⟩
theorem kJ {rs:List Ru} (h:rs.all dS=true):(∀ a ∈ aH rs,a.args.length≤3)∧(aH rs).length≤5 * rs.length:=by
 refine ⟨fun a ha=>?_,?_⟩
 ·obtain ⟨r,hr,ha⟩:=wU ha
  exact (jX (ό.1 h r hr)).2.2 a ha
 ·unfold aH
  induction rs with
  | nil=>simp
  | cons r rs ih=>
   simp only [List.all_cons,ο] at h;have h1:=(jX h.1).1;have y:=ih h.2;simp only [List.flatMap_cons,χ,List.length_cons,jh,List.length_map] at *;omega
theorem Nw:∀ (l m:List UInt8),l < m ↔ jI qN l m < 0
 | [],[]=>by simp [jI]
 | [],b :: m=>by simp [jI]
 | a :: l,[]=>by simp [jI]
 | a :: l,b :: m=>by
  have e:jI qN (a :: l) (b :: m)=if qN a b=0 then jI qN l m else qN a b:=rfl
  rw [List.cons_lt_cons_iff,Nw l m,e];by_cases h:a=b
  ·subst h
   have h0:qN a a=0:=Ac.refl a;rw [if_pos h0];simp
  ·have J:¬ qN a b=0:=fun e=>h ((Ac.eq a b).1 e)
   rw [if_neg J]
   have h1:a < b ↔ qN a b < 0:=by
    unfold qN;by_cases y:a < b
    ·simp [y]
    ·rw [if_neg y]
     constructor
     ·exact fun I=>absurd I y
     ·intro I; split at I <;> omega
   rw [h1];constructor
   ·rintro (I | ⟨I,_⟩)
    ·exact I
    ·exact absurd I h
   ·exact .inl
theorem Vl {x y:List UInt8}:leB x y=true ↔ x≤y:=by simp [leB]
theorem Ir (y:List (List UInt8)):(y.mergeSort leB).Pairwise (fun a b=>a≤b):=by
 have I:∀ a b c:List UInt8,leB a b=true→leB b c=true→leB a c=true:=fun a b c h1 J=>by simp only [leB,decide_eq_true_eq] at *; exact List.le_trans h1 J
 have U:∀ a b:List UInt8,(leB a b || leB b a)=true:=fun a b=>by simp only [leB,Bool.or_eq_true,decide_eq_true_eq]; exact List.le_total a b
 exact (List.pairwise_mergeSort I U y).imp fun h=>Vl.1 h
theorem Iu {s:List (List UInt8)} (h:s.Pairwise (fun a b=>a≤b)):(Lib.compact s).Pairwise (fun a b=>a < b):=by
 unfold Lib.compact Lib.compactUpTo;have a0:∀ i,i < s.length→s.toArray[i]! = s[i]!:=fun i hi=>by simp
 refine List.pairwise_map.2 ?_;refine ((List.pairwise_lt_range (n:=s.length)).filter _).imp_of_mem ?_;intro i j hi hj a1;have I:=List.mem_filter.1 hj;have y:j < s.length:=List.mem_range.1 I.1;have hk:j=0∨s.toArray[j]! ≠ s.toArray[j - 1]!:=by simpa [Lib.keeps] using I.2
 have J:s.toArray[j]! ≠ s.toArray[j - 1]!:=hk.resolve_left (by omega);have U:=List.pairwise_iff_getElem.1 h;have e1:s.toArray[i]! = s[i]'(by omega):=by rw [getElem!_pos _ _ (by simp; omega)]; simp
 have e2:s.toArray[j]! = s[j]'y:=by rw [getElem!_pos _ _ (by simp; omega)]; simp
 have e3:s.toArray[j - 1]! = s[j - 1]'(by omega):=by rw [getElem!_pos _ _ (by simp; omega)]; simp
 rw [e1,e2];rw [e2,e3] at J
 have h1:s[i]'(by omega)≤s[j - 1]'(by omega):=by
  by_cases e:i=j - 1
  ·subst e; exact List.le_refl _
  ·exact U i (j - 1) (by omega) (by omega) (by omega)
 have h2:s[j - 1]'(by omega)≤s[j]'y:=U (j - 1) j (by omega) y (by omega);have h3:s[i]'(by omega)≤s[j]'y:=List.le_trans h1 h2;rw [← List.not_le];intro h4;exact J (List.le_antisymm (List.le_trans h4 h1) h2)
theorem zC (s:List (List UInt8)) (x:List UInt8):x ∈ Lib.compact s ↔ x ∈ s:=by
 unfold Lib.compact Lib.compactUpTo;constructor
 ·intro h
  obtain ⟨j,y,rfl⟩:=List.mem_map.1 h;have I:j < s.length:=List.mem_range.1 (List.mem_filter.1 y).1;rw [getElem!_pos _ _ (by simpa using I)];simp
 ·intro h
  obtain ⟨j,y,rfl⟩:=List.mem_iff_getElem.1 h
  have J:∀ (j:Nat) (y:j < s.length),∃ i ∈ (List.range s.length).filter (Lib.keeps s.toArray),s.toArray[i]! = s.toArray[j]!:=by
   intro j
   induction j with
   | zero=>intro y; exact ⟨0,List.mem_filter.2 ⟨List.mem_range.2 y,by simp [Lib.keeps]⟩,rfl⟩
   | succ j ih=>
    intro y;by_cases e:s.toArray[j+1]! = s.toArray[j]!
    ·obtain ⟨i,hi,he⟩:=ih (by omega)
     exact ⟨i,hi,by rw [he,e]⟩
    ·exact ⟨j+1,List.mem_filter.2 ⟨List.mem_range.2 y,by simp only [Lib.keeps,decide_eq_true_eq]; exact .inr e⟩,rfl⟩
  obtain ⟨i,hi,he⟩:=J j y;refine List.mem_map.2 ⟨i,hi,?_⟩;rw [he,getElem!_pos _ _ (by simpa using y)];simp
theorem LG (s:List (List UInt8)):(Lib.compact s).length≤s.length:=by
 unfold Lib.compact Lib.compactUpTo;rw [List.length_map];exact τ (List.length_filter_le _ _) (by simp)
theorem bytes_inj {a b:ByteArray} (h:a.data.toList=b.data.toList):a=b:=by
 cases a; cases b; simp at h; rw [h]
theorem asc_one {xs ys:List (List UInt8)} (y:xs.Pairwise (fun a b=>a < b)) (I:ys.Pairwise (fun a b=>a < b)) (hm:∀ x,x ∈ xs ↔ x ∈ ys):xs=ys:=by
 have J:xs.Nodup:=y.imp fun {a b} h e=>by subst e; exact List.lt_irrefl _ h
 have U:ys.Nodup:=I.imp fun {a b} h e=>by subst e; exact List.lt_irrefl _ h
 refine List.Perm.eq_of_pairwise (le:=fun a b=>a < b) (fun a b _ _ h1 h2=>absurd (List.lt_trans h1 h2) (List.lt_irrefl _)) y I ((List.perm_ext_iff_of_nodup J U).2 hm)
theorem BO {I:List (List UInt8)} {xs:List ByteArray} (J:qR xs) (hm:∀ b,b ∈ I ↔ ∃ x ∈ xs,x.data.toList=b):Lib.compact (I.mergeSort fun x y=>decide (x≤y))=xs.map (·.data.toList):=by
 refine asc_one (Iu (Ir I)) ?_ ?_
 ·exact List.pairwise_map.2 (J.imp fun {a b} h=>(Nw _ _).2 h)
 ·intro b
  rw [zC,(List.mergeSort_perm I leB).mem_iff,hm];simp
def jc (y:List T):List ByteArray:=(y.filter (·.var)).map (·.name)
def jd (ps:List Pt):List ByteArray:=ps.flatMap fun p=>jc p.atom.args
theorem FP (y:List T) (k:Nat) (h:k < y.length):jc (y.take (k+1))=jc (y.take k) ++ (if y[k].var then [y[k].name] else []):=by
 unfold jc;rw [ρ h,List.filter_append,List.map_append]
 congr 1
 cases hv:y[k].var <;> simp [hv]
theorem FQ (ps:List Pt) (k:Nat) (h:k < ps.length):jd (ps.take (k+1))=jd (ps.take k) ++ jc ps[k].atom.args:=by
 unfold jd;rw [ρ h,List.flatMap_append];simp
theorem Iw (J:List T) (x:ByteArray):x ∈ jc J ↔ jL x J:=by
 unfold jc jL;simp only [List.mem_map,List.mem_filter];constructor
 ·rintro ⟨t,⟨h1,y⟩,I⟩; exact ⟨t,h1,y,I⟩
 ·rintro ⟨t,h1,y,I⟩; exact ⟨t,⟨h1,y⟩,I⟩
theorem Iy (ps:List Pt) (x:ByteArray):x ∈ jd ps ↔ ∃ p ∈ ps,jL x p.atom.args:=by
 unfold jd;simp only [List.mem_flatMap,Iw]
theorem zD (y:List T):(jc y).length≤y.length:=by
 unfold jc; rw [List.length_map]; exact List.length_filter_le _ _
theorem qY:∀ (ps:List Pt),(jd ps).length≤dh (fun p=>p.atom.args.length) ps
 | []=>by simp [jd]
 | p :: ps=>by
  have h1:=qY ps;have y:=zD p.atom.args;simp only [jd,dh,List.flatMap_cons,χ,List.map_cons,List.sum_cons] at *;omega
theorem FT (ps:List Pt):Lib.compact (((jd ps).map (·.data.toList)).mergeSort fun x y=>decide (x≤y))=(ax ps).map (·.data.toList):=by
 refine BO (kX ps qU) fun b=>?_
 simp only [List.mem_map,Iy];constructor
 ·rintro ⟨x,h,rfl⟩; exact ⟨x,(gu ps [] x).2 (.inr h),rfl⟩
 ·rintro ⟨x,h,rfl⟩
  refine ⟨x,?_,rfl⟩
  rcases (gu ps [] x).1 h with h | h
  ·simp at h
  ·exact h
def Ny {α:Type} (R S:Rel α):Prop:=∀ (w:World) (cs:List Value) (x y:α) (I b2:List Nat),R w cs x I→S w cs y b2→x=y
theorem zF {α:Type} {n:Nat} {R S:Rel α} (J:Ny R S):Ny (fK n R) (fK n S):=by
 rintro w cs xs ys b1 b2 ⟨Ad,cap,rfl,_,_,_,h1⟩ ⟨a4,a3,e,_,_,_,h2⟩;simp only [List.cons.injEq,Value.slice.injEq,and_true] at e;obtain ⟨rfl,hlen,rfl⟩:=e;by_cases y:xs = []
 ·subst y
  exact (List.length_eq_zero_iff.1 hlen.symm).symm
 ·have I:ys ≠ []:=fun h=>y (List.length_eq_zero_iff.1 (by rw [hlen,h]; rfl))
  obtain ⟨b,o,rfl,F,G,_,hF⟩:=h1 y;obtain ⟨b',o',e,F',G',_,hF'⟩:=h2 I;simp only [Option.some.injEq,Addr.mk.injEq,and_true] at e;obtain ⟨rfl,rfl⟩:=e;refine List.ext_getElem hlen fun k hk U=>?_
  obtain ⟨p1,p2,p3⟩:=hF k _ (Ψ hk);obtain ⟨q1,q2,q3⟩:=hF' k _ (Ψ U)
  have:F k=F' k:=by
   refine List.ext_getElem (p1.trans q1.symm) fun j hj a0=>?_
   have a1:=p2 j _ (Ψ hj);have a2:=q2 j _ (Ψ a0);rw [a1] at a2;exact Option.some.inj a2
  rw [← this] at q3;exact J _ _ _ _ _ _ p3 q3
theorem LH:Ny kQ kQ:=by
 rintro w cs ⟨v,n⟩ ⟨y,I⟩ J b2 ⟨rfl,_⟩ ⟨e,_⟩;simp only [List.cons.injEq,Value.bool.injEq,Value.string.injEq,and_true] at e;obtain ⟨rfl,rfl⟩:=e;rfl
theorem Iz (n:Nat):∀ m,Ny (dP n) (dP m):=by
 induction n with
 | zero=>exact fun m w cs x y J b2 h=>h.elim
 | succ n ih=>
  intro m w cs x y J b2 U I
  cases m with
  | zero=>exact I.elim
  | succ m=>
   obtain ⟨⟨nm,ts⟩,r,ks⟩:=x;obtain ⟨⟨a0,a1⟩,r',a2⟩:=y;obtain ⟨s,k,_,_,rfl,_,_,_,h5,h6⟩:=U;obtain ⟨s',k',_,_,e,_,_,_,g5,g6⟩:=I;simp only [List.cons.injEq,Value.string.injEq,Value.int.injEq,true_and,and_true] at e;obtain ⟨e1,rfl,e2,rfl⟩:=e;have t1:=zF (n:=2) LH _ _ _ _ _ _ h5 g5;have t2:=zF (n:=4) (ih m) _ _ _ _ _ _ h6 g6;simp only [Pf.fact,Pf.kids,Pf.rule] at *;subst e1 e2 t1 t2;rfl
def AtP (y:List Nat) (w:World) (a:Addr) (p:Pf):Prop:=
 ∃ n b o cs I,a=⟨b,o,none⟩∧b ∈ y∧cs.length=4∧(∀ j v,cs[j]? = some v→w.cell? ⟨b,o+j,none⟩=some v)∧dP n w cs p I∧∀ c ∈ I,c ∈ y
theorem AtP.keep {y:List Nat} {w w':World} {a:Addr} {p:Pf} (h:AtP y w a p) (hk:∀ b ∈ y,w'.heap[b]? = w.heap[b]?):AtP y w' a p:=by
 obtain ⟨n,b,o,cs,J,rfl,h1,U,h3,h4,I⟩:=h;exact ⟨n,b,o,cs,J,rfl,h1,U,fun j v hv=>by rw [World.cell?_of_block (w:=w) (hk b h1)]; exact h3 j v hv,(cZ n).keep h4 fun c hc=>hk c (I c hc),I⟩
theorem AtP.block {y:List Nat} {w:World} {a:Addr} {p:Pf} (h:AtP y w a p):a.block ∈ y:=by
 obtain ⟨n,b,o,cs,I,rfl,h1,J⟩:=h;exact h1
theorem AtP.one {J:List Nat} {w:World} {a:Addr} {p q:Pf} (h:AtP J w a p) (h':AtP J w a q):p=q:=by
 obtain ⟨n,b,o,cs,bk,rfl,h1,h2,h3,h4,h5⟩:=h;obtain ⟨m,b',o',y,a0,e,g1,g2,g3,g4,g5⟩:=h';simp only [Addr.mk.injEq,and_true] at e;obtain ⟨rfl,rfl⟩:=e
 have:cs=y:=by
  refine List.ext_getElem (h2.trans g2.symm) fun j hj I=>?_
  have a1:=h3 j _ (Ψ hj);have U:=g3 j _ (Ψ I);rw [a1] at U;exact Option.some.inj U
 subst this;exact Iz n m _ _ _ _ _ _ h4 g4
theorem AtP.kids {BS:List Nat} {w:World} {b o:Nat} {p:Pf} (h:AtP BS w ⟨b,o,none⟩ p):
  ∃ y cf,w.cell? ⟨b,o+3,none⟩=some (.slice y p.kids.length cf)∧p.kids.length≤cf∧cf≤maxLen∧∀ k (hk:k < p.kids.length),∃ I J,y=some ⟨I,J,none⟩∧AtP BS w ⟨I,J+k * 4,none⟩ p.kids[k]:=by
 obtain ⟨n,I,J,cs,bk,e,h1,h2,h3,h4,h5⟩:=h;simp only [Addr.mk.injEq,and_true] at e;obtain ⟨rfl,rfl⟩:=e
 cases n with
 | zero=>exact h4.elim
 | succ n=>
  obtain ⟨s,k,b1,b2,rfl,_,_,rfl,_,h6⟩:=h4;obtain ⟨y,cf,rfl,U,hmx⟩:=ai h6;refine ⟨y,cf,h3 3 _ rfl,U,hmx,fun j hj=>?_⟩;obtain ⟨b3,o3,a0,a1,rfl,g1,g2,g3,g4,g5⟩:=gW h6 hj;exact ⟨b3,o3,rfl,n,b3,o3+j * 4,a0,a1,rfl,h5 b3 (Ω _ g1),g2,fun i v hv=>by rw [Nat.add_assoc]; exact g3 i v hv,g4,fun c hc=>h5 c (Ω _ (g5 c hc))⟩
structure Fr where
 at_:Addr
 pf:Pf
 next:Nat
def qg (st:List Fr):List Value:=st.flatMap fun f=>[.pointer (some f.at_),.int .i64 f.next]
def nP (st:List Fr):List (Value × Value):=st.map fun f=>(.pointer (some f.at_),.int .i64 1)
def jR (st:List Fr):Nat:=dh (fun f=>dh aK (f.pf.kids.drop f.next)) st
theorem mV (st:List Fr):(qg st).length=st.length * 2:=by
 induction st with
 | nil=>rfl
 | cons f st ih=>unfold qg at *; simp only [List.flatMap_cons,χ,ih,List.length_cons,List.length_nil]; omega
theorem nR (st:List Fr) (f:Fr):qg (st ++ [f])=qg st ++ [.pointer (some f.at_),.int .i64 f.next]:=by
 unfold qg; simp
theorem vG (st:List Fr) (f:Fr):nP (st ++ [f])=nP st ++ [(.pointer (some f.at_),.int .i64 1)]:=by
 unfold nP; simp
theorem qh (st:List Fr) (f:Fr):jR (st ++ [f])=jR st+dh aK (f.pf.kids.drop f.next):=by
 unfold jR dh; simp
structure Way (BS:List Nat) (w:World) (st:List Fr):Prop where
 at_:∀ f ∈ st,AtP BS w f.at_ f.pf
 next:∀ f ∈ st,f.next≤f.pf.kids.length
 down:st.Pairwise fun f g=>aK g.pf < aK f.pf
theorem Way.nil (y:List Nat) (w:World):Way y w []:=⟨fun f h=>by simp at h,fun f h=>by simp at h,List.Pairwise.nil⟩
theorem Way.keep {y:List Nat} {w w':World} {st:List Fr} (h:Way y w st) (hk:∀ b ∈ y,w'.heap[b]? = w.heap[b]?):Way y w' st:=⟨fun f hf=>(h.at_ f hf).keep hk,h.next,h.down⟩
theorem Way.push {y:List Nat} {w:World} {st:List Fr} (h:Way y w st) {a:Addr} {p:Pf} (ha:AtP y w a p) (I:∀ f ∈ st,aK p < aK f.pf):Way y w (st ++ [⟨a,p,0⟩]):=by
 refine ⟨fun f hf=>?_,fun f hf=>?_,List.pairwise_append.2 ⟨h.down,List.pairwise_singleton _ _,fun f hf g J=>?_⟩⟩
 ·rcases μ.1 hf with hf | hf
  ·exact h.at_ f hf
  ·rw [ώ.1 hf]; exact ha
 ·rcases μ.1 hf with hf | hf
  ·exact h.next f hf
  ·rw [ώ.1 hf]; exact ε
 ·rw [ώ.1 J]; exact I f hf
theorem Way.pop {I:List Nat} {w:World} {st:List Fr} {f:Fr} (h:Way I w (st ++ [f])):Way I w st:=
 ⟨fun g y=>h.at_ g (Ξ _ y),fun g y=>h.next g (Ξ _ y),(List.pairwise_append.1 h.down).1⟩
theorem Way.step {J:List Nat} {w:World} {st:List Fr} {f:Fr} (h:Way J w (st ++ [f])) (hk:f.next < f.pf.kids.length):Way J w (st ++ [⟨f.at_,f.pf,f.next+1⟩]):=by
 refine ⟨fun g y=>?_,fun g y=>?_,List.pairwise_append.2 ⟨(List.pairwise_append.1 h.down).1,List.pairwise_singleton _ _,fun g y U I=>?_⟩⟩
 ·rcases μ.1 y with y | y
  ·exact h.at_ g (Ξ _ y)
  ·rw [ώ.1 y]; exact h.at_ f (by simp)
 ·rcases μ.1 y with y | y
  ·exact h.next g (Ξ _ y)
  ·rw [ώ.1 y]; exact hk
 ·rw [ώ.1 I]
  exact (List.pairwise_append.1 h.down).2.2 g y f (by simp)
theorem Way.kid {I:List Nat} {w:World} {st:List Fr} {f:Fr} (h:Way I w (st ++ [f])) (hk:f.next < f.pf.kids.length):∀ g ∈ st ++ [⟨f.at_,f.pf,f.next+1⟩],aK f.pf.kids[f.next] < aK g.pf:=by
 intro g y;have h1:=Pf.QB hk
 rcases μ.1 y with y | y
 ·have:=(List.pairwise_append.1 h.down).2.2 g y f (by simp)
  omega
 ·rw [ώ.1 y]; exact h1
theorem LJ {st:List Fr} {f:Fr} (hk:f.next < f.pf.kids.length):jR (st ++ [f])=jR (st ++ [⟨f.at_,f.pf,f.next+1⟩])+aK f.pf.kids[f.next]:=by
 rw [qh,qh,List.drop_eq_getElem_cons hk];simp only [dh,List.map_cons,List.sum_cons];omega
theorem LK {st:List Fr} {f:Fr} (hk:f.pf.kids.length≤f.next):jR (st ++ [f])=jR st:=by
 rw [qh,List.drop_eq_nil_of_le hk];simp [dh]
theorem LM {st:List Fr} {a:Addr} {p:Pf}:jR (st ++ [⟨a,p,0⟩])+1=jR st+aK p:=by
 rw [qh,kV p];simp only [List.drop_zero];omega
theorem Way.miss {y:List Nat} {w:World} {st:List Fr} (h:Way y w st) {a:Addr} {p:Pf} (ha:AtP y w a p) (I:∀ f ∈ st,aK p < aK f.pf):∀ q ∈ nP st,q.1 ≠ .pointer (some a):=by
 intro q hq e;unfold nP at hq;obtain ⟨f,hf,rfl⟩:=List.mem_map.1 hq;simp only [Value.pointer.injEq,Option.some.injEq] at e;have h1:=h.at_ f hf;rw [e] at h1;have:=h1.one ha;have J:=I f hf;rw [this] at J;omega
theorem QU {w:World} {base e size n g cap:Nat} {L M:List Value} (h:w.ownsRow base e size (.slice (some ⟨g,0,none⟩) (n+1) cap) (n+1) (L ++ M)) (U:L.length=n * size):w.ownsRow base e size (.slice (some ⟨g,0,none⟩) n cap) n L:=by
 rcases h.2 with ⟨h,_⟩ | ⟨g',a0,y,hv,hb,hh,a1,I,J,h4⟩
 ·cases h
 ·simp only [Value.slice.injEq,Option.some.injEq,Addr.mk.injEq,and_true,true_and] at hv
  obtain ⟨rfl,rfl⟩:=hv;refine ⟨U,.inr ⟨g,cap,y,rfl,hb,hh,by omega,I,J,?_⟩⟩;have h5:n * size≤(n+1) * size:=Nat.mul_le_mul_right _ (by omega);have:=congrArg (List.take (n * size)) h4;rw [List.take_take,Nat.min_eq_left h5] at this;rw [this,← U,List.take_left'];rfl
theorem mW {S:Value→Prop} {w:World} {base e size n b:Nat} {v:Value} {L:List Value} {E:List (Value × Value)} (h:w.ownsRow base e size v n L) (I:gq S b E w):v.ownBlock ≠ some b:=by
 obtain ⟨⟨es,c,J,_⟩,_,_⟩:=I
 rcases h.2 with ⟨rfl,_⟩ | ⟨g,cap,U,rfl,_,y,_⟩
 ·simp [Value.ownBlock]
 ·intro e'
  have:g=b:=by simpa [Value.ownBlock] using e'
  subst this;rw [J] at y;cases y
theorem mX {S:Value→Prop} {w:World} {b c:Nat} {cs:Array Value} {t:TypeId} {fr:Nat × Nat} {E:List (Value × Value)} (y:gq S b E w) (hc:w.heap[c]? = some (.cells cs t fr)):b ≠ c:=by
 obtain ⟨⟨es,J,I,_⟩,_,_⟩:=y;rintro rfl;rw [I] at hc;cases hc
theorem nS {w:World} {b:Nat} {cs:Array Value} {t:TypeId} {fr:Nat × Nat} (h:w.heap[b]? = some (.cells cs t fr)) (i:Nat) (v:Value):(w.setCell ⟨b,i,none⟩ v).heap[b]? = some (.cells (cs.setIfInBounds i v) t fr):=by
 obtain ⟨y,hk⟩:=Array.getElem?_eq_some_iff.1 h;show (w.heap.modify b _)[b]? = _;rw [Array.getElem?_eq_getElem (by rw [Array.size_modify]; exact y),Array.getElem_modify_self,hk];rfl
end D
namespace D
open Go.RowKit Go.Deep Go.ChangeShapes Go.WideShapes
def FU {α:Type} (P:Program) (e:TypeId) (m:Nat) (R:Rel α):Prop:=
 ∀ (H:Type) (enc:TypeId × Value→H) (w:World) (spare:Nat→Bool) (held:Bool) (fuel:Nat) (cs:List Value) (y:DataW H × List MemPlace),
  fuel≤m→DataW.trod enc P w 0 spare held fuel e cs=some y→∃ x I,R w cs x I
theorem FV {α:Type} {P:Program} {t e:TypeId} {n m:Nat} {R:Rel α} (ht:P.underlying t=some (.slice e)) (hC:P.cellsOf e=n) (hn:0 < n) (hR:FU P e m R):FU P t (m+1) (fK n R):=by
 intro H enc w spare held fuel cs y a6 h
 rcases DataW.trod_slice ht h with ⟨rfl,_⟩ | ⟨a,len,cap,elems,rest,n',a7,rfl,_,_,hl,hm,hlen,a3,_,_⟩
 ·exact ⟨[],[],none,0,rfl,ν,by unfold maxLen; omega,fun _=>rfl,fun h=>absurd rfl h⟩
 ·by_cases h0:len=0
  ·subst h0
   exact ⟨[],[],some a,cap,rfl,hl,hm,fun _=>rfl,fun h=>absurd rfl h⟩
  ·have hex:∀ k,k < len→∃ p:List Value × α × List Nat,p.1.length=n∧(∀ j v,p.1[j]? = some v→w.cell? (a.add (k * n+j))=some v)∧R w p.1 p.2.1 p.2.2:=by
    intro k hk;have h1:=a3 k hk;rw [Ψ (by omega)] at h1;obtain ⟨a0,hc,a4⟩:=Option.bind_eq_some_iff.1 h1;rw [hC] at hc;obtain ⟨_,J,U⟩:=World.cells?_some hc;obtain ⟨x,bs,hx⟩:=hR H enc w spare held n' a0 _ (by omega) a4;refine ⟨(a0,x,bs),J,fun j v hv=>?_,hx⟩
    have a5:j < n:=by
     have:=(List.getElem?_eq_some_iff.1 hv).1;dsimp only at this;omega
    have:=U j a5;rw [add_add] at this;rw [this]; exact hv
   obtain ⟨p0,_⟩:=hex 0 (by omega);haveI:Inhabited (List Value × α × List Nat):=⟨p0⟩;obtain ⟨f,hf⟩:=choose_lt hex
   have a1:a.spot=none:=by
    obtain ⟨q1,q2,_⟩:=hf 0 (by omega);obtain ⟨v,hv⟩:∃ v,(f 0).1[0]? = some v:=⟨_,Ψ (by omega)⟩;have h1:=q2 0 v hv;have h2:a.add (0 * n+0)=a:=by simp [Addr.add]
    rw [h2] at h1;exact World.cell?_spot h1
   obtain ⟨b,o,sp⟩:=a;dsimp only at a1;subst a1
   have a2:∀ i,(⟨b,o,none⟩:Addr).add i=⟨b,o+i,none⟩:=by
    intro i; unfold Addr.add; split <;> simp_all
   have I:((List.range len).map fun k=>(f k).2.1).length=len:=by simp
   refine ⟨(List.range len).map fun k=>(f k).2.1,b :: (List.range len).flatMap fun k=>(f k).2.2,some ⟨b,o,none⟩,cap,by rw [I],by rw [I]; exact hl,hm,fun h=>?_,fun _=>⟨b,o,rfl,fun k=>(f k).1,fun k=>(f k).2.2,by rw [I],fun k x hx=>?_⟩⟩
   ·have:=congrArg List.length h; rw [I] at this; exact absurd this h0
   ·obtain ⟨hk,rfl⟩:=List.getElem?_eq_some_iff.1 hx
    rw [I] at hk;obtain ⟨q1,q2,q3⟩:=hf k hk;refine ⟨q1,fun j v hv=>?_,?_⟩
    ·rw [← a2]; exact q2 j v hv
    ·simp only [List.getElem_map,List.getElem_range]; exact q3
theorem FW {P:Program} {t:TypeId} {f0 f1 f2:Field} (ht:P.underlying t=some (.struct #[f0,f1,f2])) (hC:P.cellsOf t=4) (h0:Opens P f0.type aP) (h1:P.underlying f1.type=some (.int .i64)) (h2:P.underlying f2.type=some (.slice t))
  (c0:P.cellsOf f0.type=2) (c1:P.cellsOf f1.type=1) (c2:P.cellsOf f2.type=1) (o0:f0.offset=0) (o1:f1.offset=2) (o2:f2.offset=3):∀ m,FU P t m (dP m):=by
 intro m
 induction m using Nat.strongRecOn with
 | _ m ih=>
 intro H enc w spare held fuel cs y J h;obtain ⟨xs,n,hn,_,hl,hlen,hf⟩:=DataW.trod_struct ht h
 match m,J,ih with
 | 0,J,_=>omega
 | m+1,J,ih=>
  rw [hC] at hl
  match xs,hlen with
  | [y0,y1,y2],_=>
   have t0:=hf 0 f0 rfl;have t1:=hf 1 f1 rfl;have t2:=hf 2 f2 rfl
   match cs,hl with
   | [a,b,c,d],_=>
    rw [c0,o0] at t0;rw [c1,o1] at t1;rw [c2,o2] at t2;simp only [List.getElem?_cons_zero,List.getElem?_cons_succ,List.drop_zero,List.drop_succ_cons,List.take_succ_cons,List.take_zero] at t0 t1 t2;obtain ⟨x0,a0,a2⟩:=h0 H enc w spare held n _ _ t0;obtain ⟨v1,e1,_,hw⟩:=DataW.trod_int h1 t1
    have hK:FU P f2.type m (kY (m - 1)):=by
     match m,ih with
     | 0,_=>
      intro H enc w spare held fuel cs y hf h;obtain rfl:fuel=0:=by omega
      simp [DataW.trod] at h
     | m+1,ih=>exact FV h2 hC (by omega) (ih m (by omega))
    obtain ⟨x2,U,I⟩:=hK H enc w spare held n _ _ (by omega) t2;obtain ⟨s,e0,hs,a3⟩:=a2;simp only [List.cons.injEq,and_true] at e0 e1;obtain ⟨rfl,rfl⟩:=e0;subst e1;simp only [Lit.wf,IntKind.min,IntKind.max,IntKind.signed,IntKind.bits] at hw;simp at hw
    have a1:fK 4 (dP m) w [d] x2 U:=by
     match m,I with
     | 0,I=>exact I
     | m+1,I=>exact Bo (D8 m) I
    exact ⟨.mk x0 v1 x2,a0 ++ U,b,d,a0,U,rfl,hs,hw,rfl,a3,a1⟩
end D
namespace D
open Go.RowKit Go.Lib
def yH (s:ByteArray):T:=⟨qI s,s⟩
def QV:A:=⟨⟨#[]⟩,[]⟩
def BP (nm inner:List UInt8):A:=⟨toB nm,if inner = [] then [] else (mQ 44 inner).map fun w=>yH (toB w)⟩
def VN (t:List UInt8):A × Bool:=if 1500 < t.length then (QV,false) else
 if (cut t [40]).2.2=true∧(cut t [40]).2.1.getLast? = some 41 then (if aZ (BP (cut t [40]).1 (cut t [40]).2.1.dropLast) then (BP (cut t [40]).1 (cut t [40]).2.1.dropLast,true) else (QV,false)) else (QV,false)
theorem BQ:∀ (y:List (List UInt8)),kG (y.map fun w=>yH (toB w))=joinL 44 y:=by
 have J:∀ (y:List (List UInt8)) (n:Nat),((y.map fun w=>yH (toB w)).zipIdx n).flatMap (fun x=>(if x.2=0 then [] else [44]) ++ x.1.name.data.toList)=(if n=0 then joinL 44 y else if y = [] then [] else 44 :: joinL 44 y):=by
  intro y
  induction y with
  | nil=>intro n; split <;> rfl
  | cons p ps ih=>
   intro n;rw [List.map_cons,List.zipIdx_cons,List.flatMap_cons,ih (n+1),if_neg (Nat.succ_ne_zero n)]
   cases ps with
   | nil=>
    by_cases I:n=0
    ·subst I; simp [joinL,yH,toB]
    ·simp [I,joinL,yH,toB]
   | cons q r=>
    by_cases I:n=0
    ·subst I; simp [joinL,yH,toB]
    ·simp [I,joinL,yH,toB]
 intro y;have:=J y 0;simpa [kG] using this
theorem FX (c:UInt8) (h:low c=true):c ≠ 40∧c ≠ 41∧c ≠ 44∧c ≠ 32:=by
 refine ⟨?_,?_,?_,?_⟩ <;> (intro e; subst e; exact absurd h (by decide))
theorem QW {s:ByteArray} (h:iD s=true):(40:UInt8) ∉ s.data.toList:=by
 unfold iD at h;simp only [ο] at h;intro hm;exact (FX _ (ό.1 h.1.2 _ hm)).1 rfl
end D
section
open Go.RowKit D
theorem wV (a:A) (y c1:Value) (I:List Nat) (w:World) (h:aP w [y,c1] a I) (J:jl a≤1048576):
 Calls Tryz.prog 39 #[.agg #[y,c1]] w (tV aP a w.heap.size w):=KY a y c1 I w h (by unfold jl at J; omega)
end
end Go.Proofs.YtlmngncogomgeaaGreatDoor
