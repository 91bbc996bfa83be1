/- Of the proof of FnExactDelta: SortP, AllP, ProgP, AGetP, Bulk, Atom, Copy, AtH, L3. -/
import Derived.Sort.KeysCollected
import Derived.Test.YtiidmgchadagbaaGreatDoorM09
import Derived.Test.YtiidmgchadagbaaGreatDoorM07
set_option linter.unusedVariables false
set_option maxHeartbeats 1000000
namespace Go.Proofs.YtiidmgchadagbaaGreatDoor.D
open Go.RowKit
theorem Om:∀ (l m:List UInt8),l < m ↔ jV rZ l m < 0
 | [],[]=>by simp [jV]
 | [],b :: m=>by simp [jV]
 | a :: l,[]=>by simp [jV]
 | a :: l,b :: m=>by
  have e:jV rZ (a :: l) (b :: m)=if rZ a b=0 then jV rZ l m else rZ a b:=rfl
  rw [List.cons_lt_cons_iff,Om l m,e];by_cases h:a=b
  ·subst h
   have h0:rZ a a=0:=AA.refl a;rw [if_pos h0];simp
  ·have hn:¬ rZ a b=0:=fun e=>h ((AA.eq a b).1 e)
   rw [if_neg hn]
   have h1:a < b ↔ rZ a b < 0:=by
    unfold rZ;by_cases hab:a < b
    ·simp [hab]
    ·rw [if_neg hab]
     constructor
     ·exact fun h2=>absurd h2 hab
     ·intro h2; split at h2 <;> omega
   rw [h1];constructor
   ·rintro (h2 | ⟨h2,_⟩)
    ·exact h2
    ·exact absurd h2 h
   ·exact .inl
theorem V4 {x y:List UInt8}:leB x y=true ↔ x≤y:=by simp [leB]
theorem Jc (ss:List (List UInt8)):(ss.mergeSort leB).Pairwise (fun a b=>a≤b):=by
 have tr:∀ a b c:List UInt8,leB a b=true→leB b c=true→leB a c=true:=fun a b c h1 h2=>by simp only [leB,decide_eq_true_eq] at *; exact List.le_trans h1 h2
 have to:∀ a b:List UInt8,(leB a b || leB b a)=true:=fun a b=>by simp only [leB,Bool.or_eq_true,decide_eq_true_eq]; exact List.le_total a b
 exact (List.pairwise_mergeSort tr to ss).imp fun h=>V4.1 h
theorem Jd {s:List (List UInt8)} (h:s.Pairwise (fun a b=>a≤b)):(Lib.compact s).Pairwise (fun a b=>a < b):=by
 unfold Lib.compact Lib.compactUpTo;have hat:∀ i,i < s.length→s.toArray[i]! = s[i]!:=fun i hi=>by simp
 refine List.pairwise_map.2 ?_;refine ((List.pairwise_lt_range (n:=s.length)).filter _).imp_of_mem ?_;intro i j hi hj hij;have hj':=List.mem_filter.1 hj;have hjl:j < s.length:=List.mem_range.1 hj'.1;have hk:j=0∨s.toArray[j]! ≠ s.toArray[j - 1]!:=by simpa [Lib.keeps] using hj'.2
 have hne:s.toArray[j]! ≠ s.toArray[j - 1]!:=hk.resolve_left (by omega);have hw:=List.pairwise_iff_getElem.1 h;have e1:s.toArray[i]! = s[i]'(by omega):=by rw [getElem!_pos _ _ (by simp; omega)]; simp
 have e2:s.toArray[j]! = s[j]'hjl:=by rw [getElem!_pos _ _ (by simp; omega)]; simp
 have e3:s.toArray[j - 1]! = s[j - 1]'(by omega):=by rw [getElem!_pos _ _ (by simp; omega)]; simp
 rw [e1,e2];rw [e2,e3] at hne
 have h1:s[i]'(by omega)≤s[j - 1]'(by omega):=by
  by_cases e:i=j - 1
  ·subst e; exact List.le_refl _
  ·exact hw i (j - 1) (by omega) (by omega) (by omega)
 have h2:s[j - 1]'(by omega)≤s[j]'hjl:=hw (j - 1) j (by omega) hjl (by omega);have h3:s[i]'(by omega)≤s[j]'hjl:=List.le_trans h1 h2;rw [← List.not_le];intro h4;exact hne (List.le_antisymm (List.le_trans h4 h1) h2)
theorem zF (s:List (List UInt8)) (x:List UInt8):x ∈ Lib.compact s ↔ x ∈ s:=by
 unfold Lib.compact Lib.compactUpTo;constructor
 ·intro h
  obtain ⟨j,hj,rfl⟩:=List.mem_map.1 h;have hjl:j < s.length:=List.mem_range.1 (List.mem_filter.1 hj).1;rw [getElem!_pos _ _ (by simpa using hjl)];simp
 ·intro h
  obtain ⟨j,hj,rfl⟩:=List.mem_iff_getElem.1 h
  have key:∀ (j:Nat) (hj:j < s.length),∃ i ∈ (List.range s.length).filter (Lib.keeps s.toArray),s.toArray[i]! = s.toArray[j]!:=by
   intro j
   induction j with
   | zero=>intro hj; exact ⟨0,List.mem_filter.2 ⟨List.mem_range.2 hj,by simp [Lib.keeps]⟩,rfl⟩
   | succ j ih=>
    intro hj;by_cases e:s.toArray[j+1]! = s.toArray[j]!
    ·obtain ⟨i,hi,he⟩:=ih (by omega)
     exact ⟨i,hi,by rw [he,e]⟩
    ·exact ⟨j+1,List.mem_filter.2 ⟨List.mem_range.2 hj,by simp only [Lib.keeps,decide_eq_true_eq]; exact .inr e⟩,rfl⟩
  obtain ⟨i,hi,he⟩:=key j hj;refine List.mem_map.2 ⟨i,hi,?_⟩;rw [he,getElem!_pos _ _ (by simpa using hj)];simp
theorem MR (s:List (List UInt8)):(Lib.compact s).length≤s.length:=by
 unfold Lib.compact Lib.compactUpTo;rw [List.length_map];exact Nat.le_trans (List.length_filter_le _ _) (by simp)
theorem bytes_inj {a b:ByteArray} (h:a.data.toList=b.data.toList):a=b:=by
 cases a; cases b; simp at h; rw [h]
theorem asc_one {xs ys:List (List UInt8)} (hx:xs.Pairwise (fun a b=>a < b)) (hy:ys.Pairwise (fun a b=>a < b)) (hm:∀ x,x ∈ xs ↔ x ∈ ys):xs=ys:=by
 have n1:xs.Nodup:=hx.imp fun {a b} h e=>by subst e; exact List.lt_irrefl _ h
 have n2:ys.Nodup:=hy.imp fun {a b} h e=>by subst e; exact List.lt_irrefl _ h
 refine List.Perm.eq_of_pairwise (le:=fun a b=>a < b) (fun a b _ _ h1 h2=>absurd (List.lt_trans h1 h2) (List.lt_irrefl _)) hx hy ((List.perm_ext_iff_of_nodup n1 n2).2 hm)
theorem BR {ss:List (List UInt8)} {xs:List ByteArray} (hx:sK xs) (hm:∀ b,b ∈ ss ↔ ∃ x ∈ xs,x.data.toList=b):Lib.compact (ss.mergeSort fun x y=>decide (x≤y))=xs.map (·.data.toList):=by
 refine asc_one (Jd (Jc ss)) ?_ ?_
 ·exact List.pairwise_map.2 (hx.imp fun {a b} h=>(Om _ _).2 h)
 ·intro b
  rw [zF,(List.mergeSort_perm ss leB).mem_iff,hm];simp
def jv (ts:List T):List ByteArray:=(ts.filter (·.var)).map (·.name)
def jw (ps:List Pt):List ByteArray:=ps.flatMap fun p=>jv p.atom.args
theorem Gx (ts:List T) (k:Nat) (h:k < ts.length):jv (ts.take (k+1))=jv (ts.take k) ++ (if ts[k].var then [ts[k].name] else []):=by
 unfold jv;rw [List.take_succ_eq_append_getElem h,List.filter_append,List.map_append]
 congr 1
 cases hv:ts[k].var <;> simp [hv]
theorem Gy (ps:List Pt) (k:Nat) (h:k < ps.length):jw (ps.take (k+1))=jw (ps.take k) ++ jv ps[k].atom.args:=by
 unfold jw;rw [List.take_succ_eq_append_getElem h,List.flatMap_append];simp
theorem Je (ts:List T) (x:ByteArray):x ∈ jv ts ↔ jZ x ts:=by
 unfold jv jZ;simp only [List.mem_map,List.mem_filter];constructor
 ·rintro ⟨t,⟨h1,h2⟩,h3⟩; exact ⟨t,h1,h2,h3⟩
 ·rintro ⟨t,h1,h2,h3⟩; exact ⟨t,⟨h1,h2⟩,h3⟩
theorem Jf (ps:List Pt) (x:ByteArray):x ∈ jw ps ↔ ∃ p ∈ ps,jZ x p.atom.args:=by
 unfold jw;simp only [List.mem_flatMap,Je]
theorem zG (ts:List T):(jv ts).length≤ts.length:=by
 unfold jv; rw [List.length_map]; exact List.length_filter_le _ _
theorem sU:∀ (ps:List Pt),(jw ps).length≤bI (fun p=>p.atom.args.length) ps
 | []=>by simp [jw]
 | p :: ps=>by
  have h1:=sU ps;have h2:=zG p.atom.args;simp only [jw,bI,List.flatMap_cons,List.length_append,List.map_cons,List.sum_cons] at *;omega
theorem Gz (ps:List Pt):Lib.compact (((jw ps).map (·.data.toList)).mergeSort fun x y=>decide (x≤y))=(aG ps).map (·.data.toList):=by
 refine BR (lX ps sN) fun b=>?_
 simp only [List.mem_map,Jf];constructor
 ·rintro ⟨x,h,rfl⟩; exact ⟨x,(iq ps [] x).2 (.inr h),rfl⟩
 ·rintro ⟨x,h,rfl⟩
  refine ⟨x,?_,rfl⟩
  rcases (iq ps [] x).1 h with h | h
  ·simp at h
  ·exact h
def jP (list:List A) (a:A) (b:Bd):List Bd:=list.filterMap fun f=>if (aK a f b).2 then some (aK a f b).1 else none
def EM (list:List A) (p:Pt) (out:List Bd):List Bd:=if p.no then out else out.flatMap (jP list p.atom)
def xB (list:List A) (body:List Pt):List Bd:=body.foldl (fun out p=>EM list p out) [[]]
theorem uK (list:List A) (body:List Pt) (k:Nat) (h:k < body.length):xB list (body.take (k+1))=EM list body[k] (xB list (body.take k)):=by
 unfold xB;rw [List.take_succ_eq_append_getElem h,List.foldl_append];rfl
theorem MS (list:List A) (a:A) (b:Bd) (j:Nat) (h:j < list.length):jP (list.take (j+1)) a b=jP (list.take j) a b ++ (if (aK a list[j] b).2 then [(aK a list[j] b).1] else []):=by
 unfold jP;rw [List.take_succ_eq_append_getElem h,List.filterMap_append]
 congr 1
 by_cases hm:(aK a list[j] b).2=true
 ·simp [hm]
 ·simp [hm]
theorem EN (list:List A) (a:A) (b:Bd):(jP list a b).length≤list.length:=List.length_filterMap_le _ _
theorem xC {list:List A} {a:A}:∀ (out:List Bd),(out.flatMap (jP list a)).length≤out.length * list.length:=by
 intro out
 induction out with
 | nil=>simp
 | cons b out ih=>
  rw [List.flatMap_cons,List.length_append,List.length_cons,Nat.add_mul,Nat.one_mul];have:=EN list a b;omega
theorem Pv (list:List A) (a:A) (out:List Bd) (k:Nat) (h:k < out.length):(out.take (k+1)).flatMap (jP list a)=(out.take k).flatMap (jP list a) ++ jP list a out[k]:=by
 rw [List.take_succ_eq_append_getElem h,List.flatMap_append];simp
theorem Px {list:List A} {p:Pt} {out:List Bd} {n:Nat} (hl:list.length≤300) (h:out.length≤300 ^ n):(EM list p out).length≤300 ^ (n+1):=by
 unfold EM
 split
 ·exact Nat.le_trans h (Nat.pow_le_pow_right (by omega) (by omega))
 ·refine Nat.le_trans (xC out) ?_
  rw [Nat.pow_succ];exact Nat.mul_le_mul h hl
theorem qV:∀ (ts fs:List T) (b:Bd),(cu ts fs b).1.length≤b.length+ts.length
 | [],fs,b=>by cases fs <;> simp [cu]
 | t :: ts,[],b=>by simp [cu]
 | t :: ts,f :: fs,b=>by
  rw [cu]
  split
  ·split
   ·split
    ·have:=qV ts fs b
     simp only [List.length_cons]; omega
    ·simp
   ·have:=qV ts fs (b ++ [(t.name,f.name)])
    simp only [List.length_append,List.length_cons,List.length_nil] at this ⊢; omega
  ·split
   ·have:=qV ts fs b
    simp only [List.length_cons]; omega
   ·simp
theorem BU (a f:A) (b:Bd):(aK a f b).1.length≤b.length+a.args.length:=by
 unfold aK
 split
 ·exact qV _ _ _
 ·simp
theorem MV {list:List A} {a:A} {b b':Bd} (h:b' ∈ jP list a b):b'.length≤b.length+a.args.length:=by
 unfold jP at h;obtain ⟨f,_,hf⟩:=List.mem_filterMap.1 h
 split at hf
 ·cases hf
  exact BU a f b
 ·cases hf
def iZ (list:List A) (body:List Pt) (b:Bd):Bool:=body.all fun p=>!p.no || !hasB list (bY p.atom b)
def allB (list:List A) (body:List Pt):List Bd:=(xB list body).filter (iZ list body)
def jH (r:Ru):List A:=r.head :: r.body.map (·.atom)
def aQ (rs:List Ru):List A:=rs.flatMap jH
def fJ (ps:List Pt):List A:=ps.map (·.atom)
theorem pR (rs:List Ru) (k:Nat) (h:k < rs.length):aQ (rs.take (k+1))=aQ (rs.take k) ++ [rs[k].head] ++ fJ rs[k].body:=by
 rw [List.take_succ_eq_append_getElem h]; unfold aQ jH fJ; simp only [List.flatMap_append,List.flatMap_cons,List.flatMap_nil,List.append_nil,List.append_assoc,List.cons_append,List.nil_append]
theorem sV (ps:List Pt) (k:Nat) (h:k < ps.length):fJ (ps.take (k+1))=fJ (ps.take k) ++ [ps[k].atom]:=by
 rw [List.take_succ_eq_append_getElem h]; unfold fJ; simp only [List.map_append,List.map_cons,List.map_nil]
theorem mr (ps:List Pt):(fJ ps).length=ps.length:=by unfold fJ; simp
def kJ (st:List ByteArray × (ByteArray→Int) × Bool) (a:A):List ByteArray × (ByteArray→Int) × Bool:=
 if a.name ∈ st.1∧st.2.1 a.name ≠ a.args.length then (st.1,st.2.1,false) else (gQ st.1 a.name,fun t=>if t=a.name then a.args.length else st.2.1 t,st.2.2)
def dN (xs:List A):List ByteArray × (ByteArray→Int) × Bool:=xs.foldl kJ ([],fun _=>0,true)
theorem wB (xs:List A) (a:A):dN (xs ++ [a])=kJ (dN xs) a:=by unfold dN; rw [List.foldl_append]; rfl
def jQ (xs:List A):Bool:=xs.all fun a=>xs.all fun b=>decide (a.name=b.name→a.args.length=b.args.length)
theorem xE (xs:List A):(∀ s,s ∈ (dN xs).1 ↔ ∃ a ∈ xs,a.name=s)∧(dN xs).1.length≤xs.length∧(∀ s ∈ (dN xs).1,∃ a ∈ xs,a.name=s∧(dN xs).2.1 s=a.args.length)∧
  ((dN xs).2.2=true ↔ ∀ a ∈ xs,(dN xs).2.1 a.name=a.args.length):=by
 have key:∀ (n:Nat) (xs:List A),xs.length=n→(∀ s,s ∈ (dN xs).1 ↔ ∃ a ∈ xs,a.name=s)∧(dN xs).1.length≤xs.length∧(∀ s ∈ (dN xs).1,∃ a ∈ xs,a.name=s∧(dN xs).2.1 s=a.args.length)∧
   ((dN xs).2.2=true ↔ ∀ a ∈ xs,(dN xs).2.1 a.name=a.args.length):=by
  intro n
  induction n with
  | zero=>
   intro xs hx;obtain rfl:=List.length_eq_zero_iff.1 hx;exact ⟨fun s=>by simp [dN],Nat.le_refl _,fun s h=>by simp [dN] at h,by simp [dN]⟩
  | succ n ih=>
   intro xs hx
   obtain ⟨ys,a,rfl⟩:∃ ys a,xs=ys ++ [a]:=by
    rcases List.eq_nil_or_concat xs with rfl | ⟨ys,a,rfl⟩
    ·simp at hx
    ·exact ⟨ys,a,by simp⟩
   obtain ⟨i1,i0,i2,i3⟩:=ih ys (by simpa using hx);rw [wB];by_cases hc:a.name ∈ (dN ys).1∧(dN ys).2.1 a.name ≠ a.args.length
   ·have e:kJ (dN ys) a=((dN ys).1,(dN ys).2.1,false):=by unfold kJ; rw [if_pos hc]
    rw [e];refine ⟨fun s=>⟨fun h=>?_,fun h=>?_⟩,by simp; omega,fun s h=>?_,⟨fun h=>by simp at h,fun h=>absurd (h a (by simp)) hc.2⟩⟩
    ·obtain ⟨b,hb,e⟩:=(i1 s).1 h
     exact ⟨b,by simp [hb],e⟩
    ·obtain ⟨b,hb,e⟩:=h
     rcases List.mem_append.1 hb with hb | hb
     ·exact (i1 s).2 ⟨b,hb,e⟩
     ·rw [List.mem_singleton.1 hb] at e
      rw [← e]; exact hc.1
    ·obtain ⟨b,hb,e⟩:=i2 s h
     exact ⟨b,by simp [hb],e⟩
   ·have e:kJ (dN ys) a=(gQ (dN ys).1 a.name,fun t=>if t=a.name then (a.args.length:Int) else (dN ys).2.1 t,(dN ys).2.2):=by unfold kJ; rw [if_neg hc]
    rw [e];refine ⟨fun s=>?_,?_,fun s h=>?_,?_⟩
    ·rw [jg,i1 s]
     simp only [List.mem_append,List.mem_singleton];constructor
     ·rintro (⟨b,hb,e⟩ | rfl)
      ·exact ⟨b,.inl hb,e⟩
      ·exact ⟨a,.inr rfl,rfl⟩
     ·rintro ⟨b,hb | rfl,e'⟩
      ·exact .inl ⟨b,hb,e'⟩
      ·exact .inr e'.symm
    ·have:(gQ (dN ys).1 a.name).length≤(dN ys).1.length+1:=by unfold gQ; split <;> simp
     simp; omega
    ·dsimp only
     by_cases es:s=a.name
     ·exact ⟨a,by simp,es.symm,by rw [if_pos es]⟩
     ·rw [if_neg es]
      obtain ⟨b,hb,e⟩:=i2 s ((jg.1 h).resolve_right es);exact ⟨b,by simp [hb],e⟩
    ·dsimp only
     rw [i3];constructor
     ·intro h b hb
      by_cases eb:b.name=a.name
      ·rw [if_pos eb]
       rcases List.mem_append.1 hb with hb | hb
       ·have h1:a.name ∈ (dN ys).1:=(i1 _).2 ⟨b,hb,eb⟩
        have h2:(dN ys).2.1 a.name=a.args.length:=Classical.byContradiction fun h=>hc ⟨h1,h⟩
        have h3:=h b hb;rw [eb] at h3;rw [← h2,h3]
       ·rw [List.mem_singleton.1 hb]
      ·rw [if_neg eb]
       rcases List.mem_append.1 hb with hb | hb
       ·exact h b hb
       ·rw [List.mem_singleton.1 hb] at eb; exact absurd rfl eb
     ·intro h b hb
      have h0:=h b (by simp [hb]);by_cases eb:b.name=a.name
      ·have h1:a.name ∈ (dN ys).1:=(i1 _).2 ⟨b,hb,eb⟩
       have h2:(dN ys).2.1 a.name=a.args.length:=Classical.byContradiction fun h=>hc ⟨h1,h⟩
       rw [if_pos eb] at h0;rw [eb,h2,h0]
      ·rw [if_neg eb] at h0
       exact h0
 exact key _ xs rfl
theorem zH (xs:List A):(dN xs).2.2=jQ xs:=by
 obtain ⟨i1,_,i2,i3⟩:=xE xs;refine Bool.eq_iff_iff.2 (i3.trans ?_);unfold jQ;simp only [List.all_eq_true,decide_eq_true_eq];constructor
 ·intro h a ha b hb e
  have h1:=h a ha;have h2:=h b hb;rw [e,h2] at h1;exact_mod_cast h1.symm
 ·intro h a ha
  obtain ⟨b,hb,e,h2⟩:=i2 a.name ((i1 _).2 ⟨a,ha,rfl⟩);rw [h2,h b hb a ha e]
theorem Jg {xs:List A} (h:jQ xs=true) {a:A} (ha:a ∈ xs):(dN xs).2.1 a.name=a.args.length:=(xE xs).2.2.2.1 (by rw [zH]; exact h) a ha
theorem Jh {xs:List A} {m:Nat} (h:∀ a ∈ xs,a.args.length≤m) {s:ByteArray} (hs:s ∈ (dN xs).1):0≤(dN xs).2.1 s∧(dN xs).2.1 s≤m:=by
 obtain ⟨a,ha,_,e⟩:=(xE xs).2.2.1 s hs;have:=h a ha;omega
def clash (a b:A):Bool:=decide (a.name=b.name) && decide (a.args.length ≠ b.args.length)
theorem zI (xs:List A):jQ xs = !(xs.any fun a=>xs.any fun b=>clash a b):=by
 unfold jQ clash;simp only [List.all_eq_not_any_not]
 congr 2
 funext a
 simp only [Bool.not_not]
 congr 1
 funext b
 by_cases h1:a.name=b.name <;> by_cases h2:a.args.length=b.args.length <;> simp [h1,h2]
theorem MW (a b:A):clash a b=clash b a:=by
 unfold clash;rw [decide_eq_decide.2 (eq_comm:a.name=b.name ↔ b.name=a.name),decide_eq_decide.2 (ne_comm:a.args.length ≠ b.args.length ↔ b.args.length ≠ a.args.length)]
theorem MX (a:A):clash a a=false:=by simp [clash]
theorem Py {xs:List A} (h:∀ i,(hi:i < xs.length)→∀ k,(hk:k < i)→clash xs[i] (xs[k]'(by omega))=false):jQ xs=true:=by
 rw [zI];simp only [Bool.not_eq_true',List.any_eq_false,Bool.not_eq_true];intro a ha b hb;obtain ⟨i,hi,rfl⟩:=List.mem_iff_getElem.1 ha;obtain ⟨k,hk,rfl⟩:=List.mem_iff_getElem.1 hb
 rcases Nat.lt_trichotomy i k with h1 | h1 | h1
 ·rw [MW]; exact h k hk i h1
 ·subst h1; exact MX _
 ·exact h i hi k h1
theorem Sm {xs:List A} {i k:Nat} (hi:i < xs.length) (hk:k < xs.length) (h:clash xs[i] xs[k]=true):jQ xs=false:=by
 rw [zI];simp only [Bool.not_eq_false',List.any_eq_true];exact ⟨_,List.getElem_mem hi,_,List.getElem_mem hk,h⟩
def fO (rs:List Ru):Nat:=
 if rs.all fC=false then 1 else if 8 < rs.length then 2 else if jQ (aQ rs)=false then 3 else if (rs.all fun r=>fM r.head r.body)=false then 4 else if lY rs=true then 5 else 0
theorem Ji (rs:List Ru):fO rs≤5:=by unfold fO; repeat (first | omega | split)
structure Fine (rs:List Ru):Prop where
 ok:rs.all fC=true
 few:rs.length≤8
 alike:jQ (aQ rs)=true
 tight:(rs.all fun r=>fM r.head r.body)=true
 no:lY rs=false
theorem sW (rs:List Ru):fO rs=0 ↔ Fine rs:=by
 unfold fO;constructor
 ·intro h
  split at h
  ·omega
  ·rename_i h1
   split at h
   ·omega
   ·rename_i h2
    split at h
    ·omega
    ·rename_i h3
     split at h
     ·omega
     ·rename_i h4
      split at h
      ·omega
      ·rename_i h5
       exact ⟨by simpa using h1,by omega,by simpa using h3,by simpa using h4,by simpa using h5⟩
 ·rintro ⟨h1,h2,h3,h4,h5⟩
  rw [if_neg (by simp [h1]),if_neg (by omega),if_neg (by simp [h3]),if_neg (by simp [h4]),if_neg (by simp [h5])]
theorem kV {r:Ru} (h:fC r=true):r.body.length≤4∧(∀ a ∈ jH r,aZ a=true)∧∀ a ∈ jH r,a.args.length≤3:=by
 unfold fC oW at h;simp only [Bool.and_eq_true,decide_eq_true_eq,List.all_eq_true] at h
 have h1:∀ a ∈ jH r,aZ a=true:=fun a ha=>by
  unfold jH at ha
  rcases List.mem_cons.1 ha with rfl | ha
  ·exact h.2
  ·obtain ⟨p,hp,rfl⟩:=List.mem_map.1 ha
   exact h.1.2 p hp
 exact ⟨h.1.1,h1,fun a ha=>by
  have:=h1 a ha;unfold aZ at this;simp only [Bool.and_eq_true,decide_eq_true_eq] at this
  exact this.1.2⟩
theorem xG {rs:List Ru} {a:A} (h:a ∈ aQ rs):∃ r ∈ rs,a ∈ jH r:=by
 obtain ⟨r,hr,ha⟩:=List.mem_flatMap.1 h;exact ⟨r,hr,ha⟩
theorem lD {rs:List Ru} (h:rs.all fC=true):(∀ a ∈ aQ rs,a.args.length≤3)∧(aQ rs).length≤5 * rs.length:=by
 refine ⟨fun a ha=>?_,?_⟩
 ·obtain ⟨r,hr,ha⟩:=xG ha
  exact (kV (List.all_eq_true.1 h r hr)).2.2 a ha
 ·unfold aQ
  induction rs with
  | nil=>simp
  | cons r rs ih=>
   simp only [List.all_cons,Bool.and_eq_true] at h;have h1:=(kV h.1).1;have h2:=ih h.2;simp only [List.flatMap_cons,List.length_append,List.length_cons,jH,List.length_map] at *;omega
end Go.Proofs.YtiidmgchadagbaaGreatDoor.D
namespace Go.Proofs.YtiidmgchadagbaaGreatDoor.D
open Go.RowKit Go.Lib
def yQ (s:ByteArray):T:=⟨rU s,s⟩
def Sr:A:=⟨⟨#[]⟩,[]⟩
def BV (nm inner:List UInt8):A:=⟨toB nm,if inner = [] then [] else (oD 44 inner).map fun w=>yQ (toB w)⟩
def WI (t:List UInt8):A × Bool:=if 1500 < t.length then (Sr,false) else
 if (cut t [40]).2.2=true∧(cut t [40]).2.1.getLast? = some 41 then (if aZ (BV (cut t [40]).1 (cut t [40]).2.1.dropLast) then (BV (cut t [40]).1 (cut t [40]).2.1.dropLast,true) else (Sr,false)) else (Sr,false)
theorem BX:∀ (ws:List (List UInt8)),lu (ws.map fun w=>yQ (toB w))=joinL 44 ws:=by
 have key:∀ (ws:List (List UInt8)) (n:Nat),((ws.map fun w=>yQ (toB w)).zipIdx n).flatMap (fun x=>(if x.2=0 then [] else [44]) ++ x.1.name.data.toList)=(if n=0 then joinL 44 ws else if ws = [] then [] else 44 :: joinL 44 ws):=by
  intro ws
  induction ws with
  | nil=>intro n; split <;> rfl
  | cons p ps ih=>
   intro n;rw [List.map_cons,List.zipIdx_cons,List.flatMap_cons,ih (n+1),if_neg (Nat.succ_ne_zero n)]
   cases ps with
   | nil=>
    by_cases hn:n=0
    ·subst hn; simp [joinL,yQ,toB]
    ·simp [hn,joinL,yQ,toB]
   | cons q r=>
    by_cases hn:n=0
    ·subst hn; simp [joinL,yQ,toB]
    ·simp [hn,joinL,yQ,toB]
 intro ws;have:=key ws 0;simpa [lu] using this
theorem GH (c:UInt8) (h:low c=true):c ≠ 40∧c ≠ 41∧c ≠ 44∧c ≠ 32:=by
 refine ⟨?_,?_,?_,?_⟩ <;> (intro e; subst e; exact absurd h (by decide))
theorem Sv {s:ByteArray} (h:iQ s=true):(40:UInt8) ∉ s.data.toList:=by
 unfold iQ at h;simp only [Bool.and_eq_true] at h;intro hm;exact (GH _ (List.all_eq_true.1 h.1.2 _ hm)).1 rfl
end Go.Proofs.YtiidmgchadagbaaGreatDoor.D
namespace Go.Proofs.YtiidmgchadagbaaGreatDoor
open Go.RowKit D
theorem Cb (a:A) (c0 c1:Value) (bs:List Nat) (w:World) (h:aU w [c0,c1] a bs) (hn:jm a≤1048576):
 Calls Tryz.prog 34 #[.agg #[c0,c1]] w (vJ aU a w.heap.size w):=MP a c0 c1 bs w h (by unfold jm at hn; omega)
theorem sZ (a:A) (c0 c1:Value) (bs:List Nat) (w:World) (h:aU w [c0,c1] a bs):
  Calls Tryz.prog 122 #[.agg #[c0,c1]] w fun e w'=>e=.returned (.bool (aZ a))∧Below w.heap.size w w':=by
 obtain ⟨s,hcs,hnm,ht⟩:=h;simp only [List.cons.injEq,and_true] at hcs;obtain ⟨rfl,rfl⟩:=hcs;obtain ⟨Ad,cap,rfl,hl,hm⟩:=af ht;have hlm:=au (Nat.le_trans hl hm);clear hm;have hn:=fun w=>zq a.name w hnm
 unfold aZ;obtain ⟨nm,ts⟩:=a;dsimp only at *;generalize iQ nm=b at *
 go_enter Tryz.func122,Tryz.ntmps122
 go_wp2
 go_loopw [3] (fun i wr=>∃ k:Nat,k≤ts.length∧i=.int .i64 k∧(ts.take k).all jd=true∧Below w.heap.size w wr∧wr.cell? ⟨w.heap.size,0,none⟩=some (.string nm)∧wr.cell? ⟨w.heap.size,1,none⟩=some (.slice Ad ts.length cap)∧w.heap.size < wr.heap.size) (fun i _=>ts.length - (intOf i).toNat)
 case atStart=>exact ⟨0,Nat.zero_le _,rfl,rfl,(Below.refl _ _).alloc (Nat.le_refl _) _,by simp,by simp,by simp⟩
 case round=>
  obtain ⟨k,hk,rfl,hall,hb,hc0,hc1,hsz⟩:=hrel;have HA:=η hall;clear hall;by_cases hlt:k < ts.length
  ·have hw:=aH.below ht hb
   obtain ⟨b0,o,rfl,_,d0,d1,hnm⟩:=dV hw hlt;have HT:=η ht;clear ht hw
   go_wp2_with (go_at_call 163; refine (MK _ _ hnm).mono ?_; rintro e w' ⟨rfl,hb'⟩)
   ·have hx:(!jd ts[k])=true:=by assumption
    go_ret;exact ⟨aO (by rw [uF ts k hlt (by simpa using hx)]; simp),hb.trans (hb'.mono (by omega))⟩
   ·have hx:(!jd ts[k])=false:=by assumption
    go_roundw
    case rel=>exact ⟨k+1,by omega,by go_num,by rw [je ts k hlt,HA.out]; simpa using hx,hb.trans (hb'.mono (by omega)),cell_later hb' hc0,cell_later hb' hc1,by have:=hb'.size; omega⟩
    case measure=>simp [intOf]; omega
  ·have he:k=ts.length:=by omega
   subst he;have ha:ts.all jd=true:=by have:=HA.out; rwa [List.take_of_length_le (Nat.le_refl _)] at this
   have HA2:=η ha;clear ha;cases b
   all_goals
    go_wp2_with (go_at_call 164; refine (hn _).mono ?_; rintro e w3 ⟨rfl,rfl⟩)
    go_ret;exact ⟨aO (by rw [HA2.out]; first | (simp; done) | (rw [Bool.eq_iff_iff]; simp; omega)),hb⟩
theorem tq (a:A) (c0 c1:Value) (bs:List Nat) (w:World) (h:aU w [c0,c1] a bs):
  Calls Tryz.prog 159 #[.agg #[c0,c1]] w fun e w'=>e=.returned (.bool (aZ a))∧Below w.heap.size w w':=by
 obtain ⟨s,hcs,hnm,ht⟩:=h;simp only [List.cons.injEq,and_true] at hcs;obtain ⟨rfl,rfl⟩:=hcs;obtain ⟨Ad,cap,rfl,hl,hm⟩:=af ht;have hlm:=au (Nat.le_trans hl hm);clear hm;have hn:=fun w=>zu a.name w hnm
 unfold aZ;obtain ⟨nm,ts⟩:=a;dsimp only at *;generalize iQ nm=b at *;by_cases h3:ts.length≤3
 all_goals cases b
 case pos.true=>
  go_enter Tryz.func159,Tryz.ntmps159
  go_wp2_with (go_at_call 188; refine (hn _).mono ?_; rintro e w3 ⟨rfl,rfl⟩)
  go_loopw [18] (fun i wr=>∃ k:Nat,k≤ts.length∧i=.int .i64 k∧(ts.take k).all jd=true∧Below w.heap.size w wr) (fun i _=>ts.length - (intOf i).toNat)
  case atStart=>exact ⟨0,Nat.zero_le _,rfl,rfl,(Below.refl _ _).alloc (Nat.le_refl _) _⟩
  case round=>
   obtain ⟨k,hk,rfl,hall,hb⟩:=hrel;have HA:=η hall;clear hall;by_cases hlt:k < ts.length
   ·have hw:=aH.below ht hb
    obtain ⟨b0,o,rfl,_,d0,d1,hnm⟩:=dV hw hlt;have HT:=η ht;clear ht hw
    go_wp2_with (go_at_call 189; refine (MJ _ _ hnm).mono ?_; rintro e w' ⟨rfl,hb'⟩)
    ·have hx:(!jd ts[k])=true:=by assumption
     go_ret;exact ⟨aO (by rw [uF ts k hlt (by simpa using hx)]; simp),(hb.alloc hb.size _).trans (hb'.mono (by have:=hb.size; simp; omega))⟩
    ·have hx:(!jd ts[k])=false:=by assumption
     go_roundw
     case rel=>exact ⟨k+1,by omega,by go_num,by rw [je ts k hlt,HA.out]; simpa using hx,(hb.alloc hb.size _).trans (hb'.mono (by have:=hb.size; simp; omega))⟩
     case measure=>simp [intOf]; omega
   ·have he:k=ts.length:=by omega
    subst he;have ha:ts.all jd=true:=by have:=HA.out; rwa [List.take_of_length_le (Nat.le_refl _)] at this
    have HA2:=η ha;clear ha;go_wp2;go_ret;exact ⟨aO (by rw [HA2.out]; simp; omega),hb⟩
 all_goals
  go_enter Tryz.func159,Tryz.ntmps159
  go_wp2_with (go_at_call 188; refine (hn _).mono ?_; rintro e w3 ⟨rfl,rfl⟩)
  all_goals (go_ret; exact ⟨aO (by first | (simp; done) | (simp; omega)),(Below.refl _ _).alloc (Nat.le_refl _) _⟩)
theorem vg (ts:List A) (v:Value) (bs:List Nat) (w:World) (h:aI w [v] ts bs) (hn:ts.length≤16777216) (ha:∀ a ∈ ts,a.args.length≤16777216):
  Calls Tryz.prog 36 #[v] w (Makes aI ts w.heap.size w):=by
 obtain ⟨Ad,cap,rfl,hl,hm⟩:=af h;obtain ⟨i0,hi,hz0,hz1,hz2⟩:=info_parts qg;clear hm;by_cases h0:ts.length=0
 ·have hl:((ts.length:Int) == 0)=true:=beq_iff_eq.2 (by omega)
  have hx:ts = []:=List.length_eq_zero_iff.1 h0;have HX:=η hx;clear h h0 hx hi hz0 hz1 hz2 ha
  go_enter Tryz.func36,Tryz.ntmps36
  go_wp2;go_ret;exact ⟨Below.refl _ _,_,[],rfl,by rw [HX.out]; exact dA _,New.nil _ _⟩
 ·have hl0:((ts.length:Int) == 0)=false:=beq_eq_false_iff_ne.2 (by omega)
  go_enter Tryz.func36,Tryz.ntmps36
  go_wp2_with (at_make; refine wpList_make_full _ rfl _ _ _ rfl w.heap.size 68 i0 _ 2 Tryz.underlying26 hi hz0 hz1 _ _ _ _ ts.length rfl rfl rfl rfl (by rw [hz2]; omega) (by unfold maxLen; omega) (Nat.le_refl _) ?_; intro w1 hown hgrow)
  have hb1:Below w.heap.size w w1:=(Below.refl _ _).grown hgrow (Nat.le_refl _) (fun _ e=>by cases e);have hg1:w.heap.size < w1.heap.size:=(hown.lt _ rfl).2;clear hgrow hl0
  go_loopw [14] (fun i wr=>∃ (k:Nat) (L:List Value) (bs':List Nat),k≤ts.length∧i=.int .i64 k∧wr.ownsRow w.heap.size 68 2 (.slice (some ⟨w.heap.size,0,none⟩) ts.length ts.length) ts.length L∧
    gX 2 aU w1.heap.size wr L ts k bs'∧Below w.heap.size w wr∧w1.heap.size≤wr.heap.size) (fun i _=>ts.length - (intOf i).toNat)
  case atStart=>exact ⟨0,_,_,Nat.zero_le _,rfl,hown,gX.start,hb1,Nat.le_refl _⟩
  case round=>
   obtain ⟨k,L,bs',hk,rfl,how,hF,hb,hsz⟩:=hrel;clear hown hb1;by_cases hlt:k < ts.length
   ·have hw:=ai.below h hb
    obtain ⟨b,o,Ae,ce,bk,rfl,_,c0,c1,hel,_⟩:=dG hw hlt;have hle:ts[k].args.length≤16777216:=ha _ (List.getElem_mem _);have HK:=η hF;have hk0:(0:Int)≤(k:Int):=by omega
    have hk1:(k:Int) < (ts.length:Int):=by omega
    clear h hw hF ha;have hL:=η how.1;have hA:Below wr.heap.size wr (wr.alloc (.cells #[.string ts[k].name,.slice Ae ts[k].args.length ce] 68)):=(Below.refl _ _).alloc (Nat.le_refl _) _;have hc:=Gq ts[k] _ _ bk _ (aj.below hel hA) hle
    go_wp2_with fail
    refine hc.mono ?_;rintro e w' ⟨hb',cs',b2,rfl,hR,hN⟩;obtain ⟨Ae',ce',rfl⟩:=lQ hR;have hB:=hA.trans (hb'.mono hA.size);have how':=own_below how hB;obtain ⟨⟨u0,hu0⟩,hf0⟩:=jA how' (j:=k * 2) (by omega);obtain ⟨⟨u1,hu1⟩,hf1⟩:=jA how' (j:=k * 2+1) (by omega);obtain ⟨R1,R2,R3,R4⟩:=Q9 aj how HK.out hlt hb hB hg1 (Nat.le_refl _) hsz hR (hN.mono hA.size);clear how' hel hR hN hc;go_wp2;go_roundw
    case rel=>exact ⟨k+1,_,_,by omega,by go_num,R1,R2,R3,R4⟩
    case measure=>simp [intOf]; omega
   ·have he:k=ts.length:=by omega
    subst he;have HF:=η hF;clear hF;go_wp2;go_ret;obtain ⟨b2,r1,r2,r3,r4⟩:=HF.out.slice how (fun hm=>by have:=(HF.out.new.own _ hm).1; omega);refine ⟨hb,_,b2,rfl,r1,r2,fun b hb'=>⟨?_,r4 b hb'⟩⟩
    rcases r3 b hb' with ⟨rfl,h⟩ | h
    ·exact h
    ·have:=(HF.out.new.own b h).1; omega
end Go.Proofs.YtiidmgchadagbaaGreatDoor
namespace Go.Proofs.YtiidmgchadagbaaGreatDoor
open Go.RowKit D
attribute [local go_sem ↓] Go.wp_at_zero Go.wp_at_succ
theorem yR (xs:List A) (a:A) (v d0 d1:Value) (bs b2:List Nat) (w:World) (h:aI w [v] xs bs) (h2:aU w [d0,d1] a b2) (hs:ig xs=true):
  Calls Tryz.prog 77 #[v,.agg #[d0,d1]] w fun e w'=>e=.returned (.bool (hasB xs a))∧Below w.heap.size w w':=by
 obtain ⟨Ad,cap,rfl,hl,hm⟩:=af h;obtain ⟨Aa,ca,rfl,rfl⟩:=bJ h2;have hA0:Below w.heap.size w (w.alloc (.cells #[.string a.name,.slice Aa a.args.length ca] 68)):=(Below.refl _ _).alloc (Nat.le_refl _) _;have hk:=xA xs a _ _ _ bs b2 _ (ai.below h hA0) (aj.below h2 hA0) hs;clear h h2 hm
 go_enter Tryz.func77,Tryz.ntmps77
 go_wp2_with fail
 refine hk.mono ?_;rintro e w1 ⟨rfl,hb1⟩;go_wp2;go_ret;exact ⟨rfl,hA0.trans (hb1.mono hA0.size)⟩
theorem Cc (ts:List A) (v:Value) (bs:List Nat) (w:World) (h:aI w [v] ts bs) (hn:ts.length≤100000000000) (ha:∀ a ∈ ts,a.args.length≤16777216):
  Calls Tryz.prog 58 #[v] w fun e w'=>Below w.heap.size w w'∧∃ v bs,e=.returned v∧aI w' [v] ts bs∧∀ c ∈ bs,w.heap.size≤c:=by
 obtain ⟨Ad,cap,rfl,hl,hm⟩:=af h;obtain ⟨i0,hi,hz0,hz1,hz2⟩:=info_parts qg;clear hm;have hA:Below w.heap.size w (w.alloc (.cells #[] 68)):=(Below.refl _ _).alloc (Nat.le_refl _) _;have hst:=cO.empty (n:=2) (R:=aU) (e:=68) (heap_alloc_new w (.cells #[] 68)) (Nat.le_refl w.heap.size)
 go_enter Tryz.func58,Tryz.ntmps58
 go_wp2
 go_loopw [3,4] (fun v i wr=>∃ (k:Nat) (A:Option Addr) (cp:Nat) (L:List Value) (b2:List Nat),k≤ts.length∧i=.int .i64 k∧v=.slice A k cp∧cO 2 aU w.heap.size 68 wr (.slice A k cp) L (ts.take k) b2∧Hid (∀ c ∈ b2,w.heap.size≤c)∧Below w.heap.size w wr) (fun _ i _=>ts.length - (intOf i).toNat)
 case atStart=>exact ⟨0,_,_,_,_,Nat.zero_le _,rfl,rfl,hst,η (fun c hc=>by cases hc),hA⟩
 case round=>
  obtain ⟨k,A,cp,L,b2,hk,rfl,rfl,hC,hF2,hb⟩:=hrel;clear hst hA;by_cases hlt:k < ts.length
  ·have HLT:=η hlt
   obtain ⟨b,o,Ae,ce,bk,rfl,_,c0,c1,hel,_⟩:=dG (ai.below h hb) hlt;have hle:ts[k].args.length≤16777216:=ha _ (List.getElem_mem _);have hk0:(0:Int)≤(k:Int):=by omega
   have hk1:(k:Int) < (ts.length:Int):=by omega
   have HT:Hid (ts.take (k+1)=ts.take k ++ [ts[k]]):=η (List.take_succ_eq_append_getElem hlt);have hc:=BP ts[k] _ _ bk _ hel hle;have HC:=η hC;clear h ha hC
   go_wp2_with fail
   refine hc.mono ?_;rintro e w1 ⟨hb1,cs',b3,rfl,hR,hN⟩;obtain ⟨Ae',ce',rfl⟩:=lQ hR;clear hel hc;have hlen:(ts.take k).length=k:=by rw [List.length_take]; omega
   have hb2:Below wr.heap.size wr (w1.alloc (.cells #[.string ts[k].name,.slice Ae' ts[k].args.length ce'] 68)):=hb1.alloc hb1.size _;have hA2:Below w1.heap.size w1 (w1.alloc (.cells #[.string ts[k].name,.slice Ae' ts[k].args.length ce'] 68)):=(Below.refl _ _).alloc (Nat.le_refl _) _;have hC2:=HC.out.below aj hb2;have hR2:=aj.below hR hA2;have hL:Lies (w1.alloc (.cells #[.string ts[k].name,.slice Ae' ts[k].args.length ce'] 68)) (some ⟨w1.heap.size,0,none⟩) [.string ts[k].name,.slice Ae' ts[k].args.length ce']:=aS (heap_alloc_new w1 _);have HC2:=η hC2;have HO2:Hid ((w1.alloc (.cells #[.string ts[k].name,.slice Ae' ts[k].args.length ce'] 68)).ownsRow w.heap.size 68 2 (.slice A k cp) k L):=η (by have:=hC2.own; rw [hlen] at this; exact this);have HL:=η hL;have HR2:=η hR2;have hsz:=hb2.size;clear hC2 hL hR2 hlen
   go_wp2_with (at_builtin; refine vO rfl _ _ _ rfl w.heap.size 68 i0 (.agg #[.string ⟨#[]⟩,.slice none 0 0]) 2 40 Tryz.underlying26 hi hz0 hz1 hz2 rfl (by omega) (.slice A k cp) k L rfl HO2.out (some ⟨w1.heap.size,0,none⟩) 1 1 [.string ts[k].name,.slice Ae' ts[k].args.length ce'] rfl rfl HL.out (by simp [Value.oneCell']) (by unfold maxLen; omega) (by omega) (Nat.le_trans hb.size hsz) ?_; intro A2 cp2 w2 hown2 hgrow2 hloc2)
   have hlen:(ts.take k).length=k:=by rw [List.length_take]; omega
   have hfar:∀ b ∈ b3,(Value.slice A k cp).ownBlock ≠ some b:=fun b hb'=>wX HC.out.own (hN.own b hb').1
   have C3:=HC2.out.app aj (aV.dB dP HR2.out) hfar (by rw [hlen]; exact hown2) hgrow2 hloc2;have B3:=iV (hb.trans (hb2.mono hb.size)) HO2.out (Nat.le_refl _) (Nat.le_trans hb.size hsz) hgrow2;have HF3:Hid (∀ c ∈ b2 ++ b3,w.heap.size≤c):=η fun c hc=>(List.mem_append.1 hc).elim (hF2.out c) fun h=>Nat.le_trans hb.size (hN.own c h).1
   clear hown2 hgrow2 hloc2 hfar hlen hR hN;have H3:=η C3;clear C3;go_wp2;go_roundw
   case rel=>exact ⟨k+1,A2,cp2,_,_,HLT.out,by go_num,rfl,by rw [HT.out]; exact H3.out,HF3,B3⟩
   case measure=>have:=HLT.out; simp [intOf]; omega
  ·have he:k=ts.length:=by omega
   subst he;rw [List.take_of_length_le (Nat.le_refl _)] at hC;obtain ⟨b3,hs,hf3⟩:=hC.slice;have HS:=η (And.intro hs fun c hc=>(hf3 c hc).elim id (hF2.out c));clear hC hs hf3;go_wp2;go_ret;exact ⟨hb,_,b3,rfl,HS.out⟩
theorem MZ (ts:List A) (v:Value) (bs:List Nat) (w:World) (h:aI w [v] ts bs) (hn:ts.length≤16777216) (ha:∀ a ∈ ts,a.args.length≤16777216):
  Calls Tryz.prog 58 #[v] w (Reads aI ts w.heap.size w):=
 (Cc ts v bs w h (by omega) ha).mono fun e w' ⟨h1,v',bs',h2,h3,_⟩=>⟨h1,v',bs',h2,h3⟩
end Go.Proofs.YtiidmgchadagbaaGreatDoor
