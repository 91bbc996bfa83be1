/- Of the proof of FnEvalOnly: StoQ, FndP, RunP3, FolQ, StoI, ValI. -/
import Derived.Test.YtkjinanbccloeaaGreatDoorB34
import Derived.Test.YtkjinanbccloeaaGreatDoorB35
import Derived.RangeFuncNested
import Derived.RangeFuncBound
import Derived.Sort.MapsRangeIn
set_option linter.unusedVariables false
set_option maxHeartbeats 4000000
set_option maxRecDepth 100000
namespace Go.Proofs.YtkjinanbccloeaaGreatDoor
section
open Go.RowKit Go.ChangeMaps Go.MapKept D
def D.yB (fs:List A):List (Value × Value):=fs.zipIdx.map fun p=>(.string (bU p.1),.int .i64 (p.2:Nat))
theorem D.Gg (fs:List A) (a:A):yB (fs ++ [a])=yB fs ++ [(.string (bU a),.int .i64 (fs.length:Nat))]:=by
 unfold yB;rw [List.zipIdx_append,List.map_append];simp
theorem D.xB {fs:List A} {p:Value × Value}:p ∈ yB fs ↔ ∃ i,∃ h:i < fs.length,p=(.string (bU fs[i]),.int .i64 (i:Nat)):=by
 unfold yB;rw [List.mem_map];constructor
 ·rintro ⟨q,hq,rfl⟩
  obtain ⟨a,i⟩:=q;obtain ⟨h1,y,I⟩:=List.mem_zipIdx hq;simp at y I;exact ⟨i,y,by rw [← I]⟩
 ·rintro ⟨i,h,rfl⟩
  exact ⟨(fs[i],i),by rw [List.mem_zipIdx_iff_getElem?]; simp [h],rfl⟩
theorem D.Ul {w:World} {Ad:Option Addr} {n c:Nat} {xs:List Nat} {b:List Nat} (h:gU w [.slice Ad n c] xs b):∀ x ∈ b,(Value.slice Ad n c).ownBlock=some x:=by
 obtain ⟨a0,cap,he,_,_,h0,h1⟩:=h;simp only [List.cons.injEq,Value.slice.injEq,and_true] at he;obtain ⟨rfl,rfl,rfl⟩:=he;intro x y;by_cases I:xs = []
 ·rw [h0 I] at y; simp at y
 ·obtain ⟨b0,o,rfl,F,G,rfl,h3⟩:=h1 I
  rcases List.mem_cons.1 y with rfl | y
  ·rfl
  ·obtain ⟨k,U,J⟩:=List.mem_flatMap.1 y
   have U:=List.mem_range.1 U;obtain ⟨_,_,h5⟩:=h3 k _ (Ψ U);rw [h5.2] at J;simp at J
theorem D.kK.view {B sb mu mp:Nat} {Af:Option Addr} {nf cf:Nat} {Lf:List Value} {fs:List A} {bf:List Nat} {Ar:Option Addr} {nr cr:Nat} {Lr:List Value} {rn:List Nat} {ou:List Nat} {w:World} (h:kK B sb mu mp Af nf cf Lf fs bf Ar nr cr Lr rn (yB fs) (idxs fs) ou w) (B0:Nat) (J:B0≤sb∧B0≤mu∧B0≤mp∧B0≤B):
  ∃ bs,jv sb fs rn bs w∧∀ x ∈ bs,B0≤x∨x ∈ bf:=by
 obtain ⟨l1,l2,l3,_⟩:=h.lo;have hs:=h.oC;have U:=h.ef;have a0:=h.er;subst U a0;obtain ⟨b2,hF,a1⟩:=h.cF.slice;obtain ⟨b3,hR,a2⟩:=h.cR.slice;obtain ⟨rows,c,g1,g2,g3⟩:=h.un.ex;refine ⟨sb :: mu :: mp :: (b2 ++ b3 ++ ou),⟨⟨Af,cf,Ar,cr,mu,mp,b2,b3,(rows.map Kt).map (fun p=>(p.1,p.2.1)),yB fs,h.blk,hF,hR,g1.Xy,h.pl,fun k=>?_,fun s=>?_,fun p hp=>?_,by simp,by simp,fun b I=>by simp [I],fun b I=>by simp [I]⟩,by simp,fun x y=>?_⟩,fun x y=>?_⟩
 ·by_cases hex:∃ r ∈ rows,r.k=k
  ·obtain ⟨r,hr,rfl⟩:=hex
   obtain ⟨b,I,_⟩:=(g2.coll r hr).slice;obtain ⟨Ad,cap,hv,_⟩:=ak I;refine .inl ⟨r.v,b,List.mem_map.2 ⟨Kt r,List.mem_map.2 ⟨r,hr,rfl⟩,rfl⟩,I,fun x y=>?_⟩;rw [hv] at I;have:=g2.own r hr x (by rw [hv]; exact Ul I x y);simp [this]
  ·refine .inr ⟨fun p hp e=>?_,g3 k fun r hr e=>hex ⟨r,hr,e⟩⟩
   obtain ⟨q,hq,rfl⟩:=List.mem_map.1 hp;obtain ⟨r,hr,rfl⟩:=List.mem_map.1 hq;exact hex ⟨r,hr,Hf e⟩
 ·constructor
  ·rintro ⟨i,hi⟩
   obtain ⟨j,hj,e⟩:=xB.1 hi;simp at e;exact List.mem_map.2 ⟨fs[j],δ hj,e.1.symm⟩
  ·intro hm
   obtain ⟨f,hf,rfl⟩:=List.mem_map.1 hm;obtain ⟨j,hj,rfl⟩:=List.getElem_of_mem hf;exact ⟨j,xB.2 ⟨j,hj,rfl⟩⟩
 ·obtain ⟨i,hi,rfl⟩:=xB.1 hp
  exact ⟨i,rfl⟩
 ·simp only [List.mem_cons,μ] at y
  rcases y with rfl | rfl | rfl | (y | y) | y
  ·omega
  ·omega
  ·omega
  ·exact au.lt hF x y
  ·exact aW.lt hR x y
  ·exact (h.ous x y).2
 ·simp only [List.mem_cons,μ] at y
  rcases y with rfl | rfl | rfl | (y | y) | y
  ·exact .inl J.1
  ·exact .inl J.2.1
  ·exact .inl J.2.2.1
  ·exact (a1 x y).imp (fun h=>by omega) id
  ·rcases a2 x y with h | h
   ·exact .inl (by omega)
   ·simp at h
  ·have:=(h.ous x y).1; exact .inl (by omega)
theorem D.KR {fs:List A} (hf:∀ f ∈ fs,aI f) {a:A} (ha:aI a) (y:a ∉ fs):∀ p ∈ yB fs,p.1 ≠ .string (bU a):=fun p J e=>by
 obtain ⟨i,I,rfl⟩:=xB.1 J;simp at e;exact y (sN (hf _ (δ I)).ok ha.ok e ▸ δ I)
structure D.Fe where
 t:A
 c1:Value
 ba:List Nat
def D.Fe.kv (x:Fe):Value × Value:=(.string (bU x.t),.agg #[.string x.t.name,x.c1])
theorem D.New.swap {B:Nat} {w:World} {l1 m l2 n:List Nat} (h:New B w (l1 ++ m ++ l2)) (hn:New B w n) (hd:∀ x ∈ n,x ∉ l1∧x ∉ l2):New B w (l1 ++ n ++ l2):=by
 obtain ⟨n1,n2,n3⟩:=List.nodup_append.1 h.nodup;obtain ⟨m1,m2,m3⟩:=List.nodup_append.1 n1;refine ⟨List.nodup_append.2 ⟨List.nodup_append.2 ⟨m1,hn.nodup,fun x J y U e=>(hd y U).1 (e ▸ J)⟩,n2,fun x J y U e=>?_⟩,fun b I=>?_⟩
 ·rcases μ.1 J with J | J
  ·exact n3 x (Ξ _ J) y U e
  ·exact (hd x J).2 (e ▸ U)
 ·rcases μ.1 I with I | I
  ·rcases μ.1 I with I | I
   ·exact h.own b (Ξ _ (Ξ _ I))
   ·exact hn.own b I
  ·exact h.own b (Ω _ I)
structure D.lX (a6 mf:Nat) (w:World) (told:List A) (fb:List Nat):Prop where
 box:w.heap[a6]? = some (.cells #[.map (some mf)] 102 (0,0))
 map:∃ E:List Fe,gm isStr mf (E.map Fe.kv) w∧(∀ x ∈ E,x.t ∈ told∧aI x.t∧aG w [.string x.t.name,x.c1] x.t x.ba∧∀ b ∈ x.ba,b ∈ fb∧b ≠ mf)∧(∀ t ∈ told,∃ x ∈ E,bU x.t=bU t)∧New a6 w (E.flatMap (·.ba))
 own:a6 ∈ fb∧mf ∈ fb∧a6 ≠ mf
 lt:∀ x ∈ fb,x < w.heap.size
 tm:iT mf w
 tok:∀ t ∈ told,aI t
theorem D.lX.keep {a6 mf:Nat} {told:List A} {U:List Nat} {w w':World} (h:lX a6 mf w told U) (y:∀ x ∈ U,w'.heap[x]? = w.heap[x]?) (hs:w.heap.size≤w'.heap.size):lX a6 mf w' told U:=by
 obtain ⟨E,h1,h2,h3,h4⟩:=h.map;refine ⟨(y _ h.own.1).trans h.box,⟨E,h1.same (y _ h.own.2.1),fun x I=>?_,h3,h4.keep fun b J=>?_⟩,h.own,fun x I=>κ (h.lt x I) hs,h.tm.same (y _ h.own.2.1),h.tok⟩
 ·obtain ⟨g1,g2,g4,g5⟩:=h2 x I
  exact ⟨g1,g2,aj.keep g4 fun b J=>y b (g5 b J).1,g5⟩
 ·obtain ⟨x,I,J⟩:=List.mem_flatMap.1 J
  exact y b ((h2 x I).2.2.2 b J).1
theorem D.lX.made {I y:Nat} {w:World} (h1:w.heap[I]? = some (.cells #[.map (some y)] 102 (0,0))) (h2:gm isStr y [] w) (J:iT y w) (U:I ≠ y):lX I y w [] [I,y]:=
 ⟨h1,⟨[],h2,fun p hp=>by simp at hp,fun t ht=>by simp at ht,New.nil _ _⟩,⟨by simp,by simp,U⟩,fun x hx=>by
  simp at hx
  rcases hx with rfl | rfl
  ·exact ψ h1
  ·exact h2.lt,J,fun t ht=>by simp at ht⟩
theorem D.lX.put {a6 mf:Nat} {told:List A} {fb:List Nat} {w:World} (h:lX a6 mf w told fb) {a:A} {c1:Value} {ba:List Nat} (ha:aG w [.string a.name,c1] a ba) (hok:aI a) (hn:New a6 w ba) (hd:∀ x ∈ ba,x ∉ fb):
  ∃ w',(Instr.mapUpdate 102 (.map (some mf)) (.string (bU a)) (.agg #[.string a.name,c1])).run Tryz.prog w=.ok () w'∧lX a6 mf w' (told ++ [a]) (fb ++ ba)∧w.grownBy w' (some mf):=by
 obtain ⟨E,h1,h2,h3,h4⟩:=h.map;have hb:mf ∉ ba:=fun hm=>hd mf hm h.own.2.1
 have fin:∀ (w':World) (E':List Fe),gm isStr mf (E'.map Fe.kv) w'→w.grownBy w' (some mf)→iT mf w'→(∀ x ∈ E',x ∈ E∨x=⟨a,c1,ba⟩)→(∀ x ∈ E,∃ y ∈ E',bU y.t=bU x.t)→(⟨a,c1,ba⟩:Fe) ∈ E'→New a6 w (E'.flatMap (·.ba))→lX a6 mf w' (told ++ [a]) (fb ++ ba):=by
  intro w' E' m1 m2 mt m3 m4 m5 m6;have kp:∀ x,x < w.heap.size→x ≠ mf→w'.heap[x]? = w.heap[x]?:=fun x J a2=>m2.block x J (fun e=>a2 (by injection e))
  refine ⟨(kp _ (ψ h.box) h.own.2.2).trans h.box,⟨E',m1,fun x J=>?_,fun t ht=>?_,m6.keep fun b U=>?_⟩,⟨Ξ _ h.own.1,Ξ _ h.own.2.1,h.own.2.2⟩,fun x J=>?_,mt,fun t ht=>?_⟩
  ·rcases m3 x J with J | rfl
   ·obtain ⟨g1,g2,g4,g5⟩:=h2 x J
    exact ⟨Ξ _ g1,g2,aj.keep g4 fun b U=>kp b (aj.lt g4 b U) (g5 b U).2,fun b U=>⟨Ξ _ (g5 b U).1,(g5 b U).2⟩⟩
   ·exact ⟨by simp,hok,aj.keep ha fun x J=>kp x (aj.lt ha x J) (fun e=>hb (e ▸ J)),fun x J=>⟨Ω _ J,fun e=>hb (e ▸ J)⟩⟩
  ·rcases μ.1 ht with ht | ht
   ·obtain ⟨x,J,e⟩:=h3 t ht
    obtain ⟨y,I,e2⟩:=m4 x J;exact ⟨y,I,e2.trans e⟩
   ·rw [List.mem_singleton.1 ht]
    exact ⟨_,m5,rfl⟩
  ·refine kp b (m6.lt U) fun e=>?_
   obtain ⟨x,J,a1⟩:=List.mem_flatMap.1 U
   rcases m3 x J with J | rfl
   ·exact ((h2 x J).2.2.2 b a1).2 e
   ·exact hb (e ▸ a1)
  ·rcases μ.1 J with J | J
   ·exact κ (h.lt x J) m2.size
   ·exact κ (aj.lt ha x J) m2.size
  ·rcases μ.1 ht with ht | ht
   ·exact h.tok t ht
   ·rw [List.mem_singleton.1 ht]; exact hok
 by_cases hex:∃ x ∈ E,bU x.t=bU a
 ·obtain ⟨x,J,e⟩:=hex
  obtain ⟨A1,B1,rfl⟩:=List.append_of_mem J;have e0:(A1 ++ x :: B1).map Fe.kv=A1.map Fe.kv ++ ((.string (bU a):Value),(.agg #[.string x.t.name,x.c1]:Value)) :: B1.map Fe.kv:=by rw [List.map_append,List.map_cons]; unfold Fe.kv; rw [e]
  rw [e0] at h1;obtain ⟨w',r1,r2,r3,r4⟩:=Hq jl (w:=w) trivial Tryz.underlying102 (.agg #[.string a.name,c1]) h1;refine ⟨w',r1,fin w' (A1 ++ ⟨a,c1,ba⟩ :: B1) (by rw [List.map_append,List.map_cons]; exact r2) r3 (r4 h.tm) (fun y I=>?_) (fun y I=>?_) (by simp) ?_,r3⟩
  ·rcases μ.1 I with I | I
   ·exact .inl (Ξ _ I)
   ·rcases List.mem_cons.1 I with rfl | I
    ·exact .inr rfl
    ·exact .inl (Ω _ (Δ _ I))
  ·rcases μ.1 I with I | I
   ·exact ⟨y,Ξ _ I,rfl⟩
   ·rcases List.mem_cons.1 I with rfl | I
    ·exact ⟨⟨a,c1,ba⟩,by simp,e.symm⟩
    ·exact ⟨y,Ω _ (Δ _ I),rfl⟩
  ·have h5:New a6 w (A1.flatMap (·.ba) ++ x.ba ++ B1.flatMap (·.ba)):=by simpa [List.flatMap_append,List.flatMap_cons] using h4
   have h6:=New.swap h5 hn fun y I=>⟨fun hm=>?_,fun hm=>?_⟩
   ·simpa [List.flatMap_append,List.flatMap_cons] using h6
   ·obtain ⟨z,hz,a0⟩:=List.mem_flatMap.1 hm
    exact hd y I ((h2 z (by simp [hz])).2.2.2 y a0).1
   ·obtain ⟨z,hz,a0⟩:=List.mem_flatMap.1 hm
    exact hd y I ((h2 z (by simp [hz])).2.2.2 y a0).1
 ·have a3:∀ p ∈ E.map Fe.kv,p.1 ≠ .string (bU a):=fun p hp e=>by
   obtain ⟨x,J,rfl⟩:=List.mem_map.1 hp;unfold Fe.kv at e;exact hex ⟨x,J,by simpa using e⟩
  obtain ⟨w',r1,r2,r3,r4⟩:=qg jl (w:=w) trivial Tryz.underlying102 (.agg #[.string a.name,c1]) h1 ⟨_,rfl,nN hok.ok⟩ a3;refine ⟨w',r1,fin w' (E ++ [⟨a,c1,ba⟩]) (by rw [List.map_append]; exact r2) r3 (r4 h.tm) (fun y I=>?_) (fun y I=>⟨y,Ξ _ I,rfl⟩) (by simp) ?_,r3⟩
  ·rcases μ.1 I with I | I
   ·exact .inl I
   ·exact .inr (List.mem_singleton.1 I)
  ·have h6:=New.swap (l2:=[]) (m:=[]) (by simpa using h4) hn fun y I=>⟨fun hm=>?_,by simp⟩
   ·simpa [List.flatMap_append] using h6
   ·obtain ⟨z,hz,a0⟩:=List.mem_flatMap.1 hm
    exact hd y I ((h2 z hz).2.2.2 y a0).1
end
section
open Go.RowKit D
section
variable {vars:List ByteArray} {fs ps ns:List A} {head:A} {wt:Nat→Bool} {K:Nat→Prop} {sk:Nat} {T:Bool→World→List A→Prop} {go:List A→Bool} {b:Bd} {left m:Nat} {L:List Nat} {told ts:List A} {hd more s:Bool} {k:Nat} {w wr w5 w6:World}
def D.rU (vars:List ByteArray) (fs ps ns:List A) (head:A) (K:Nat→Prop) (sk:Nat) (T:Bool→World→List A→Prop) (go:List A→Bool) (b:Bd) (left:Nat) (told:List A) (w:World) (e:Ending) (w':World):Prop:=
 ∃ held more,e=.returned (.tuple #[.bool held,.bool more])∧iL vars fs ps ns head K sk T go b left told held more w w'
theorem D.iL.ret (P:iL vars fs ps ns head K sk T go b left told hd more w w5):rU vars fs ps ns head K sk T go b left told w (.returned (.tuple #[.bool hd,.bool more])) w5:=⟨hd,more,rfl,P⟩
theorem D.iL.bd {b':Bd} {y I:Bool} {J:Nat} {U:List A} (P:iL vars fs ps ns head K sk T go b' J U y I w w6):gJ vars b' sk 18 w6:=by
 obtain ⟨_,_,h,_⟩:=P;exact h
structure D.fQ (vars:List ByteArray) (fs ps ns:List A) (head:A) (K:Nat→Prop) (sk:Nat) (T:Bool→World→List A→Prop) (go:List A→Bool) (b:Bd) (left m:Nat) (L:List Nat) (told ts:List A) (hd more:Bool) (k:Nat) (w wr:World):Prop where
 kept:bP K sk w wr
 at_:gJ vars b sk 18 wr
 st:T more wr (told ++ ts)
 sound:∀ t ∈ ts,∃ σ,tH fs ps ns b left σ∧fH σ head=t
 whole:more=true→∀ i,i < k→∀ (h:i < L.length) (j:Nat) (hj:j < fs.length),L[i]=j→∀ (hm:m < ps.length) σ,tH fs ps ns b left σ→fH σ ps[m]=fs[j]→fH σ head ∈ ts
 held:hd=true→ts ≠ []
 nogo:more=false→go (told ++ ts)=false
theorem D.fQ.skip (I:fQ vars fs ps ns head K sk T go b left m L told ts hd true k w wr) (hk:k < L.length) (hj:L[k] < fs.length) (hm:m < ps.length) (y:(aC ps[m] fs[L[k]] b).2=false)
  (k6:bP K sk wr w6) (J:gJ vars b sk 18 w6) (U:T true w6 (told ++ ts)):fQ vars fs ps ns head K sk T go b left m L told ts hd true (k+1) w w6:=by
 refine ⟨I.kept.trans k6,J,U,I.sound,fun _ i hi h j a0 e a1 σ hσ he=>?_,I.held,fun h=>by cases h⟩
 rcases Nat.lt_succ_iff_lt_or_eq.1 hi with h1 | rfl
 ·exact I.whole rfl i h1 h j a0 e a1 σ hσ he
 ·subst e
  rw [(mO hσ.1 he).1] at y;cases y
theorem D.fQ.took (I:fQ vars fs ps ns head K sk T go b left m L told ts hd true k w wr) (hl:left < 16) (a1:ps.length≤4) (hk:k < L.length) (hj:L[k] < fs.length) (a2:Gr fs[L[k]]) (hm:m < ps.length) (a0:left.testBit m=true) (a3:(aC ps[m] fs[L[k]] b).2=true)
  {w4:World} {J y:Bool} (P:iL vars fs ps ns head K sk T go (aC ps[m] fs[L[k]] b).1 (left - 2 ^ m) (told ++ ts) J y w4 w5) (k4:bP K sk wr w4) (k6:bP K sk w5 w6) (a4:gJ vars b sk 18 w6) (hT:∀ U,T y w5 U→T y w6 U):
  ∃ a5,fQ vars fs ps ns head K sk T go b left m L told a5 (hd || J) y (k+1) w w6:=by
 obtain ⟨U,p1,p2,p3,p4,p5,p6,p7⟩:=P;refine ⟨ts ++ U,I.kept.trans (k4.trans (p1.trans k6)),a4,by rw [← List.append_assoc]; exact hT _ p3,fun t ht=>?_,fun a6 i hi h j a7 e a8 σ hσ he=>?_,fun hh=>?_,fun h=>by rw [← List.append_assoc]; exact p7 h⟩
 ·rcases μ.1 ht with ht | ht
  ·exact I.sound t ht
  ·obtain ⟨σ,h1,h2⟩:=p4 t ht
   exact ⟨σ,h1.back hl a1 hm a0 (δ _) a2 a3,h2⟩
 ·rcases Nat.lt_succ_iff_lt_or_eq.1 hi with h1 | rfl
  ·exact Ξ _ (I.whole rfl i h1 h j a7 e a8 σ hσ he)
  ·subst e
   exact Ω _ (p5 a6 σ (hσ.step hl a1 hm a0 he).2)
 ·intro e
  rcases List.append_eq_nil_iff.1 e with ⟨e1,e2⟩
  rcases Bool.or_eq_true_iff.1 hh with h | h
  ·exact I.held h e1
  ·exact p6 h e2
theorem D.fQ.drewN {U c7:Addr} (I:fQ vars fs ps ns head K sk T go b left m L told ts hd more k w wr) (hT:uZ vars head sk K U c7 T go) (hs:sk < w.heap.size) {n:Nat}:fQ vars fs ps ns head K sk T go b left m L told ts hd more k w (wr.drewN n):=by
 have J:Below wr.heap.size wr (wr.drewN n):=FZ ϑ n;have y:=κ hs I.kept.size;exact ⟨I.kept.trans (bP.of_below y J),I.at_.keep rfl,hT.keep _ _ _ I.st (cZ.of_below J y),I.sound,I.whole,I.held,I.nogo⟩
theorem D.fQ.off (I:fQ vars fs ps ns head K sk T go b left m L told ts hd false k w wr):iL vars fs ps ns head K sk T go b left told hd false w wr:=
 ⟨ts,I.kept,I.at_,I.st,I.sound,fun h=>absurd h (by decide),I.held,I.nogo⟩
theorem D.fQ.brk (hc:wF b head.args) (I:fQ vars fs ps ns head K sk T go b left m L told ts true true k w wr):iL vars fs ps ns head K sk T go b left told true true w wr:=
 ⟨ts,I.kept,I.at_,I.st,I.sound,fun _ σ hσ=>Ug hc I.sound (I.held rfl) σ hσ,I.held,I.nogo⟩
theorem D.fQ.fin (E:qp vars fs ps ns head wt) {y:WK} {A9:Option Addr} {c9:Nat} {bs bx:List Nat} {w3:World} (C:uV fs ps b bs left m A9 c9 y bx w3) (hL:L=idxs fs y) (I:fQ vars fs ps ns head K sk T go b left m L told ts hd true k w wr) (hk:L.length≤k):
  iL vars fs ps ns head K sk T go b left told hd true w wr:=by
 refine ⟨ts,I.kept,I.at_,I.st,I.sound,fun _ σ hσ=>?_,I.held,I.nogo⟩;have hin:=hσ.2.1 m C.lt C.bit;obtain ⟨j,U,e⟩:=List.getElem_of_mem hin;have a0:=(mO (f:=fs[j]) hσ.1 e.symm).1;have J:=C.key_ (ps[m]'C.lt) (Ψ _) fs[j] (E.fok _ (δ U)).gr a0;have a1:j ∈ L:=by rw [hL]; exact Dt.2 ⟨U,J⟩
 obtain ⟨i,hi,e2⟩:=List.getElem_of_mem a1;exact I.whole rfl i (by omega) hi j U e2 C.lt σ hσ e.symm
end
def D.ja (fs:List A) (r:Ru) (t:A):Prop:=∃ σ:Wo,t=fH σ r.head∧(∀ p ∈ r.body,p.no=false→fH σ p.atom ∈ fs)∧∀ p ∈ r.body,p.no=true→fH σ p.atom ∉ fs
structure D.jC (r:Ru):Prop where
 hok:aX r.head=true
 pok:∀ p ∈ r.body,aX p.atom=true
 few:r.body.length≤4
 tight:S9 r
theorem D.oZ {body:List Pt} {a:A}:a ∈ fV body ↔ ∃ p ∈ body,p.no=false∧p.atom=a:=by
 unfold fV;rw [List.mem_map];constructor
 ·rintro ⟨p,I,rfl⟩
  obtain ⟨h1,y⟩:=List.mem_filter.1 I;exact ⟨p,h1,by simpa using y,rfl⟩
 ·rintro ⟨p,h1,y,rfl⟩
  exact ⟨p,List.mem_filter.2 ⟨h1,by simpa using y⟩,rfl⟩
theorem D.o6 {body:List Pt} {a:A}:a ∈ dL body ↔ ∃ p ∈ body,p.no=true∧p.atom=a:=by
 unfold dL;rw [List.mem_map];constructor
 ·rintro ⟨p,I,rfl⟩
  obtain ⟨h1,y⟩:=List.mem_filter.1 I;exact ⟨p,h1,y,rfl⟩
 ·rintro ⟨p,h1,y,rfl⟩
  exact ⟨p,List.mem_filter.2 ⟨h1,y⟩,rfl⟩
theorem D.Gh:∀ (l:List Pt),(∀ p ∈ l,aX p.atom=true)→iq (fun p:Pt=>p.atom.args.length) l≤l.length * 3
 | [],_=>ε
 | p :: l,h=>by
  have h1:=Gh l fun q hq=>h q (Δ _ hq)
  have I:=mQ (h p Γ);have y:iq (fun p:Pt=>p.atom.args.length) (p :: l)=p.atom.args.length+iq (fun p:Pt=>p.atom.args.length) l:=by simp [iq]
  rw [y,List.length_cons,Nat.add_mul];omega
theorem D.OG {r:Ru} (R:jC r):jr (aB r.body):=by
 refine ⟨?_,uF (kZ r.body qM)⟩;have h1:=ny r.body [];have y:=Gh r.body R.pok;have I:=R.few;show (dU r.body []).length≤12;simp at h1;omega
theorem D.OH {ps:List Pt}:∀ p ∈ ps,∀ t ∈ p.atom.args,t.var=true→t.name ∈ aB ps:=fun p I t J y=>(gq ps [] _).2 (.inr ⟨p,I,t,J,y,rfl⟩)
theorem D.Ig {fs:List A} {r:Ru} (R:jC r) (J:∀ f ∈ fs,aI f) (U:fs.length≤1000000) {wt:Nat→Bool} (a0:∀ i,i < 12→wt i=KL (aB r.body) r.head (dL r.body) i):
  qp (aB r.body) fs (fV r.body) (dL r.body) r.head wt:=by
 have hf:=R.few;have l1:(fV r.body).length≤r.body.length:=by unfold fV; rw [List.length_map]; exact List.length_filter_le _ _
 have l2:(dL r.body).length≤r.body.length:=by unfold dL; rw [List.length_map]; exact List.length_filter_le _ _
 refine ⟨OG R,by omega,U,by omega,J,fun p y=>?_,fun n I=>?_,R.hok,fun p y=>?_,fun n I=>?_,fun t ht a1=>?_,a0,fun b hb=>?_⟩
 ·obtain ⟨q,h1,_,rfl⟩:=oZ.1 y; exact R.pok q h1
 ·obtain ⟨q,h1,_,rfl⟩:=o6.1 I; exact R.pok q h1
 ·obtain ⟨q,h1,_,rfl⟩:=oZ.1 y; exact OH q h1
 ·obtain ⟨q,h1,_,rfl⟩:=o6.1 I; exact OH q h1
 ·obtain ⟨p,y,_,hv⟩:=R.tight t.name (.inl ⟨t,ht,a1,rfl⟩)
  exact (gq r.body [] _).2 (.inr ⟨p,y,hv⟩)
 ·obtain ⟨h1,h2⟩:=FN R.tight (b:=b) fun p y I=>hb _ (oZ.2 ⟨p,y,I,rfl⟩)
  exact ⟨h1,fun n I=>by obtain ⟨q,h3,_,rfl⟩:=o6.1 I; exact h2 q h3⟩
theorem D.Um {fs:List A} {r:Ru} (R:jC r) {ts:List A} (h1:∀ t ∈ ts,∃ σ,tH fs (fV r.body) (dL r.body) [] (2 ^ (fV r.body).length - 1) σ∧fH σ r.head=t)
  (h2:∀ σ,tH fs (fV r.body) (dL r.body) [] (2 ^ (fV r.body).length - 1) σ→fH σ r.head ∈ ts) (t:A):t ∈ ts ↔ ja fs r t:=by
 constructor
 ·intro h
  obtain ⟨σ,⟨_,U,g3⟩,rfl⟩:=h1 t h;refine ⟨σ,rfl,fun p y I=>?_,fun p y I=>g3 _ (o6.2 ⟨p,y,I,rfl⟩)⟩;obtain ⟨j,J,e⟩:=List.getElem_of_mem (oZ.2 ⟨p,y,I,rfl⟩);rw [← e];exact U j J (by rw [Nat.testBit_two_pow_sub_one]; simpa using J)
 ·rintro ⟨σ,rfl,g1,U⟩
  refine h2 σ ⟨fun n v h=>by simp [eY] at h,fun j J _=>?_,fun n I=>?_⟩
  ·obtain ⟨p,y,I,e⟩:=oZ.1 (δ J)
   rw [← e]; exact g1 p y I
  ·obtain ⟨p,y,a0,rfl⟩:=o6.1 I
   exact U p y a0
theorem D.Qo {r:Ru} (R:jC r) {b:Bd} (y:rO b) (hc:wF b r.head.args):aI (bQ r.head b):=sS R.hok y hc
end
section
open Go.RowKit D
attribute [local go_sem ↓] Go.wp_at_zero Go.wp_at_succ
def D.Ih (xs:List A) (I:List Nat) (w0:World) (k:Nat) (w:World):Prop:=
 ∃ J cf Lf U cr Lr ou y,kK (w0.heap.size+3) (w0.heap.size+2) w0.heap.size (w0.heap.size+1) J (xs.take k).length cf Lf (xs.take k) y U (List.replicate k 0).length cr Lr (List.replicate k 0) (yB (xs.take k)) (idxs (xs.take k)) ou w∧Below w0.heap.size w0 w∧∀ x ∈ y,x ∈ I
theorem rV (xs:List A) (v:Value) (bx:List Nat) (w:World) (h:aU w [v] xs bx) (hf:∀ f ∈ xs,aI f) (hn:xs.Pairwise fun a b=>a ≠ b) (hl:xs.length≤1000000):
  Calls Tryz.prog 58 #[v] w fun e w'=>e=.returned (.pointer (some ⟨w.heap.size+2,0,none⟩))∧Ih xs bx w xs.length w':=by
 obtain ⟨Ad,cap,rfl,a4,hm⟩:=ak h;have aE:=aA (τ a4 hm);have hA:Below w.heap.size w (((w.alloc (.map #[] 0)).alloc (.map #[] 0)).alloc (.cells #[.slice none 0 0,.slice none 0 0,.map (some w.heap.size),.map (some (w.heap.size+1))] 127)):=((ζ).alloc (by simp) _).alloc (by simp; omega) _;have a5:oP He w.heap.size [] 0 (((w.alloc (.map #[] 0)).alloc (.map #[] 0)).alloc (.cells #[.slice none 0 0,.slice none 0 0,.map (some w.heap.size),.map (some (w.heap.size+1))] 127)):=(oP.made (S:=He) w).same (by rw [Below.heap_alloc _ _ _ (by simp; omega),Below.heap_alloc _ _ _ (by simp)])
 have a6:gm isStr (w.heap.size+1) [] (((w.alloc (.map #[] 0)).alloc (.map #[] 0)).alloc (.cells #[.slice none 0 0,.slice none 0 0,.map (some w.heap.size),.map (some (w.heap.size+1))] 127)):=by
  have h0:=gm.made (S:=isStr) (w.alloc (.map #[] 0));have e:(w.alloc (.map #[] 0)).heap.size=w.heap.size+1:=by simp
  rw [e] at h0;exact h0.same (by rw [Below.heap_alloc _ _ _ (by simp)])
 have a7:(((w.alloc (.map #[] 0)).alloc (.map #[] 0)).alloc (.cells #[.slice none 0 0,.slice none 0 0,.map (some w.heap.size),.map (some (w.heap.size+1))] 127)).heap[w.heap.size+2]? = some (.cells #[.slice none 0 0,.slice none 0 0,.map (some w.heap.size),.map (some (w.heap.size+1))] 127 (0,0)):=by
  have:=ω ((w.alloc (.map #[] 0)).alloc (.map #[] 0)) (.cells #[.slice none 0 0,.slice none 0 0,.map (some w.heap.size),.map (some (w.heap.size+1))] 127);simpa using this
 have a8:Hid (Ih xs bx w 0 (((w.alloc (.map #[] 0)).alloc (.map #[] 0)).alloc (.cells #[.slice none 0 0,.slice none 0 0,.map (some w.heap.size),.map (some (w.heap.size+1))] 127))):=η
  ⟨none,0,[],none,0,[],[],[],⟨a7,rfl,rfl,aZ.nil _,aZ.nil _,⟨⟨[],0,a5,⟨fun r hr=>by simp at hr,fun r hr=>by simp at hr,fun r hr=>by simp at hr⟩,fun k _=>by simp [idxs]⟩⟩,a6,fun x y=>by simp [Value.ownBlock] at y,fun x y=>by simp at y,fun x y=>by simp at y,fun x y=>by simp at y,by omega,fun x y=>by simp at y,by simp⟩,hA,fun x y=>by simp at y⟩
 have HH:=η h;have HF:=η (ι hf hn);clear h hf hn a4 hm hA a5 a6 a7;have aL:=@run_makeMap Tryz.prog
 go_enter Tryz.func58,Tryz.ntmps58
 go_wp2;generalize (((w.alloc (.map #[] 0)).alloc (.map #[] 0)).alloc (.cells #[.slice none 0 0,.slice none 0 0,.map (some w.heap.size),.map (some (w.heap.size+1))] 127))=W at *
 go_loopw [12] (fun i wr=>∃ (k:Nat),k≤xs.length∧i=.int .i64 k∧Ih xs bx w k wr) (fun i _=>xs.length - (intOf i).toNat)
 case atStart=>exact ⟨0,ε,rfl,a8.out⟩
 case round=>
  obtain ⟨k,hk,rfl,hI⟩:=hrel;clear a8;by_cases J:k < xs.length
  ·obtain ⟨Af,cf,Lf,Ar,cr,Lr,ou,bf,S,I,a9⟩:=hI
   obtain ⟨bq,oq,Ae,ce,ba,rfl,_,f0,f1,a2,a0⟩:=dJ (au.below HH.out I) J;have aM:(0:Int)≤(k:Int):=by omega
   have ae:(k:Int) < (xs.length:Int):=by omega
   have U:Below wr.heap.size wr (wr.alloc (.cells #[.string xs[k].name,.slice Ae xs[k].args.length ce] 33)):=ζ;have a3:=HF.out.1 _ (δ J)
   have aa:xs[k] ∉ xs.take k:=fun hm=>by
    obtain ⟨i,hi,e⟩:=List.getElem_of_mem hm;simp at hi e;exact List.pairwise_iff_getElem.1 HF.out.2 i k (by omega) J (by omega) e
   have a1:=put_any (w.heap.size+3) (w.heap.size+2) w.heap.size (w.heap.size+1) Af cf Lf (xs.take k) bf Ar cr Lr (List.replicate k 0) (yB (xs.take k)) ou xs[k] (.slice Ae xs[k].args.length ce) ba ba 0 (wr.alloc (.cells #[.string xs[k].name,.slice Ae xs[k].args.length ce] 33)) (S.later U) (aj.below a2 U) (fun x y=>y)
    (fun x y=>(S.later U).low (by have:=au.lt HH.out x (a0 x y); omega)) (fun x y=>κ (aj.lt a2 x y) U.size) a3.ok (KR (fun f hf=>HF.out.1 f (List.mem_of_mem_take hf)) a3 aa) (by simp; omega) (by simp; omega) w.heap.size (by omega)
   have HB:=η (I.trans (U.mono I.size));have ab:=η J;have af:Hid (∀ x ∈ bf ++ ba,x ∈ bx):=η fun x y=>(μ.1 y).elim (a9 x) (a0 x)
   have ag:Hid (xs.take (k+1)=xs.take k ++ [xs[k]]):=η (ρ J);clear S I a9 a2 a0 U a3 aa hk;generalize xs[k]=a at *;obtain ⟨an,am⟩:=a;dsimp only at *;clear J
   go_wp2_with fail
   refine a1.mono ?_;rintro e w2 ⟨rfl,ac,ao,ap,aq,ar,av,aw,az,S',-⟩
   have aD:Hid (Ih xs bx w (k+1) w2):=η ⟨ao,ap,aq,ar,av,aw,az,_,by
    rw [ag.out,List.replicate_succ',Gg,χ,χ]; exact S',HB.out.trans ac,af.out⟩
   clear a1 ac S';go_wp2;go_roundw
   case rel=>exact ⟨k+1,ab.out,by go_num,aD.out⟩
   case measure=>have:=ab.out; simp [intOf]; omega
  ·have he:k=xs.length:=by omega
   have ae:¬ (k:Int) < (xs.length:Int):=by omega
   have HD:Hid (Ih xs bx w xs.length wr):=η (he ▸ hI);clear hI;go_wp2;go_ret;exact ⟨rfl,HD.out⟩
theorem D.Ih.all {xs:List A} {bx:List Nat} {w0 w:World} (h:Ih xs bx w0 xs.length w):
  Below w0.heap.size w0 w∧∃ J cf Lf U cr Lr ou I,kK (w0.heap.size+3) (w0.heap.size+2) w0.heap.size (w0.heap.size+1) J xs.length cf Lf xs I U (List.replicate xs.length 0).length cr Lr (List.replicate xs.length 0) (yB xs) (idxs xs) ou w∧∀ x ∈ I,x ∈ bx:=by
 obtain ⟨J,cf,Lf,U,cr,Lr,ou,I,S,y,a0⟩:=h;rw [List.take_length] at S;exact ⟨y,J,cf,Lf,U,cr,Lr,ou,I,S,a0⟩
theorem KT (xs:List A) (v:Value) (I:List Nat) (w:World) (h:aU w [v] xs I) (hf:∀ f ∈ xs,aI f) (U:xs.Pairwise fun a b=>a ≠ b) (hl:xs.length≤1000000):
  Calls Tryz.prog 58 #[v] w fun e w'=>e=.returned (.pointer (some ⟨w.heap.size+2,0,none⟩))∧Below w.heap.size w w'∧∃ rn bs,jv (w.heap.size+2) xs rn bs w'∧∀ x ∈ bs,w.heap.size≤x∨x ∈ I:=by
 refine (rV xs v I w h hf U hl).mono ?_;rintro e w' ⟨rfl,h1⟩;obtain ⟨y,Af,cf,Lf,Ar,cr,Lr,ou,bf,S,J⟩:=h1.all;obtain ⟨bs,g1,g2⟩:=S.view w.heap.size (by omega);exact ⟨rfl,y,_,bs,g1,fun x hx=>(g2 x hx).imp id (J x)⟩
end
section
open Go.RowKit Go.Maps Go.Sort D
attribute [local go_sem] Oper.semAt_some
def D.Fe.val (x:Fe):Value:=.agg #[.string x.t.name,x.c1]
abbrev D.vg (E:List Fe) (w0:World):={ x:Fe // x ∈ E∧aI x.t∧aG w0 [.string x.t.name,x.c1] x.t x.ba }
def D.tZ (v:Value):Option (DataW Value × List MemPlace):=some (.held v,[])
theorem D.KU (w:World):(zeroValue 33).run Tryz.prog w=.ok (.agg #[.string ⟨#[]⟩,.slice none 0 0]) w:=by kernel_rfl
theorem D.Qp {b:Nat} {Lf:List (Value × Value)} {w:World} (hL:gm isStr b Lf w) (hT:iT b w) (U:Lf.length≤maxLen):
  ∃ es I,w.heap[b]? = some (.map es I)∧es.toList.map (fun e=>(e.key,e.val))=Lf∧Go.WideElems.Fit Tryz.prog 9 tZ es I:=by
 obtain ⟨⟨es,I,hb,he⟩,h2,h3⟩:=hL;obtain ⟨a0,a1,y,t1,t2⟩:=hT;rw [hb] at y;cases y;refine ⟨es,I,hb,he,⟨?_,⟨t1,t2,?_⟩,fun x hx=>?_⟩⟩
 ·rw [← he] at U
  simpa using U
 ·have:es.toList.map (·.key)=Lf.map (·.1):=by rw [← he]; simp
  rw [this];exact List.pairwise_map.2 h3
 ·obtain ⟨s,e1,e2⟩:=h2 (x.key,x.val) (by rw [← he]; exact List.mem_map.2 ⟨x,hx,rfl⟩)
  refine ⟨(qY s,.held x.val),?_⟩;have J:x.key=.string s:=e1;unfold Go.WideElems.rd;rw [J,mG e2];rfl
theorem D.NT {b:Nat} {Lf:List (Value × Value)} {w:World} (J:gm isStr b Lf w) (hT:iT b w) (hn:Lf.length≤maxLen):
  ∃ M:DataW Value,w.ownsMap Tryz.prog 9 tZ b Lf.length M∧∀ s v,((.string s:Value),v) ∈ Lf→has M (qY s)=true:=by
 obtain ⟨es,ck,hb,he,hF⟩:=Qp J hT hn;have y:w.ownsMap Tryz.prog 9 tZ b Lf.length (.map ((es.toList.map (Go.WideElems.rg Tryz.prog 9 tZ)).foldr DataW.insert [])):=⟨es,ck,hb,hF,by rw [← he]; simp,rfl⟩;refine ⟨_,y,fun s v hm=>?_⟩
 have hs:s.size≤maxLen:=by
  obtain ⟨s',e1,e2⟩:=J.keys _ hm;cases e1;exact e2
 obtain ⟨v',ps,I,_⟩:=y.look_ok CS Tryz.underlying102 (KU w) rfl (mG hs);have U:=kP jl (w:=w) trivial true Tryz.underlying102 J hm;rw [I] at U;simp at U;exact U.2
theorem D.KW {w:World} {b n r cnt:Nat} {M:DataW Value} {left:Lit→Bool} {Lf:List (Value × Value)} (hL:gm isStr b Lf w) (h:w.ranges Tryz.prog 9 tZ b r n M left cnt) {s:ByteArray} {v:Value} (hs:s.size≤maxLen) (hl:left (qY s)=true)
  (a2:∀ zd,M.atKey (qY s) zd=.held v):((.string s:Value),v) ∈ Lf:=by
 have J:=h.owns;obtain ⟨es,ck,since,seen,c0,hb,hF,_,_,_,_,_,_,a3,_⟩:=h;obtain ⟨e,he,hk⟩:=a3 _ hl;obtain ⟨y,hy⟩:=hF.reads e he;have a4:Go.WideElems.rg Tryz.prog 9 tZ e=y:=by unfold Go.WideElems.rg; rw [hy]; rfl
 rw [a4] at hk;have U:=Go.WideElems.rd_key hy;rw [hk] at U;obtain ⟨x,e1,e2,_⟩:=Maps.keyOf_str Tryz.underlying9 U
 have a5:e.key=.string s:=by
  rw [e1];unfold qY at e2;have:s.data.toList=x:=by simpa using e2
  subst this;cases s;simp [encStr]
 obtain ⟨⟨a7,a8,a0,a6⟩,h2,h3⟩:=id hL;rw [hb] at a0;cases a0;have I:((.string s:Value),e.val) ∈ Lf:=by rw [← a6,← a5]; exact List.mem_map.2 ⟨e,he,rfl⟩
 obtain ⟨v',ps,a1,hR⟩:=J.look_ok CS Tryz.underlying102 (KU w) rfl (mG hs);have h4:=kP jl (w:=w) trivial true Tryz.underlying102 hL I;rw [a1] at h4;rw [a2] at hR;simp at h4;unfold tZ at hR;simp at hR;rw [← hR.1,h4.1];exact I
def D.sU {E:List Fe} {w0:World} (Lf:List (Value × Value)) (xs:List (vg E w0)):Prop:=(xs.map fun x=>bU x.1.t).Nodup∧∀ p ∈ Lf,∃ x ∈ xs,p.1=.string (bU x.1.t)
theorem values1_in (F:Fence) (n:Nat) (hf:F.fn 123) (b9:F.round=none) (hn:1≤n) (l Bm b:Nat) (E:List Fe) (w0:World) (Lf:List (Value × Value)) (J Jx:List (vg E w0)→World→Prop)
  (hY:∀ U x W,J U W→U.length < Lf.length→YieldAt F (n - 1) Tryz.prog l #[x.1.val] W fun e W'=>
   (e=.returned (.bool true)∧J (U ++ [x]) W'∧KeepsWalks W W')∨(e=.returned (.bool false)∧Jx (U ++ [x]) W'))
  (W:World) (hJ:AbidesFrom W.heap.size J) (hm:W.cell? ⟨Bm,0,none⟩=some (.map (some b))) (hL:gm isStr b Lf W) (hT:iT b W) (hE:∀ p ∈ Lf,∃ x:vg E w0,p=(.string (bU x.1.t),x.1.val)) (hN:Lf.length≤maxLen) (h0:J [] W):
  CallsIn F n Tryz.prog 123 #[.func (.yield l) #[] #[],.pointer (some ⟨Bm,0,none⟩)] W fun e W'=>(∃ v,e=.returned v)∧
   ((∃ xs,sU Lf xs∧J xs W')∨(∃ U,True∧Jx U W')):=by
 obtain ⟨M,a0,a5⟩:=NT hL hT hN;refine callsIn_of_wp Tryz.func123 rfl hf ?_ b9;simp only [Tryz.ntmps123,List.size_toArray,List.length_cons,List.length_nil,Nat.reduceAdd,Nat.reduceSub,Array.replicate_succ,Array.replicate_zero,List.push_toArray,List.append_toArray,List.nil_append,List.cons_append];have HH:=η a5;have HL:=η hL;have HT:=η hT;clear a5 hL hT
 gi_wp2_with (first
  | (gi_at_range; refine wpListIn_range_own _ rfl _ 102 rfl 9 33 CS Tryz.underlying102 _ b Lf.length _ rfl a0 ?_; intro w1 a6 ac bc)
  | gi_in)
 go_frame
 have ap:gm isStr b Lf w1:=HL.out.grown ac (by simp);have aq:J [] w1:=hJ [] W w1 none h0 ac (fun r e=>by cases e);have a7:=η a6;have ae:=η (ι ap aq);have bf:=η a0.size_le;clear a6 ap aq a0 ac bc h0 hm
 gi_loopw [4] (fun _ wr=>∃ (left:Lit→Bool) (cnt:Nat) (xs:List (vg E w0)),wr.ranges Tryz.prog 9 tZ b W.heap.size Lf.length M left cnt∧xs.length+cnt≤Lf.length∧Collected M left (xs.map fun x=>(bU x.1.t).data.toList)∧gm isStr b Lf wr∧J xs wr)
  (fun _ wr=>wr.rangeLeft b W.heap.size)
 case atStart=>
  exact ⟨_,_,[],a7.out,by simpa using bf.out,Collected.start M,ae.out.1,ae.out.2⟩
 case round=>
  obtain ⟨left,cnt,xs,I,af,hC,a1,ag⟩:=hrel;clear a7 ae
  gi_wp2_with (first
   | (gi_at_next; refine wpListIn_next_ranges _ rfl _ rfl 9 CS tZ encStr id (fun bz kl hk=>by obtain ⟨x,hx,_⟩:=Maps.keyOf_str Tryz.underlying9 hk; exact ⟨x,hx⟩) (fun v _ _=>⟨v,rfl⟩) b W.heap.size Lf.length _ _ _ rfl I ?_ ?_)
   | gi_in)
  ·intro bg ar
   have HZ:Hid (sU Lf xs):=η (by
    refine ⟨?_,fun p hp=>?_⟩
    ·have:=hC.1
     rw [show (xs.map fun x=>(bU x.1.t).data.toList)=(xs.map fun x=>bU x.1.t).map (fun s=>s.data.toList) by simp] at this;exact List.Pairwise.of_map _ (fun a b h e=>h (by rw [e])) this
    ·obtain ⟨x,rfl⟩:=hE p hp
     have h1:=HH.out _ _ hp;have h2:=(hC.2 (bU x.1.t).data.toList).2 ⟨h1,ar _⟩;obtain ⟨y,hy,e⟩:=List.mem_map.1 h2
     exact ⟨y,hy,by rw [bytes_inj e]⟩)
   clear I hC af a1 ar bg
   gi_wp2
   go_end0
   exact ⟨⟨_,rfl⟩,.inl ⟨xs,HZ.out,ag⟩⟩
  ·intro x c kl yd yp w2 av a8 a2 hv a3 a9 aw am bh az
   obtain ⟨x',ex,rfl,bi⟩:=Maps.keyOf_str Tryz.underlying9 a8;obtain rfl:x=x':=encStr_inj ex;obtain ⟨s,rfl⟩:∃ s:ByteArray,x=s.data.toList:=⟨⟨x.toArray⟩,rfl⟩;have bj:encStr s.data.toList=.string s:=by cases s; simp [encStr]
   have bk:yd=.held c:=by
    unfold tZ at hv;simp at hv;exact hv.1.symm
   subst bk;obtain ⟨X,hX⟩:=hE _ (KW a1 I (by simpa using bi) a2 a3);simp only [Prod.mk.injEq,Value.string.injEq] at hX;obtain ⟨rfl,rfl⟩:=hX;rw [bj] at az ⊢;obtain ⟨⟨t,c1,ba⟩,bl,bn,aD⟩:=X;obtain ⟨Ae,ce,_,bo⟩:=aY aD;have aE:c1=.slice Ae t.args.length ce:=bo;subst aE;obtain ⟨X,a4⟩:∃ X:vg E w0,X=⟨⟨t,.slice Ae t.args.length ce,ba⟩,bl,bn,aD⟩:=⟨_,rfl⟩;have aL:X.1.t=t:=by rw [a4]
   have bp:X.1.c1=.slice Ae t.args.length ce:=by rw [a4]
   have aM:(.agg #[.string t.name,.slice Ae t.args.length ce]:Value)=X.1.val:=by rw [a4]; rfl
   dsimp only [Fe.val] at az a2 a3 ⊢;have bq:b ≠ W.heap.size:=I.ne.symm;have aR:gm isStr b Lf w2:=a1.grown am (fun e=>bq (by injection e));have b1:J xs w2:=hJ xs wr w2 (some W.heap.size) ag am (fun r e=>by cases e; exact ⟨ν,I.iter_walk⟩);have b2:J xs (w2.alloc (.cells #[.string t.name,.slice Ae t.args.length ce] 33)):=hJ xs w2 _ none b1 (World.grownBy_alloc _ _ _) (fun r e=>by cases e);have aa:=a9.alloc (.cells #[.string t.name,.slice Ae t.args.length ce] 33);have ao:gm isStr b Lf (w2.alloc (.cells #[.string t.name,.slice Ae t.args.length ce] 33)):=aR.grown (World.grownBy_alloc _ _ none) (by simp);obtain ⟨fn,tmps,assign,body,hy,hR⟩:=hY xs X _ b2 (by omega);have br:=η I.left_eq;have bt:=η (hC.step a2 a3);have b3:=η aw;have bu:=η af;obtain ⟨⟨bA,bB,b4,_⟩,_,_⟩:=id ao;have b5:=η b4;have b6:=η aa;have bv:=η ao;clear bh hC a2 a3 a8 hv aw af I a9 aa aR ao b1 b2 ag a1 am b4;rw [← aM] at hy;have HX:=η aL;clear aL bp aM a4
   gi_wp2
   refine hR.mono ?_;rintro e W3 (⟨rfl,bw,b7⟩ | ⟨rfl,b8⟩)
   ·have ab:=η (b6.out.of_walks b7)
    have bx:Hid (gm isStr b Lf W3):=η (bv.out.same (by rw [b5.out]; exact b7.same b _ b5.out rfl));clear hy hR
    gi_wp2
    go_roundw
    case rel=>exact ⟨_,av,xs ++ [X],ab.out,by have:=bu.out; have:=b3.out; simp; omega,by rw [List.map_append,List.map_cons,List.map_nil,HX.out]; exact bt.out,bx.out,bw⟩
    case measure=>rw [ab.out.left_eq,br.out]; exact b3.out
   ·clear hy hR
    gi_wp2
    refine bodyPost_ret (results_none rfl _ _ _) rfl ?_;exact ⟨⟨_,rfl⟩,.inr ⟨xs ++ [X],trivial,b8⟩⟩
theorem values_in (F:Fence) (n:Nat) (hf:F.fn 63) (y:F.round=none) (b:Nat) (w:World):
  CallsIn F n Tryz.prog 63 #[.map (some b)] w fun e w'=>e=.returned (.func (.func 123) #[] #[.pointer (some ⟨w.heap.size,0,none⟩)])∧w'=w.alloc (.cells #[.map (some b)] 102):=by
 refine callsIn_of_wp Tryz.func63 rfl hf ?_ y;simp only [Tryz.ntmps63,List.size_toArray,List.length_cons,List.length_nil,Nat.reduceAdd,Nat.reduceSub,Array.replicate_succ,Array.replicate_zero,List.push_toArray,List.append_toArray,List.nil_append,List.cons_append]
 gi_wp2
 go_ret;exact ⟨rfl,rfl⟩
end
end Go.Proofs.YtkjinanbccloeaaGreatDoor
