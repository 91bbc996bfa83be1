/- Of the proof of FnEval,FnEvalOrder,FnEvalMore: EvalS, StoQ, FndP, RunP3, FolQ, StoI. -/
import Derived.Test.YtkjinanbccloeaaGreatDoorM34
import Derived.Test.YtkjinanbccloeaaGreatDoorM35
import Derived.Test.YtkjinanbccloeaaGreatDoorM36
set_option linter.unusedVariables false
set_option maxHeartbeats 4000000
set_option maxRecDepth 100000
namespace Go.Proofs.YtkjinanbccloeaaGreatDoor
open Go.RowKit D
attribute [local go_sem ↓] Go.wp_at_zero Go.wp_at_succ
def D.fD (rs:List Ru) (xs:List A):Bool:=decide (dQ rs=0) && (okB xs && decide (xs.length≤40)) && kV (aF rs) xs
def D.bW (rs:List Ru) (xs:List A):List A × Bool:=if fD rs xs then (if (gy rs xs).2 then ((gy rs xs).1.1,true) else ([],false)) else ([],false)
theorem Ve (rs:List Ru) (xs:List A) (v1 v2:Value) (b1 b2:List Nat) (w:World) (h:dS w [v1] rs b1) (h2:aW w [v2] xs b2):
  Calls Tryz.prog 55 #[v1,v2] w fun e w'=>e=.returned (.bool (fD rs xs))∧Below w.heap.size w w':=by
 have c1:=rH rs v1 b1 w h;have C2:=η fun w' (J:Below w.heap.size w w')=>UF xs v2 b2 40 w' (au.below h2 J) (by omega)
 have C3:=η fun w' (J:Below w.heap.size w w') (hn:(aF rs).length≤1000000)=>Rf rs xs v1 v2 b1 b2 w' (aV.below h J) (au.below h2 J) hn
 have a2:(dQ rs:Int)≤5:=by have:=J7 rs; omega
 clear h h2;by_cases U:dQ rs=0
 ·have hn:(aF rs).length≤1000000:=by have h1:=(jU rs).1 U; have:=(kQ h1.ok).2; have:=h1.few; omega
  have C4:=η fun w' J=>C3.out w' J hn
  have HZ:Hid (fD rs xs=((okB xs && decide (xs.length≤40)) && kV (aF rs) xs)):=η (by unfold fD; rw [decide_eq_true U,Bool.true_and]);rw [U] at c1;clear U hn C3 a2;generalize kV (aF rs) xs=z at *
  go_enter Tryz.func55,Tryz.ntmps55
  go_wp2_with fail
  refine c1.mono ?_;rintro e w1 ⟨rfl,y⟩;clear c1
  go_wp2_with fail
  refine (C2.out _ y).mono ?_;rintro e w2 ⟨rfl,a0⟩;have B2:=y.trans (a0.mono y.size);clear C2 y a0;cases hx:(okB xs && decide (xs.length≤40))
  ·have I:Hid (fD rs xs=false):=η (by rw [HZ.out,hx]; rfl)
   clear HZ hx C4;go_wp2;go_ret;exact ⟨aI I.out.symm,B2⟩
  ·have I:Hid (fD rs xs=z):=η (by rw [HZ.out,hx]; rfl)
   clear HZ hx
   go_wp2_with fail
   refine (C4.out _ B2).mono ?_;rintro e w3 ⟨rfl,a1⟩;have B3:=B2.trans (a1.mono B2.size);clear C4 a1;go_wp2;go_ret;exact ⟨aI I.out.symm,B3⟩
 ·have I:Hid (fD rs xs=false):=η (by unfold fD; rw [decide_eq_false U]; rfl)
  have a3:¬ (dQ rs:Int)=0:=by omega
  clear U C2 C3
  go_enter Tryz.func55,Tryz.ntmps55
  go_wp2_with fail
  refine c1.mono ?_;rintro e w1 ⟨rfl,y⟩;go_wp2;go_ret;exact ⟨aI I.out.symm,y⟩
theorem D.Ez {a:A} (h:aX a=true):a.args.length≤3:=by
 unfold aX at h;simp only [Bool.and_eq_true,decide_eq_true_eq] at h;exact h.1.2
theorem D.Vf {r:Ru} (h:dM r=true):r.body.length≤4∧r.head.args.length≤1000∧∀ p ∈ r.body,p.atom.args.length≤1000:=by
 unfold dM mF at h;simp only [Bool.and_eq_true,decide_eq_true_eq,List.all_eq_true] at h;exact ⟨h.1.1,Nat.le_trans (Ez h.2) (by omega),fun p y=>Nat.le_trans (Ez (h.1.2 p y)) (by omega)⟩
structure D.LX (rs:List Ru) (xs:List A):Prop where
 fJ:fJ xs=true
 n:xs.length≤40
 m:rs.length≤8
 ok:rs.all dM=true
 facts:∀ a ∈ xs,dO a=true
 fine:Fine rs
 fit:kV (aF rs) xs=true
theorem D.qB {rs:List Ru} {xs:List A} (h:fD rs xs=true):LX rs xs:=by
 unfold fD okB at h;simp only [Bool.and_eq_true,decide_eq_true_eq,List.all_eq_true] at h;have hf:=(jU rs).1 h.1.1;exact ⟨h.1.2.1.2,h.1.2.2,hf.few,hf.ok,h.1.2.1.1,hf,h.2⟩
theorem D.LX.rules {rs:List Ru} {xs:List A} (h:LX rs xs):∀ r ∈ rs,r.body.length≤4∧r.head.args.length≤1000∧∀ p ∈ r.body,p.atom.args.length≤1000:=fun r hr=>Vf (List.all_eq_true.1 h.ok r hr)
theorem D.LX.args {rs:List Ru} {xs:List A} (h:LX rs xs):∀ a ∈ xs,a.args.length≤1000:=fun a ha=>Nat.le_trans (Qk (h.facts a ha)) (by omega)
theorem eval_any (rs:List Ru) (xs:List A) (v1 v2:Value) (b1 b2:List Nat) (w:World) (h:dS w [v1] rs b1) (J:aW w [v2] xs b2):
  Calls Tryz.prog 14 #[v1,v2] w fun e w'=>Below w.heap.size w w'∧∃ v bs,e=.returned (.tuple #[v,.bool (bW rs xs).2])∧aW w' [v] (bW rs xs).1 bs:=by
 have c1:=Ve rs xs v1 v2 b1 b2 w h J;have HR:=η h;have HX:=η J;clear h J
 cases hok:fD rs xs with
 | false=>
  have I:Hid (bW rs xs=([],false)):=η (by unfold bW; rw [hok]; rfl);rw [hok] at c1;clear hok
  go_enter Tryz.func14,Tryz.ntmps14
  go_wp2_with fail
  refine c1.mono ?_;rintro e w1 ⟨rfl,y⟩;have a1:Below w.heap.size w (w1.alloc (.cells #[] 33)):=y.alloc y.size _;clear c1;go_wp2;go_ret2;exact ⟨a1,.slice (some ⟨w1.heap.size,0,none⟩) 0 0,[],(by rw [I.out]; try rfl),by rw [I.out]; exact qN⟩
 | true=>
  have U:=η (qB hok);rw [hok] at c1
  go_enter Tryz.func14,Tryz.ntmps14
  go_wp2_with fail
  refine c1.mono ?_;rintro e w1 ⟨rfl,y⟩;have q:=run_any rs xs v1 v2 b1 b2 w1 (aV.below HR.out y) (au.below HX.out y) U.out.fJ (by have:=U.out.n; omega) U.out.m U.out.ok U.out.rules U.out.args;clear c1
  go_wp2_with fail
  refine q.mono ?_;rintro e w2 ⟨a0,e0,e1,a2,rfl,J⟩;have B2:=η (y.trans (a0.mono y.size));obtain ⟨A3,p3,bx,ox,cx,ba,bb,rfl,rfl,rfl,h3,-,-⟩:=nK J;have H3:=η (au.below h3 ((Below.refl w2.heap.size w2).alloc (Nat.le_refl _) (.cells #[.slice A3 (gy rs xs).1.1.length p3,.slice (some ⟨bx,ox,none⟩) (gy rs xs).1.2.length cx] 96)));have B3:=η (B2.out.alloc B2.out.size (.cells #[.slice A3 (gy rs xs).1.1.length p3,.slice (some ⟨bx,ox,none⟩) (gy rs xs).1.2.length cx] 96));clear q J h3 y a0
  cases hr:(gy rs xs).2 with
  | false=>
   have I:Hid (bW rs xs=([],false)):=η (by unfold bW; rw [hok,hr]; rfl);have B4:=η (B3.out.alloc B3.out.size (.cells #[] 33));clear hok hr;go_wp2;go_ret2;exact ⟨B4.out,.slice (some ⟨w2.heap.size+1,0,none⟩) 0 0,[],(by rw [I.out]; try rfl),by rw [I.out]; exact qN⟩
  | true=>
   have I:Hid (bW rs xs=((gy rs xs).1.1,true)):=η (by unfold bW; rw [hok,hr]; rfl);clear hok hr;go_wp2;go_ret2;exact ⟨B3.out,.slice A3 (gy rs xs).1.1.length p3,ba,(by rw [I.out]; try rfl),by rw [I.out]; exact H3.out⟩
end Go.Proofs.YtkjinanbccloeaaGreatDoor
namespace Go.Proofs.YtkjinanbccloeaaGreatDoor
open Go.RowKit Go.ChangeMaps Go.MapKept D
def D.yI (fs:List A):List (Value × Value):=fs.zipIdx.map fun p=>(.string (bP p.1),.int .i64 (p.2:Nat))
theorem D.GY (fs:List A) (a:A):yI (fs ++ [a])=yI fs ++ [(.string (bP a),.int .i64 (fs.length:Nat))]:=by
 unfold yI;rw [List.zipIdx_append,List.map_append];simp
theorem D.xG {fs:List A} {p:Value × Value}:p ∈ yI fs ↔ ∃ i,∃ h:i < fs.length,p=(.string (bP fs[i]),.int .i64 (i:Nat)):=by
 unfold yI;rw [List.mem_map];constructor
 ·rintro ⟨q,hq,rfl⟩
  obtain ⟨a,i⟩:=q;obtain ⟨h1,y,I⟩:=List.mem_zipIdx hq;simp at y I;exact ⟨i,y,by rw [← I]⟩
 ·rintro ⟨i,h,rfl⟩
  exact ⟨(fs[i],i),by rw [List.mem_zipIdx_iff_getElem?]; simp [h],rfl⟩
theorem D.Vg {w:World} {Ad:Option Addr} {n c:Nat} {xs:List Nat} {b:List Nat} (h:ji w [.slice Ad n c] xs b):∀ x ∈ b,(Value.slice Ad n c).ownBlock=some x:=by
 obtain ⟨a0,cap,he,_,_,h0,h1⟩:=h;simp only [List.cons.injEq,Value.slice.injEq,and_true] at he;obtain ⟨rfl,rfl,rfl⟩:=he;intro x y;by_cases I:xs = []
 ·rw [h0 I] at y; simp at y
 ·obtain ⟨b0,o,rfl,F,G,rfl,h3⟩:=h1 I
  rcases List.mem_cons.1 y with rfl | y
  ·rfl
  ·obtain ⟨k,U,J⟩:=List.mem_flatMap.1 y
   have U:=List.mem_range.1 U;obtain ⟨_,_,h5⟩:=h3 k _ (List.getElem?_eq_getElem U);rw [h5.2] at J;simp at J
theorem D.kK.view {B sb mu mp:Nat} {Af:Option Addr} {nf cf:Nat} {Lf:List Value} {fs:List A} {bf:List Nat} {Ar:Option Addr} {nr cr:Nat} {Lr:List Value} {rn:List Nat} {ou:List Nat} {w:World} (h:kK B sb mu mp Af nf cf Lf fs bf Ar nr cr Lr rn (yI fs) (idxs fs) ou w) (B0:Nat) (J:B0≤sb∧B0≤mu∧B0≤mp∧B0≤B):
  ∃ bs,jq sb fs rn bs w∧∀ x ∈ bs,B0≤x∨x ∈ bf:=by
 obtain ⟨l1,l2,l3,_⟩:=h.lo;have hs:=h.oN;have U:=h.ef;have a0:=h.er;subst U a0;obtain ⟨b2,hF,a1⟩:=h.cF.slice;obtain ⟨b3,hR,a2⟩:=h.cR.slice;obtain ⟨rows,c,g1,g2,g3⟩:=h.un.ex;refine ⟨sb :: mu :: mp :: (b2 ++ b3 ++ ou),⟨⟨Af,cf,Ar,cr,mu,mp,b2,b3,(rows.map La).map (fun p=>(p.1,p.2.1)),yI fs,h.blk,hF,hR,g1.Yr,h.pl,fun k=>?_,fun s=>?_,fun p hp=>?_,by simp,by simp,fun b I=>by simp [I],fun b I=>by simp [I]⟩,by simp,fun x y=>?_⟩,fun x y=>?_⟩
 ·by_cases hex:∃ r ∈ rows,r.k=k
  ·obtain ⟨r,hr,rfl⟩:=hex
   obtain ⟨b,I,_⟩:=(g2.coll r hr).slice;obtain ⟨Ad,cap,hv,_⟩:=ak I;refine .inl ⟨r.v,b,List.mem_map.2 ⟨La r,List.mem_map.2 ⟨r,hr,rfl⟩,rfl⟩,I,fun x y=>?_⟩;rw [hv] at I;have:=g2.own r hr x (by rw [hv]; exact Vg I x y);simp [this]
  ·refine .inr ⟨fun p hp e=>?_,g3 k fun r hr e=>hex ⟨r,hr,e⟩⟩
   obtain ⟨q,hq,rfl⟩:=List.mem_map.1 hp;obtain ⟨r,hr,rfl⟩:=List.mem_map.1 hq;exact hex ⟨r,hr,Iy e⟩
 ·constructor
  ·rintro ⟨i,hi⟩
   obtain ⟨j,hj,e⟩:=xG.1 hi;simp at e;exact List.mem_map.2 ⟨fs[j],List.getElem_mem hj,e.1.symm⟩
  ·intro hm
   obtain ⟨f,hf,rfl⟩:=List.mem_map.1 hm;obtain ⟨j,hj,rfl⟩:=List.getElem_of_mem hf;exact ⟨j,xG.2 ⟨j,hj,rfl⟩⟩
 ·obtain ⟨i,hi,rfl⟩:=xG.1 hp
  exact ⟨i,rfl⟩
 ·simp only [List.mem_cons,List.mem_append] at y
  rcases y with rfl | rfl | rfl | (y | y) | y
  ·omega
  ·omega
  ·omega
  ·exact au.lt hF x y
  ·exact dB.lt hR x y
  ·exact (h.ous x y).2
 ·simp only [List.mem_cons,List.mem_append] at y
  rcases y with rfl | rfl | rfl | (y | y) | y
  ·exact .inl J.1
  ·exact .inl J.2.1
  ·exact .inl J.2.2.1
  ·exact (a1 x y).imp (fun h=>by omega) id
  ·rcases a2 x y with h | h
   ·exact .inl (by omega)
   ·simp at h
  ·have:=(h.ous x y).1; exact .inl (by omega)
theorem D.LY {fs:List A} (hf:∀ f ∈ fs,aN f) {a:A} (ha:aN a) (y:a ∉ fs):∀ p ∈ yI fs,p.1 ≠ .string (bP a):=fun p J e=>by
 obtain ⟨i,I,rfl⟩:=xG.1 J;simp at e;exact y (sV (hf _ (List.getElem_mem I)).ok ha.ok e ▸ List.getElem_mem I)
structure D.Fe where
 t:A
 c1:Value
 ba:List Nat
def D.Fe.kv (x:Fe):Value × Value:=(.string (bP x.t),.agg #[.string x.t.name,x.c1])
theorem D.New.swap {B:Nat} {w:World} {l1 m l2 n:List Nat} (h:New B w (l1 ++ m ++ l2)) (hn:New B w n) (hd:∀ x ∈ n,x ∉ l1∧x ∉ l2):New B w (l1 ++ n ++ l2):=by
 obtain ⟨n1,n2,n3⟩:=List.nodup_append.1 h.nodup;obtain ⟨m1,m2,m3⟩:=List.nodup_append.1 n1;refine ⟨List.nodup_append.2 ⟨List.nodup_append.2 ⟨m1,hn.nodup,fun x J y U e=>(hd y U).1 (e ▸ J)⟩,n2,fun x J y U e=>?_⟩,fun b I=>?_⟩
 ·rcases List.mem_append.1 J with J | J
  ·exact n3 x (List.mem_append_left _ J) y U e
  ·exact (hd x J).2 (e ▸ U)
 ·rcases List.mem_append.1 I with I | I
  ·rcases List.mem_append.1 I with I | I
   ·exact h.own b (List.mem_append_left _ (List.mem_append_left _ I))
   ·exact hn.own b I
  ·exact h.own b (List.mem_append_right _ I)
structure D.lX (a6 mf:Nat) (w:World) (told:List A) (fb:List Nat):Prop where
 box:w.heap[a6]? = some (.cells #[.map (some mf)] 102 (0,0))
 map:∃ E:List Fe,fV isStr mf (E.map Fe.kv) w∧(∀ x ∈ E,x.t ∈ told∧aN x.t∧aG w [.string x.t.name,x.c1] x.t x.ba∧∀ b ∈ x.ba,b ∈ fb∧b ≠ mf)∧(∀ t ∈ told,∃ x ∈ E,bP x.t=bP t)∧New a6 w (E.flatMap (·.ba))
 own:a6 ∈ fb∧mf ∈ fb∧a6 ≠ mf
 lt:∀ x ∈ fb,x < w.heap.size
 tm:iM mf w
 tok:∀ t ∈ told,aN t
theorem D.lX.keep {a6 mf:Nat} {told:List A} {U:List Nat} {w w':World} (h:lX a6 mf w told U) (y:∀ x ∈ U,w'.heap[x]? = w.heap[x]?) (hs:w.heap.size≤w'.heap.size):lX a6 mf w' told U:=by
 obtain ⟨E,h1,h2,h3,h4⟩:=h.map;refine ⟨(y _ h.own.1).trans h.box,⟨E,h1.same (y _ h.own.2.1),fun x I=>?_,h3,h4.keep fun b J=>?_⟩,h.own,fun x I=>Nat.lt_of_lt_of_le (h.lt x I) hs,h.tm.same (y _ h.own.2.1),h.tok⟩
 ·obtain ⟨g1,g2,g4,g5⟩:=h2 x I
  exact ⟨g1,g2,aj.keep g4 fun b J=>y b (g5 b J).1,g5⟩
 ·obtain ⟨x,I,J⟩:=List.mem_flatMap.1 J
  exact y b ((h2 x I).2.2.2 b J).1
theorem D.lX.made {I y:Nat} {w:World} (h1:w.heap[I]? = some (.cells #[.map (some y)] 102 (0,0))) (h2:fV isStr y [] w) (J:iM y w) (U:I ≠ y):lX I y w [] [I,y]:=
 ⟨h1,⟨[],h2,fun p hp=>by simp at hp,fun t ht=>by simp at ht,New.nil _ _⟩,⟨by simp,by simp,U⟩,fun x hx=>by
  simp at hx
  rcases hx with rfl | rfl
  ·exact lt_of_block h1
  ·exact h2.lt,J,fun t ht=>by simp at ht⟩
theorem D.lX.put {a6 mf:Nat} {told:List A} {fb:List Nat} {w:World} (h:lX a6 mf w told fb) {a:A} {c1:Value} {ba:List Nat} (ha:aG w [.string a.name,c1] a ba) (hok:aN a) (hn:New a6 w ba) (hd:∀ x ∈ ba,x ∉ fb):
  ∃ w',(Instr.mapUpdate 102 (.map (some mf)) (.string (bP a)) (.agg #[.string a.name,c1])).run Tryz.prog w=.ok () w'∧lX a6 mf w' (told ++ [a]) (fb ++ ba)∧w.grownBy w' (some mf):=by
 obtain ⟨E,h1,h2,h3,h4⟩:=h.map;have hb:mf ∉ ba:=fun hm=>hd mf hm h.own.2.1
 have fin:∀ (w':World) (E':List Fe),fV isStr mf (E'.map Fe.kv) w'→w.grownBy w' (some mf)→iM mf w'→(∀ x ∈ E',x ∈ E∨x=⟨a,c1,ba⟩)→(∀ x ∈ E,∃ y ∈ E',bP y.t=bP x.t)→(⟨a,c1,ba⟩:Fe) ∈ E'→New a6 w (E'.flatMap (·.ba))→lX a6 mf w' (told ++ [a]) (fb ++ ba):=by
  intro w' E' m1 m2 mt m3 m4 m5 m6;have kp:∀ x,x < w.heap.size→x ≠ mf→w'.heap[x]? = w.heap[x]?:=fun x J a2=>m2.block x J (fun e=>a2 (by injection e))
  refine ⟨(kp _ (lt_of_block h.box) h.own.2.2).trans h.box,⟨E',m1,fun x J=>?_,fun t ht=>?_,m6.keep fun b U=>?_⟩,⟨List.mem_append_left _ h.own.1,List.mem_append_left _ h.own.2.1,h.own.2.2⟩,fun x J=>?_,mt,fun t ht=>?_⟩
  ·rcases m3 x J with J | rfl
   ·obtain ⟨g1,g2,g4,g5⟩:=h2 x J
    exact ⟨List.mem_append_left _ g1,g2,aj.keep g4 fun b U=>kp b (aj.lt g4 b U) (g5 b U).2,fun b U=>⟨List.mem_append_left _ (g5 b U).1,(g5 b U).2⟩⟩
   ·exact ⟨by simp,hok,aj.keep ha fun x J=>kp x (aj.lt ha x J) (fun e=>hb (e ▸ J)),fun x J=>⟨List.mem_append_right _ J,fun e=>hb (e ▸ J)⟩⟩
  ·rcases List.mem_append.1 ht with ht | ht
   ·obtain ⟨x,J,e⟩:=h3 t ht
    obtain ⟨y,I,e2⟩:=m4 x J;exact ⟨y,I,e2.trans e⟩
   ·rw [List.mem_singleton.1 ht]
    exact ⟨_,m5,rfl⟩
  ·refine kp b (m6.lt U) fun e=>?_
   obtain ⟨x,J,a1⟩:=List.mem_flatMap.1 U
   rcases m3 x J with J | rfl
   ·exact ((h2 x J).2.2.2 b a1).2 e
   ·exact hb (e ▸ a1)
  ·rcases List.mem_append.1 J with J | J
   ·exact Nat.lt_of_lt_of_le (h.lt x J) m2.size
   ·exact Nat.lt_of_lt_of_le (aj.lt ha x J) m2.size
  ·rcases List.mem_append.1 ht with ht | ht
   ·exact h.tok t ht
   ·rw [List.mem_singleton.1 ht]; exact hok
 by_cases hex:∃ x ∈ E,bP x.t=bP a
 ·obtain ⟨x,J,e⟩:=hex
  obtain ⟨A1,B1,rfl⟩:=List.append_of_mem J;have e0:(A1 ++ x :: B1).map Fe.kv=A1.map Fe.kv ++ ((.string (bP a):Value),(.agg #[.string x.t.name,x.c1]:Value)) :: B1.map Fe.kv:=by rw [List.map_append,List.map_cons]; unfold Fe.kv; rw [e]
  rw [e0] at h1;obtain ⟨w',r1,r2,r3,r4⟩:=IE jh (w:=w) trivial Tryz.underlying102 (.agg #[.string a.name,c1]) h1;refine ⟨w',r1,fin w' (A1 ++ ⟨a,c1,ba⟩ :: B1) (by rw [List.map_append,List.map_cons]; exact r2) r3 (r4 h.tm) (fun y I=>?_) (fun y I=>?_) (by simp) ?_,r3⟩
  ·rcases List.mem_append.1 I with I | I
   ·exact .inl (List.mem_append_left _ I)
   ·rcases List.mem_cons.1 I with rfl | I
    ·exact .inr rfl
    ·exact .inl (List.mem_append_right _ (List.mem_cons_of_mem _ I))
  ·rcases List.mem_append.1 I with I | I
   ·exact ⟨y,List.mem_append_left _ I,rfl⟩
   ·rcases List.mem_cons.1 I with rfl | I
    ·exact ⟨⟨a,c1,ba⟩,by simp,e.symm⟩
    ·exact ⟨y,List.mem_append_right _ (List.mem_cons_of_mem _ I),rfl⟩
  ·have h5:New a6 w (A1.flatMap (·.ba) ++ x.ba ++ B1.flatMap (·.ba)):=by simpa [List.flatMap_append,List.flatMap_cons] using h4
   have h6:=New.swap h5 hn fun y I=>⟨fun hm=>?_,fun hm=>?_⟩
   ·simpa [List.flatMap_append,List.flatMap_cons] using h6
   ·obtain ⟨z,hz,a0⟩:=List.mem_flatMap.1 hm
    exact hd y I ((h2 z (by simp [hz])).2.2.2 y a0).1
   ·obtain ⟨z,hz,a0⟩:=List.mem_flatMap.1 hm
    exact hd y I ((h2 z (by simp [hz])).2.2.2 y a0).1
 ·have a3:∀ p ∈ E.map Fe.kv,p.1 ≠ .string (bP a):=fun p hp e=>by
   obtain ⟨x,J,rfl⟩:=List.mem_map.1 hp;unfold Fe.kv at e;exact hex ⟨x,J,by simpa using e⟩
  obtain ⟨w',r1,r2,r3,r4⟩:=qi jh (w:=w) trivial Tryz.underlying102 (.agg #[.string a.name,c1]) h1 ⟨_,rfl,nJ hok.ok⟩ a3;refine ⟨w',r1,fin w' (E ++ [⟨a,c1,ba⟩]) (by rw [List.map_append]; exact r2) r3 (r4 h.tm) (fun y I=>?_) (fun y I=>⟨y,List.mem_append_left _ I,rfl⟩) (by simp) ?_,r3⟩
  ·rcases List.mem_append.1 I with I | I
   ·exact .inl I
   ·exact .inr (List.mem_singleton.1 I)
  ·have h6:=New.swap (l2:=[]) (m:=[]) (by simpa using h4) hn fun y I=>⟨fun hm=>?_,by simp⟩
   ·simpa [List.flatMap_append] using h6
   ·obtain ⟨z,hz,a0⟩:=List.mem_flatMap.1 hm
    exact hd y I ((h2 z hz).2.2.2 y a0).1
end Go.Proofs.YtkjinanbccloeaaGreatDoor
namespace Go.Proofs.YtkjinanbccloeaaGreatDoor
open Go.RowKit D
section
variable {vars:List ByteArray} {fs ps ns:List A} {head:A} {wt:Nat→Bool} {K:Nat→Prop} {sk:Nat} {T:Bool→World→List A→Prop} {go:List A→Bool} {b:Bd} {left m:Nat} {L:List Nat} {told ts:List A} {hd more s:Bool} {k:Nat} {w wr w5 w6:World}
def D.rY (vars:List ByteArray) (fs ps ns:List A) (head:A) (K:Nat→Prop) (sk:Nat) (T:Bool→World→List A→Prop) (go:List A→Bool) (b:Bd) (left:Nat) (told:List A) (w:World) (e:Ending) (w':World):Prop:=
 ∃ held more,e=.returned (.tuple #[.bool held,.bool more])∧iG vars fs ps ns head K sk T go b left told held more w w'
theorem D.iG.ret (P:iG vars fs ps ns head K sk T go b left told hd more w w5):rY vars fs ps ns head K sk T go b left told w (.returned (.tuple #[.bool hd,.bool more])) w5:=⟨hd,more,rfl,P⟩
theorem D.iG.bd {b':Bd} {y I:Bool} {J:Nat} {U:List A} (P:iG vars fs ps ns head K sk T go b' J U y I w w6):gI vars b' sk 18 w6:=by
 obtain ⟨_,_,h,_⟩:=P;exact h
structure D.fP (vars:List ByteArray) (fs ps ns:List A) (head:A) (K:Nat→Prop) (sk:Nat) (T:Bool→World→List A→Prop) (go:List A→Bool) (b:Bd) (left m:Nat) (L:List Nat) (told ts:List A) (hd more:Bool) (k:Nat) (w wr:World):Prop where
 kept:bI K sk w wr
 at_:gI vars b sk 18 wr
 st:T more wr (told ++ ts)
 sound:∀ t ∈ ts,∃ σ,tZ fs ps ns b left σ∧fA σ head=t
 whole:more=true→∀ i,i < k→∀ (h:i < L.length) (j:Nat) (hj:j < fs.length),L[i]=j→∀ (hm:m < ps.length) σ,tZ fs ps ns b left σ→fA σ ps[m]=fs[j]→fA σ head ∈ ts
 held:hd=true→ts ≠ []
 nogo:more=false→go (told ++ ts)=false
theorem D.fP.skip (I:fP vars fs ps ns head K sk T go b left m L told ts hd true k w wr) (hk:k < L.length) (hj:L[k] < fs.length) (hm:m < ps.length) (y:(aC ps[m] fs[L[k]] b).2=false)
  (k6:bI K sk wr w6) (J:gI vars b sk 18 w6) (U:T true w6 (told ++ ts)):fP vars fs ps ns head K sk T go b left m L told ts hd true (k+1) w w6:=by
 refine ⟨I.kept.trans k6,J,U,I.sound,fun _ i hi h j a0 e a1 σ hσ he=>?_,I.held,fun h=>by cases h⟩
 rcases Nat.lt_succ_iff_lt_or_eq.1 hi with h1 | rfl
 ·exact I.whole rfl i h1 h j a0 e a1 σ hσ he
 ·subst e
  rw [(mP hσ.1 he).1] at y;cases y
theorem D.fP.took (I:fP vars fs ps ns head K sk T go b left m L told ts hd true k w wr) (hl:left < 16) (a1:ps.length≤4) (hk:k < L.length) (hj:L[k] < fs.length) (a2:Gr fs[L[k]]) (hm:m < ps.length) (a0:left.testBit m=true) (a3:(aC ps[m] fs[L[k]] b).2=true)
  {w4:World} {J y:Bool} (P:iG vars fs ps ns head K sk T go (aC ps[m] fs[L[k]] b).1 (left - 2 ^ m) (told ++ ts) J y w4 w5) (k4:bI K sk wr w4) (k6:bI K sk w5 w6) (a4:gI vars b sk 18 w6) (hT:∀ U,T y w5 U→T y w6 U):
  ∃ a5,fP vars fs ps ns head K sk T go b left m L told a5 (hd || J) y (k+1) w w6:=by
 obtain ⟨U,p1,p2,p3,p4,p5,p6,p7⟩:=P;refine ⟨ts ++ U,I.kept.trans (k4.trans (p1.trans k6)),a4,by rw [← List.append_assoc]; exact hT _ p3,fun t ht=>?_,fun a6 i hi h j a7 e a8 σ hσ he=>?_,fun hh=>?_,fun h=>by rw [← List.append_assoc]; exact p7 h⟩
 ·rcases List.mem_append.1 ht with ht | ht
  ·exact I.sound t ht
  ·obtain ⟨σ,h1,h2⟩:=p4 t ht
   exact ⟨σ,h1.back hl a1 hm a0 (List.getElem_mem _) a2 a3,h2⟩
 ·rcases Nat.lt_succ_iff_lt_or_eq.1 hi with h1 | rfl
  ·exact List.mem_append_left _ (I.whole rfl i h1 h j a7 e a8 σ hσ he)
  ·subst e
   exact List.mem_append_right _ (p5 a6 σ (hσ.step hl a1 hm a0 he).2)
 ·intro e
  rcases List.append_eq_nil_iff.1 e with ⟨e1,e2⟩
  rcases Bool.or_eq_true_iff.1 hh with h | h
  ·exact I.held h e1
  ·exact p6 h e2
theorem D.fP.drewN {U c7:Addr} (I:fP vars fs ps ns head K sk T go b left m L told ts hd more k w wr) (hT:vH vars head sk K U c7 T go) (hs:sk < w.heap.size) {n:Nat}:fP vars fs ps ns head K sk T go b left m L told ts hd more k w (wr.drewN n):=by
 have J:Below wr.heap.size wr (wr.drewN n):=GK (Below.refl _ _) n;have y:=Nat.lt_of_lt_of_le hs I.kept.size;exact ⟨I.kept.trans (bI.of_below y J),I.at_.keep rfl,hT.keep _ _ _ I.st (cu.of_below J y),I.sound,I.whole,I.held,I.nogo⟩
theorem D.fP.off (I:fP vars fs ps ns head K sk T go b left m L told ts hd false k w wr):iG vars fs ps ns head K sk T go b left told hd false w wr:=
 ⟨ts,I.kept,I.at_,I.st,I.sound,fun h=>absurd h (by decide),I.held,I.nogo⟩
theorem D.fP.brk (hc:wK b head.args) (I:fP vars fs ps ns head K sk T go b left m L told ts true true k w wr):iG vars fs ps ns head K sk T go b left told true true w wr:=
 ⟨ts,I.kept,I.at_,I.st,I.sound,fun _ σ hσ=>Va hc I.sound (I.held rfl) σ hσ,I.held,I.nogo⟩
theorem D.fP.fin (E:qA vars fs ps ns head wt) {y:WK} {A9:Option Addr} {c9:Nat} {bs bx:List Nat} {w3:World} (C:vz fs ps b bs left m A9 c9 y bx w3) (hL:L=idxs fs y) (I:fP vars fs ps ns head K sk T go b left m L told ts hd true k w wr) (hk:L.length≤k):
  iG vars fs ps ns head K sk T go b left told hd true w wr:=by
 refine ⟨ts,I.kept,I.at_,I.st,I.sound,fun _ σ hσ=>?_,I.held,I.nogo⟩;have hin:=hσ.2.1 m C.lt C.bit;obtain ⟨j,U,e⟩:=List.getElem_of_mem hin;have a0:=(mP (f:=fs[j]) hσ.1 e.symm).1;have J:=C.key_ (ps[m]'C.lt) (List.getElem?_eq_getElem _) fs[j] (E.fok _ (List.getElem_mem U)).gr a0;have a1:j ∈ L:=by rw [hL]; exact Eg.2 ⟨U,J⟩
 obtain ⟨i,hi,e2⟩:=List.getElem_of_mem a1;exact I.whole rfl i (by omega) hi j U e2 C.lt σ hσ e.symm
end
def D.iW (fs:List A) (r:Ru) (t:A):Prop:=∃ σ:Wo,t=fA σ r.head∧(∀ p ∈ r.body,p.no=false→fA σ p.atom ∈ fs)∧∀ p ∈ r.body,p.no=true→fA σ p.atom ∉ fs
structure D.jw (r:Ru):Prop where
 hok:aX r.head=true
 pok:∀ p ∈ r.body,aX p.atom=true
 few:r.body.length≤4
 tight:Uw r
theorem D.pF {body:List Pt} {a:A}:a ∈ fQ body ↔ ∃ p ∈ body,p.no=false∧p.atom=a:=by
 unfold fQ;rw [List.mem_map];constructor
 ·rintro ⟨p,I,rfl⟩
  obtain ⟨h1,y⟩:=List.mem_filter.1 I;exact ⟨p,h1,by simpa using y,rfl⟩
 ·rintro ⟨p,h1,y,rfl⟩
  exact ⟨p,List.mem_filter.2 ⟨h1,by simpa using y⟩,rfl⟩
theorem D.pG {body:List Pt} {a:A}:a ∈ dI body ↔ ∃ p ∈ body,p.no=true∧p.atom=a:=by
 unfold dI;rw [List.mem_map];constructor
 ·rintro ⟨p,I,rfl⟩
  obtain ⟨h1,y⟩:=List.mem_filter.1 I;exact ⟨p,h1,y,rfl⟩
 ·rintro ⟨p,h1,y,rfl⟩
  exact ⟨p,List.mem_filter.2 ⟨h1,y⟩,rfl⟩
theorem D.GZ:∀ (l:List Pt),(∀ p ∈ l,aX p.atom=true)→iq (fun p:Pt=>p.atom.args.length) l≤l.length * 3
 | [],_=>Nat.zero_le _
 | p :: l,h=>by
  have h1:=GZ l fun q hq=>h q (List.mem_cons_of_mem _ hq)
  have I:=mQ (h p (List.mem_cons_self ..));have y:iq (fun p:Pt=>p.atom.args.length) (p :: l)=p.atom.args.length+iq (fun p:Pt=>p.atom.args.length) l:=by simp [iq]
  rw [y,List.length_cons,Nat.add_mul];omega
theorem D.PV {r:Ru} (R:jw r):jo (aB r.body):=by
 refine ⟨?_,uO (lg r.body qQ)⟩;have h1:=nC r.body [];have y:=GZ r.body R.pok;have I:=R.few;show (dV r.body []).length≤12;simp at h1;omega
theorem D.PW {ps:List Pt}:∀ p ∈ ps,∀ t ∈ p.atom.args,t.var=true→t.name ∈ aB ps:=fun p I t J y=>(fZ ps [] _).2 (.inr ⟨p,I,t,J,y,rfl⟩)
theorem D.IX {fs:List A} {r:Ru} (R:jw r) (J:∀ f ∈ fs,aN f) (U:fs.length≤1000000) {wt:Nat→Bool} (a0:∀ i,i < 12→wt i=LQ (aB r.body) r.head (dI r.body) i):
  qA (aB r.body) fs (fQ r.body) (dI r.body) r.head wt:=by
 have hf:=R.few;have l1:(fQ r.body).length≤r.body.length:=by unfold fQ; rw [List.length_map]; exact List.length_filter_le _ _
 have l2:(dI r.body).length≤r.body.length:=by unfold dI; rw [List.length_map]; exact List.length_filter_le _ _
 refine ⟨PV R,by omega,U,by omega,J,fun p y=>?_,fun n I=>?_,R.hok,fun p y=>?_,fun n I=>?_,fun t ht a1=>?_,a0,fun b hb=>?_⟩
 ·obtain ⟨q,h1,_,rfl⟩:=pF.1 y; exact R.pok q h1
 ·obtain ⟨q,h1,_,rfl⟩:=pG.1 I; exact R.pok q h1
 ·obtain ⟨q,h1,_,rfl⟩:=pF.1 y; exact PW q h1
 ·obtain ⟨q,h1,_,rfl⟩:=pG.1 I; exact PW q h1
 ·obtain ⟨p,y,_,hv⟩:=R.tight t.name (.inl ⟨t,ht,a1,rfl⟩)
  exact (fZ r.body [] _).2 (.inr ⟨p,y,hv⟩)
 ·obtain ⟨h1,h2⟩:=Gs R.tight (b:=b) fun p y I=>hb _ (pF.2 ⟨p,y,I,rfl⟩)
  exact ⟨h1,fun n I=>by obtain ⟨q,h3,_,rfl⟩:=pG.1 I; exact h2 q h3⟩
theorem D.Vh {fs:List A} {r:Ru} (R:jw r) {ts:List A} (h1:∀ t ∈ ts,∃ σ,tZ fs (fQ r.body) (dI r.body) [] (2 ^ (fQ r.body).length - 1) σ∧fA σ r.head=t)
  (h2:∀ σ,tZ fs (fQ r.body) (dI r.body) [] (2 ^ (fQ r.body).length - 1) σ→fA σ r.head ∈ ts) (t:A):t ∈ ts ↔ iW fs r t:=by
 constructor
 ·intro h
  obtain ⟨σ,⟨_,U,g3⟩,rfl⟩:=h1 t h;refine ⟨σ,rfl,fun p y I=>?_,fun p y I=>g3 _ (pG.2 ⟨p,y,I,rfl⟩)⟩;obtain ⟨j,J,e⟩:=List.getElem_of_mem (pF.2 ⟨p,y,I,rfl⟩);rw [← e];exact U j J (by rw [Nat.testBit_two_pow_sub_one]; simpa using J)
 ·rintro ⟨σ,rfl,g1,U⟩
  refine h2 σ ⟨fun n v h=>by simp [eU] at h,fun j J _=>?_,fun n I=>?_⟩
  ·obtain ⟨p,y,I,e⟩:=pF.1 (List.getElem_mem J)
   rw [← e]; exact g1 p y I
  ·obtain ⟨p,y,a0,rfl⟩:=pG.1 I
   exact U p y a0
theorem D.RF {r:Ru} (R:jw r) {b:Bd} (y:rU b) (hc:wK b r.head.args):aN (bK r.head b):=sZ R.hok y hc
end Go.Proofs.YtkjinanbccloeaaGreatDoor
namespace Go.Proofs.YtkjinanbccloeaaGreatDoor
open Go.RowKit D
attribute [local go_sem ↓] Go.wp_at_zero Go.wp_at_succ
def D.IY (xs:List A) (I:List Nat) (w0:World) (k:Nat) (w:World):Prop:=
 ∃ J cf Lf U cr Lr ou y,kK (w0.heap.size+3) (w0.heap.size+2) w0.heap.size (w0.heap.size+1) J (xs.take k).length cf Lf (xs.take k) y U (List.replicate k 0).length cr Lr (List.replicate k 0) (yI (xs.take k)) (idxs (xs.take k)) ou w∧Below w0.heap.size w0 w∧∀ x ∈ y,x ∈ I
theorem zH (xs:List A) (v:Value) (bx:List Nat) (w:World) (h:aW w [v] xs bx) (hf:∀ f ∈ xs,aN f) (hn:xs.Pairwise fun a b=>a ≠ b) (hl:xs.length≤1000000):
  Calls Tryz.prog 58 #[v] w fun e w'=>e=.returned (.pointer (some ⟨w.heap.size+2,0,none⟩))∧IY xs bx w xs.length w':=by
 obtain ⟨Ad,cap,rfl,a4,hm⟩:=ak h;have aE:=ay (Nat.le_trans a4 hm);have hA:Below w.heap.size w (((w.alloc (.map #[] 0)).alloc (.map #[] 0)).alloc (.cells #[.slice none 0 0,.slice none 0 0,.map (some w.heap.size),.map (some (w.heap.size+1))] 127)):=(((Below.refl _ _).alloc (Nat.le_refl _) _).alloc (by simp) _).alloc (by simp; omega) _;have a5:oV Iw w.heap.size [] 0 (((w.alloc (.map #[] 0)).alloc (.map #[] 0)).alloc (.cells #[.slice none 0 0,.slice none 0 0,.map (some w.heap.size),.map (some (w.heap.size+1))] 127)):=(oV.made (S:=Iw) w).same (by rw [Below.heap_alloc _ _ _ (by simp; omega),Below.heap_alloc _ _ _ (by simp)])
 have a6:fV isStr (w.heap.size+1) [] (((w.alloc (.map #[] 0)).alloc (.map #[] 0)).alloc (.cells #[.slice none 0 0,.slice none 0 0,.map (some w.heap.size),.map (some (w.heap.size+1))] 127)):=by
  have h0:=fV.made (S:=isStr) (w.alloc (.map #[] 0));have e:(w.alloc (.map #[] 0)).heap.size=w.heap.size+1:=by simp
  rw [e] at h0;exact h0.same (by rw [Below.heap_alloc _ _ _ (by simp)])
 have a7:(((w.alloc (.map #[] 0)).alloc (.map #[] 0)).alloc (.cells #[.slice none 0 0,.slice none 0 0,.map (some w.heap.size),.map (some (w.heap.size+1))] 127)).heap[w.heap.size+2]? = some (.cells #[.slice none 0 0,.slice none 0 0,.map (some w.heap.size),.map (some (w.heap.size+1))] 127 (0,0)):=by
  have:=heap_alloc_new ((w.alloc (.map #[] 0)).alloc (.map #[] 0)) (.cells #[.slice none 0 0,.slice none 0 0,.map (some w.heap.size),.map (some (w.heap.size+1))] 127);simpa using this
 have a8:Hid (IY xs bx w 0 (((w.alloc (.map #[] 0)).alloc (.map #[] 0)).alloc (.cells #[.slice none 0 0,.slice none 0 0,.map (some w.heap.size),.map (some (w.heap.size+1))] 127))):=η
  ⟨none,0,[],none,0,[],[],[],⟨a7,rfl,rfl,aY.nil _,aY.nil _,⟨⟨[],0,a5,⟨fun r hr=>by simp at hr,fun r hr=>by simp at hr,fun r hr=>by simp at hr⟩,fun k _=>by simp [idxs]⟩⟩,a6,fun x y=>by simp [Value.ownBlock] at y,fun x y=>by simp at y,fun x y=>by simp at y,fun x y=>by simp at y,by omega,fun x y=>by simp at y,by simp⟩,hA,fun x y=>by simp at y⟩
 have HH:=η h;have HF:=η (And.intro hf hn);clear h hf hn a4 hm hA a5 a6 a7;have aL:=@run_makeMap Tryz.prog
 go_enter Tryz.func58,Tryz.ntmps58
 go_wp2;generalize (((w.alloc (.map #[] 0)).alloc (.map #[] 0)).alloc (.cells #[.slice none 0 0,.slice none 0 0,.map (some w.heap.size),.map (some (w.heap.size+1))] 127))=W at *
 go_loopw [12] (fun i wr=>∃ (k:Nat),k≤xs.length∧i=.int .i64 k∧IY xs bx w k wr) (fun i _=>xs.length - (intOf i).toNat)
 case atStart=>exact ⟨0,Nat.zero_le _,rfl,a8.out⟩
 case round=>
  obtain ⟨k,hk,rfl,hI⟩:=hrel;clear a8;by_cases J:k < xs.length
  ·obtain ⟨Af,cf,Lf,Ar,cr,Lr,ou,bf,S,I,a9⟩:=hI
   obtain ⟨bq,oq,Ae,ce,ba,rfl,_,f0,f1,a2,a0⟩:=dK (au.below HH.out I) J;have aM:(0:Int)≤(k:Int):=by omega
   have ae:(k:Int) < (xs.length:Int):=by omega
   have U:Below wr.heap.size wr (wr.alloc (.cells #[.string xs[k].name,.slice Ae xs[k].args.length ce] 33)):=(Below.refl _ _).alloc (Nat.le_refl _) _;have a3:=HF.out.1 _ (List.getElem_mem J)
   have aa:xs[k] ∉ xs.take k:=fun hm=>by
    obtain ⟨i,hi,e⟩:=List.getElem_of_mem hm;simp at hi e;exact List.pairwise_iff_getElem.1 HF.out.2 i k (by omega) J (by omega) e
   have a1:=put_any (w.heap.size+3) (w.heap.size+2) w.heap.size (w.heap.size+1) Af cf Lf (xs.take k) bf Ar cr Lr (List.replicate k 0) (yI (xs.take k)) ou xs[k] (.slice Ae xs[k].args.length ce) ba ba 0 (wr.alloc (.cells #[.string xs[k].name,.slice Ae xs[k].args.length ce] 33)) (S.later U) (aj.below a2 U) (fun x y=>y)
    (fun x y=>(S.later U).low (by have:=au.lt HH.out x (a0 x y); omega)) (fun x y=>Nat.lt_of_lt_of_le (aj.lt a2 x y) U.size) a3.ok (LY (fun f hf=>HF.out.1 f (List.mem_of_mem_take hf)) a3 aa) (by simp; omega) (by simp; omega) w.heap.size (by omega)
   have HB:=η (I.trans (U.mono I.size));have ab:=η J;have af:Hid (∀ x ∈ bf ++ ba,x ∈ bx):=η fun x y=>(List.mem_append.1 y).elim (a9 x) (a0 x)
   have ag:Hid (xs.take (k+1)=xs.take k ++ [xs[k]]):=η (List.take_succ_eq_append_getElem J);clear S I a9 a2 a0 U a3 aa hk;generalize xs[k]=a at *;obtain ⟨an,am⟩:=a;dsimp only at *;clear J
   go_wp2_with fail
   refine a1.mono ?_;rintro e w2 ⟨rfl,ac,ao,ap,aq,ar,av,aw,az,S',-⟩
   have aD:Hid (IY xs bx w (k+1) w2):=η ⟨ao,ap,aq,ar,av,aw,az,_,by
    rw [ag.out,List.replicate_succ',GY,List.length_append,List.length_append]; exact S',HB.out.trans ac,af.out⟩
   clear a1 ac S';go_wp2;go_roundw
   case rel=>exact ⟨k+1,ab.out,by go_num,aD.out⟩
   case measure=>have:=ab.out; simp [intOf]; omega
  ·have he:k=xs.length:=by omega
   have ae:¬ (k:Int) < (xs.length:Int):=by omega
   have HD:Hid (IY xs bx w xs.length wr):=η (he ▸ hI);clear hI;go_wp2;go_ret;exact ⟨rfl,HD.out⟩
theorem D.IY.all {xs:List A} {bx:List Nat} {w0 w:World} (h:IY xs bx w0 xs.length w):
  Below w0.heap.size w0 w∧∃ J cf Lf U cr Lr ou I,kK (w0.heap.size+3) (w0.heap.size+2) w0.heap.size (w0.heap.size+1) J xs.length cf Lf xs I U (List.replicate xs.length 0).length cr Lr (List.replicate xs.length 0) (yI xs) (idxs xs) ou w∧∀ x ∈ I,x ∈ bx:=by
 obtain ⟨J,cf,Lf,U,cr,Lr,ou,I,S,y,a0⟩:=h;rw [List.take_length] at S;exact ⟨y,J,cf,Lf,U,cr,Lr,ou,I,S,a0⟩
theorem LZ (xs:List A) (v:Value) (I:List Nat) (w:World) (h:aW w [v] xs I) (hf:∀ f ∈ xs,aN f) (U:xs.Pairwise fun a b=>a ≠ b) (hl:xs.length≤1000000):
  Calls Tryz.prog 58 #[v] w fun e w'=>e=.returned (.pointer (some ⟨w.heap.size+2,0,none⟩))∧Below w.heap.size w w'∧∃ rn bs,jq (w.heap.size+2) xs rn bs w'∧∀ x ∈ bs,w.heap.size≤x∨x ∈ I:=by
 refine (zH xs v I w h hf U hl).mono ?_;rintro e w' ⟨rfl,h1⟩;obtain ⟨y,Af,cf,Lf,Ar,cr,Lr,ou,bf,S,J⟩:=h1.all;obtain ⟨bs,g1,g2⟩:=S.view w.heap.size (by omega);exact ⟨rfl,y,_,bs,g1,fun x hx=>(g2 x hx).imp id (J x)⟩
end Go.Proofs.YtkjinanbccloeaaGreatDoor
