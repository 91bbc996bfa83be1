/- Of the proof of FnEvalNeeds: EvalS, StoQ, RunP3, FolQ, StoI, FolR. -/
import Derived.Test.YtkjinanbccloeaaGreatDoorM35
import Derived.Test.YtkjinanbccloeaaGreatDoorM37
import Derived.Test.YtkjinanbccloeaaGreatDoorM38
set_option linter.unusedVariables false
set_option maxHeartbeats 4000000
set_option maxRecDepth 100000
namespace Go.Proofs.YtkjinanbccloeaaGreatDoor
section
open Go.RowKit D
attribute [local go_sem ↓] Go.wp_at_zero Go.wp_at_succ
def D.fD (rs:List Ru) (xs:List A):Bool:=decide (dJ rs=0) && (okB xs && decide (xs.length≤40)) && qh (aB rs) xs
def D.eX (rs:List Ru) (xs:List A):List A × Bool:=if fD rs xs then (if (gu rs xs).2 then ((gu rs xs).1.1,true) else ([],false)) else ([],false)
theorem SY (rs:List Ru) (xs:List A) (v1 v2:Value) (b1 b2:List Nat) (w:World) (h:dI w [v1] rs b1) (h2:aV w [v2] xs b2):
  Calls Tryz.prog 55 #[v1,v2] w fun e w'=>e=.returned (.bool (fD rs xs))∧Below w.heap.size w w':=by
 have c1:=rE rs v1 b1 w h;have C2:=η fun w' (J:Below w.heap.size w w')=>RF xs v2 b2 40 w' (au.below h2 J) (by omega)
 have C3:=η fun w' (J:Below w.heap.size w w') (hn:(aB rs).length≤1000000)=>O5 rs xs v1 v2 b1 b2 w' (bG.below h J) (au.below h2 J) hn
 have a2:(dJ rs:Int)≤5:=by have:=Ja rs; omega
 clear h h2;by_cases U:dJ rs=0
 ·have hn:(aB rs).length≤1000000:=by have h1:=(lG rs).1 U; have:=(jc h1.ok).2; have:=h1.few; omega
  have C4:=η fun w' J=>C3.out w' J hn
  have HZ:Hid (fD rs xs=((okB xs && decide (xs.length≤40)) && qh (aB rs) xs)):=η (by unfold fD; rw [decide_eq_true U,Bool.true_and]);rw [U] at c1;clear U hn C3 a2;generalize qh (aB rs) xs=z at *
  go_enter Tryz.func55,Tryz.ntmps55
  go_wp2_with fail
  refine c1.mono ?_;rintro e w1 ⟨rfl,y⟩;clear c1
  go_wp2_with fail
  refine (C2.out _ y).mono ?_;rintro e w2 ⟨rfl,a0⟩;have B2:=y.trans (a0.mono y.size);clear C2 y a0;cases hx:(okB xs && decide (xs.length≤40))
  ·have I:Hid (fD rs xs=false):=η (by rw [HZ.out,hx]; rfl)
   clear HZ hx C4;go_wp2;go_ret;exact ⟨aH I.out.symm,B2⟩
  ·have I:Hid (fD rs xs=z):=η (by rw [HZ.out,hx]; rfl)
   clear HZ hx
   go_wp2_with fail
   refine (C4.out _ B2).mono ?_;rintro e w3 ⟨rfl,a1⟩;have B3:=B2.trans (a1.mono B2.size);clear C4 a1;go_wp2;go_ret;exact ⟨aH I.out.symm,B3⟩
 ·have I:Hid (fD rs xs=false):=η (by unfold fD; rw [decide_eq_false U]; rfl)
  have a3:¬ (dJ rs:Int)=0:=by omega
  clear U C2 C3
  go_enter Tryz.func55,Tryz.ntmps55
  go_wp2_with fail
  refine c1.mono ?_;rintro e w1 ⟨rfl,y⟩;go_wp2;go_ret;exact ⟨aH I.out.symm,y⟩
theorem D.DJ {a:A} (h:aX a=true):a.args.length≤3:=by
 unfold aX at h;simp only [ο,decide_eq_true_eq] at h;exact h.1.2
theorem D.S9 {r:Ru} (h:dM r=true):r.body.length≤4∧r.head.args.length≤1000∧∀ p ∈ r.body,p.atom.args.length≤1000:=by
 unfold dM nO at h;simp only [ο,decide_eq_true_eq,List.all_eq_true] at h;exact ⟨h.1.1,τ (DJ h.2) (by omega),fun p y=>τ (DJ (h.1.2 p y)) (by omega)⟩
structure D.Kq (rs:List Ru) (xs:List A):Prop where
 gB:gB xs=true
 n:xs.length≤40
 m:rs.length≤8
 ok:rs.all dM=true
 facts:∀ a ∈ xs,dS a=true
 fine:Fine rs
 fit:qh (aB rs) xs=true
theorem D.qA {rs:List Ru} {xs:List A} (h:fD rs xs=true):Kq rs xs:=by
 unfold fD okB at h;simp only [ο,decide_eq_true_eq,List.all_eq_true] at h;have hf:=(lG rs).1 h.1.1;exact ⟨h.1.2.1.2,h.1.2.2,hf.few,hf.ok,h.1.2.1.1,hf,h.2⟩
theorem D.Kq.rules {rs:List Ru} {xs:List A} (h:Kq rs xs):∀ r ∈ rs,r.body.length≤4∧r.head.args.length≤1000∧∀ p ∈ r.body,p.atom.args.length≤1000:=fun r hr=>S9 (List.all_eq_true.1 h.ok r hr)
theorem D.Kq.args {rs:List Ru} {xs:List A} (h:Kq rs xs):∀ a ∈ xs,a.args.length≤1000:=fun a ha=>τ (Oo (h.facts a ha)) (by omega)
theorem eval_any (rs:List Ru) (xs:List A) (v1 v2:Value) (b1 b2:List Nat) (w:World) (h:dI w [v1] rs b1) (J:aV w [v2] xs b2):
  Calls Tryz.prog 14 #[v1,v2] w fun e w'=>Below w.heap.size w w'∧∃ v bs,e=.returned (.tuple #[v,.bool (eX rs xs).2])∧aV w' [v] (eX rs xs).1 bs:=by
 have c1:=SY rs xs v1 v2 b1 b2 w h J;have HR:=η h;have HX:=η J;clear h J
 cases hok:fD rs xs with
 | false=>
  have I:Hid (eX rs xs=([],false)):=η (by unfold eX; rw [hok]; rfl);rw [hok] at c1;clear hok
  go_enter Tryz.func14,Tryz.ntmps14
  go_wp2_with fail
  refine c1.mono ?_;rintro e w1 ⟨rfl,y⟩;have a1:Below w.heap.size w (w1.alloc (.cells #[] 33)):=y.alloc y.size _;clear c1;go_wp2;go_ret2;exact ⟨a1,.slice (some ⟨w1.heap.size,0,none⟩) 0 0,[],(by rw [I.out]; try rfl),by rw [I.out]; exact qN⟩
 | true=>
  have U:=η (qA hok);rw [hok] at c1
  go_enter Tryz.func14,Tryz.ntmps14
  go_wp2_with fail
  refine c1.mono ?_;rintro e w1 ⟨rfl,y⟩;have q:=run_any rs xs v1 v2 b1 b2 w1 (bG.below HR.out y) (au.below HX.out y) U.out.gB (by have:=U.out.n; omega) U.out.m U.out.ok U.out.rules U.out.args;clear c1
  go_wp2_with fail
  refine q.mono ?_;rintro e w2 ⟨a0,e0,e1,a2,rfl,J⟩;have B2:=η (y.trans (a0.mono y.size));obtain ⟨A3,p3,bx,ox,cx,ba,bb,rfl,rfl,rfl,h3,-,-⟩:=nC J;have H3:=η (au.below h3 ((Below.refl w2.heap.size w2).alloc ν (.cells #[.slice A3 (gu rs xs).1.1.length p3,.slice (some ⟨bx,ox,none⟩) (gu rs xs).1.2.length cx] 96)));have B3:=η (B2.out.alloc B2.out.size (.cells #[.slice A3 (gu rs xs).1.1.length p3,.slice (some ⟨bx,ox,none⟩) (gu rs xs).1.2.length cx] 96));clear q J h3 y a0
  cases hr:(gu rs xs).2 with
  | false=>
   have I:Hid (eX rs xs=([],false)):=η (by unfold eX; rw [hok,hr]; rfl);have B4:=η (B3.out.alloc B3.out.size (.cells #[] 33));clear hok hr;go_wp2;go_ret2;exact ⟨B4.out,.slice (some ⟨w2.heap.size+1,0,none⟩) 0 0,[],(by rw [I.out]; try rfl),by rw [I.out]; exact qN⟩
  | true=>
   have I:Hid (eX rs xs=((gu rs xs).1.1,true)):=η (by unfold eX; rw [hok,hr]; rfl);clear hok hr;go_wp2;go_ret2;exact ⟨B3.out,.slice A3 (gu rs xs).1.1.length p3,ba,(by rw [I.out]; try rfl),by rw [I.out]; exact H3.out⟩
end
section
open Go.RowKit Go.ChangeMaps Go.MapKept D
def D.yw (fs:List A):List (Value × Value):=fs.zipIdx.map fun p=>(.string (dK p.1),.int .i64 (p.2:Nat))
theorem D.FD (fs:List A) (a:A):yw (fs ++ [a])=yw fs ++ [(.string (dK a),.int .i64 (fs.length:Nat))]:=by
 unfold yw;rw [List.zipIdx_append,List.map_append];simp
theorem D.wZ {fs:List A} {p:Value × Value}:p ∈ yw fs ↔ ∃ i,∃ h:i < fs.length,p=(.string (dK fs[i]),.int .i64 (i:Nat)):=by
 unfold yw;rw [List.mem_map];constructor
 ·rintro ⟨q,hq,rfl⟩
  obtain ⟨a,i⟩:=q;obtain ⟨h1,y,I⟩:=List.mem_zipIdx hq;simp at y I;exact ⟨i,y,by rw [← I]⟩
 ·rintro ⟨i,h,rfl⟩
  exact ⟨(fs[i],i),by rw [List.mem_zipIdx_iff_getElem?]; simp [h],rfl⟩
theorem D.Tc {w:World} {Ad:Option Addr} {n c:Nat} {xs:List Nat} {b:List Nat} (h:jf w [.slice Ad n c] xs b):∀ x ∈ b,(Value.slice Ad n c).ownBlock=some x:=by
 obtain ⟨a0,cap,he,_,_,h0,h1⟩:=h;simp only [List.cons.injEq,Value.slice.injEq,and_true] at he;obtain ⟨rfl,rfl,rfl⟩:=he;intro x y;by_cases I:xs = []
 ·rw [h0 I] at y; simp at y
 ·obtain ⟨b0,o,rfl,F,G,rfl,h3⟩:=h1 I
  rcases List.mem_cons.1 y with rfl | y
  ·rfl
  ·obtain ⟨k,U,J⟩:=List.mem_flatMap.1 y
   have U:=List.mem_range.1 U;obtain ⟨_,_,h5⟩:=h3 k _ (Ψ U);rw [h5.2] at J;simp at J
theorem D.kE.view {B sb mu mp:Nat} {Af:Option Addr} {nf cf:Nat} {Lf:List Value} {fs:List A} {bf:List Nat} {Ar:Option Addr} {nr cr:Nat} {Lr:List Value} {rn:List Nat} {ou:List Nat} {w:World} (h:kE B sb mu mp Af nf cf Lf fs bf Ar nr cr Lr rn (yw fs) (idxs fs) ou w) (B0:Nat) (J:B0≤sb∧B0≤mu∧B0≤mp∧B0≤B):
  ∃ bs,jL sb fs rn bs w∧∀ x ∈ bs,B0≤x∨x ∈ bf:=by
 obtain ⟨l1,l2,l3,_⟩:=h.lo;have hs:=h.oD;have U:=h.ef;have a0:=h.er;subst U a0;obtain ⟨b2,hF,a1⟩:=h.cF.slice;obtain ⟨b3,hR,a2⟩:=h.cR.slice;obtain ⟨rows,c,g1,g2,g3⟩:=h.un.ex;refine ⟨sb :: mu :: mp :: (b2 ++ b3 ++ ou),⟨⟨Af,cf,Ar,cr,mu,mp,b2,b3,(rows.map JJ).map (fun p=>(p.1,p.2.1)),yw fs,h.blk,hF,hR,g1.Wv,h.pl,fun k=>?_,fun s=>?_,fun p hp=>?_,by simp,by simp,fun b I=>by simp [I],fun b I=>by simp [I]⟩,by simp,fun x y=>?_⟩,fun x y=>?_⟩
 ·by_cases hex:∃ r ∈ rows,r.k=k
  ·obtain ⟨r,hr,rfl⟩:=hex
   obtain ⟨b,I,_⟩:=(g2.coll r hr).slice;obtain ⟨Ad,cap,hv,_⟩:=ak I;refine .inl ⟨r.v,b,List.mem_map.2 ⟨JJ r,List.mem_map.2 ⟨r,hr,rfl⟩,rfl⟩,I,fun x y=>?_⟩;rw [hv] at I;have:=g2.own r hr x (by rw [hv]; exact Tc I x y);simp [this]
  ·refine .inr ⟨fun p hp e=>?_,g3 k fun r hr e=>hex ⟨r,hr,e⟩⟩
   obtain ⟨q,hq,rfl⟩:=List.mem_map.1 hp;obtain ⟨r,hr,rfl⟩:=List.mem_map.1 hq;exact hex ⟨r,hr,Gs e⟩
 ·constructor
  ·rintro ⟨i,hi⟩
   obtain ⟨j,hj,e⟩:=wZ.1 hi;simp at e;exact List.mem_map.2 ⟨fs[j],δ hj,e.1.symm⟩
  ·intro hm
   obtain ⟨f,hf,rfl⟩:=List.mem_map.1 hm;obtain ⟨j,hj,rfl⟩:=List.getElem_of_mem hf;exact ⟨j,wZ.2 ⟨j,hj,rfl⟩⟩
 ·obtain ⟨i,hi,rfl⟩:=wZ.1 hp
  exact ⟨i,rfl⟩
 ·simp only [List.mem_cons,μ] at y
  rcases y with rfl | rfl | rfl | (y | y) | y
  ·omega
  ·omega
  ·omega
  ·exact au.lt hF x y
  ·exact dB.lt hR x y
  ·exact (h.ous x y).2
 ·simp only [List.mem_cons,μ] at y
  rcases y with rfl | rfl | rfl | (y | y) | y
  ·exact .inl J.1
  ·exact .inl J.2.1
  ·exact .inl J.2.2.1
  ·exact (a1 x y).imp (fun h=>by omega) id
  ·rcases a2 x y with h | h
   ·exact .inl (by omega)
   ·simp at h
  ·have:=(h.ous x y).1; exact .inl (by omega)
theorem D.Kr {fs:List A} (hf:∀ f ∈ fs,aT f) {a:A} (ha:aT a) (y:a ∉ fs):∀ p ∈ yw fs,p.1 ≠ .string (dK a):=fun p J e=>by
 obtain ⟨i,I,rfl⟩:=wZ.1 J;simp at e;exact y (yg (hf _ (δ I)).ok ha.ok e ▸ δ I)
end
section
open Go.RowKit D
section
variable {vars:List ByteArray} {fs ps ns:List A} {head:A} {wt:Nat→Bool} {K:Nat→Prop} {sk:Nat} {T:Bool→World→List A→Prop} {go:List A→Bool} {b:Bd} {left m:Nat} {L:List Nat} {told ts:List A} {hd more s:Bool} {k:Nat} {w wr w5 w6:World}
def D.rQ (vars:List ByteArray) (fs ps ns:List A) (head:A) (K:Nat→Prop) (sk:Nat) (T:Bool→World→List A→Prop) (go:List A→Bool) (b:Bd) (left:Nat) (told:List A) (w:World) (e:Ending) (w':World):Prop:=
 ∃ held more,e=.returned (.tuple #[.bool held,.bool more])∧iH vars fs ps ns head K sk T go b left told held more w w'
theorem D.iH.ret (P:iH vars fs ps ns head K sk T go b left told hd more w w5):rQ vars fs ps ns head K sk T go b left told w (.returned (.tuple #[.bool hd,.bool more])) w5:=⟨hd,more,rfl,P⟩
theorem D.iH.bd {b':Bd} {y I:Bool} {J:Nat} {U:List A} (P:iH vars fs ps ns head K sk T go b' J U y I w w6):gG vars b' sk 18 w6:=by
 obtain ⟨_,_,h,_⟩:=P;exact h
structure D.fM (vars:List ByteArray) (fs ps ns:List A) (head:A) (K:Nat→Prop) (sk:Nat) (T:Bool→World→List A→Prop) (go:List A→Bool) (b:Bd) (left m:Nat) (L:List Nat) (told ts:List A) (hd more:Bool) (k:Nat) (w wr:World):Prop where
 kept:bK K sk w wr
 at_:gG vars b sk 18 wr
 st:T more wr (told ++ ts)
 sound:∀ t ∈ ts,∃ σ,tq fs ps ns b left σ∧fP σ head=t
 whole:more=true→∀ i,i < k→∀ (h:i < L.length) (j:Nat) (hj:j < fs.length),L[i]=j→∀ (hm:m < ps.length) σ,tq fs ps ns b left σ→fP σ ps[m]=fs[j]→fP σ head ∈ ts
 held:hd=true→ts ≠ []
 nogo:more=false→go (told ++ ts)=false
theorem D.fM.skip (I:fM vars fs ps ns head K sk T go b left m L told ts hd true k w wr) (hk:k < L.length) (hj:L[k] < fs.length) (hm:m < ps.length) (y:(aF ps[m] fs[L[k]] b).2=false)
  (k6:bK K sk wr w6) (J:gG vars b sk 18 w6) (U:T true w6 (told ++ ts)):fM vars fs ps ns head K sk T go b left m L told ts hd true (k+1) w w6:=by
 refine ⟨I.kept.trans k6,J,U,I.sound,fun _ i hi h j a0 e a1 σ hσ he=>?_,I.held,fun h=>by cases h⟩
 rcases Nat.lt_succ_iff_lt_or_eq.1 hi with h1 | rfl
 ·exact I.whole rfl i h1 h j a0 e a1 σ hσ he
 ·subst e
  rw [(mD hσ.1 he).1] at y;cases y
theorem D.fM.took (I:fM vars fs ps ns head K sk T go b left m L told ts hd true k w wr) (hl:left < 16) (a1:ps.length≤4) (hk:k < L.length) (hj:L[k] < fs.length) (a2:Gr fs[L[k]]) (hm:m < ps.length) (a0:left.testBit m=true) (a3:(aF ps[m] fs[L[k]] b).2=true)
  {w4:World} {J y:Bool} (P:iH vars fs ps ns head K sk T go (aF ps[m] fs[L[k]] b).1 (left - 2 ^ m) (told ++ ts) J y w4 w5) (k4:bK K sk wr w4) (k6:bK K sk w5 w6) (a4:gG vars b sk 18 w6) (hT:∀ U,T y w5 U→T y w6 U):
  ∃ a5,fM vars fs ps ns head K sk T go b left m L told a5 (hd || J) y (k+1) w w6:=by
 obtain ⟨U,p1,p2,p3,p4,p5,p6,p7⟩:=P;refine ⟨ts ++ U,I.kept.trans (k4.trans (p1.trans k6)),a4,by rw [← List.append_assoc]; exact hT _ p3,fun t ht=>?_,fun a6 i hi h j a7 e a8 σ hσ he=>?_,fun hh=>?_,fun h=>by rw [← List.append_assoc]; exact p7 h⟩
 ·rcases μ.1 ht with ht | ht
  ·exact I.sound t ht
  ·obtain ⟨σ,h1,h2⟩:=p4 t ht
   exact ⟨σ,h1.back hl a1 hm a0 (δ _) a2 a3,h2⟩
 ·rcases Nat.lt_succ_iff_lt_or_eq.1 hi with h1 | rfl
  ·exact Ξ _ (I.whole rfl i h1 h j a7 e a8 σ hσ he)
  ·subst e
   exact Ω _ (p5 a6 σ (hσ.step hl a1 hm a0 he).2)
 ·intro e
  rcases List.append_eq_nil_iff.1 e with ⟨e1,e2⟩
  rcases Bool.or_eq_true_iff.1 hh with h | h
  ·exact I.held h e1
  ·exact p6 h e2
theorem D.fM.drewN {U c7:Addr} (I:fM vars fs ps ns head K sk T go b left m L told ts hd more k w wr) (hT:uT vars head sk K U c7 T go) (hs:sk < w.heap.size) {n:Nat}:fM vars fs ps ns head K sk T go b left m L told ts hd more k w (wr.drewN n):=by
 have J:Below wr.heap.size wr (wr.drewN n):=Fh ϑ n;have y:=κ hs I.kept.size;exact ⟨I.kept.trans (bK.of_below y J),I.at_.keep rfl,hT.keep _ _ _ I.st (cO.of_below J y),I.sound,I.whole,I.held,I.nogo⟩
theorem D.fM.off (I:fM vars fs ps ns head K sk T go b left m L told ts hd false k w wr):iH vars fs ps ns head K sk T go b left told hd false w wr:=
 ⟨ts,I.kept,I.at_,I.st,I.sound,fun h=>absurd h (by decide),I.held,I.nogo⟩
theorem D.fM.brk (hc:vY b head.args) (I:fM vars fs ps ns head K sk T go b left m L told ts true true k w wr):iH vars fs ps ns head K sk T go b left told true true w wr:=
 ⟨ts,I.kept,I.at_,I.st,I.sound,fun _ σ hσ=>SS hc I.sound (I.held rfl) σ hσ,I.held,I.nogo⟩
theorem D.fM.fin (E:qy vars fs ps ns head wt) {y:WK} {A9:Option Addr} {c9:Nat} {bs bx:List Nat} {w3:World} (C:uO fs ps b bs left m A9 c9 y bx w3) (hL:L=idxs fs y) (I:fM vars fs ps ns head K sk T go b left m L told ts hd true k w wr) (hk:L.length≤k):
  iH vars fs ps ns head K sk T go b left told hd true w wr:=by
 refine ⟨ts,I.kept,I.at_,I.st,I.sound,fun _ σ hσ=>?_,I.held,I.nogo⟩;have hin:=hσ.2.1 m C.lt C.bit;obtain ⟨j,U,e⟩:=List.getElem_of_mem hin;have a0:=(mD (f:=fs[j]) hσ.1 e.symm).1;have J:=C.key_ (ps[m]'C.lt) (Ψ _) fs[j] (E.fok _ (δ U)).gr a0;have a1:j ∈ L:=by rw [hL]; exact Dl.2 ⟨U,J⟩
 obtain ⟨i,hi,e2⟩:=List.getElem_of_mem a1;exact I.whole rfl i (by omega) hi j U e2 C.lt σ hσ e.symm
end
def D.kF (fs:List A) (r:Ru) (t:A):Prop:=∃ σ:Wo,t=fP σ r.head∧(∀ p ∈ r.body,p.no=false→fP σ p.atom ∈ fs)∧∀ p ∈ r.body,p.no=true→fP σ p.atom ∉ fs
structure D.jR (r:Ru):Prop where
 hok:aX r.head=true
 pok:∀ p ∈ r.body,aX p.atom=true
 few:r.body.length≤4
 tight:Rn r
theorem D.oQ {body:List Pt} {a:A}:a ∈ fQ body ↔ ∃ p ∈ body,p.no=false∧p.atom=a:=by
 unfold fQ;rw [List.mem_map];constructor
 ·rintro ⟨p,I,rfl⟩
  obtain ⟨h1,y⟩:=List.mem_filter.1 I;exact ⟨p,h1,by simpa using y,rfl⟩
 ·rintro ⟨p,h1,y,rfl⟩
  exact ⟨p,List.mem_filter.2 ⟨h1,by simpa using y⟩,rfl⟩
theorem D.oU {body:List Pt} {a:A}:a ∈ dH body ↔ ∃ p ∈ body,p.no=true∧p.atom=a:=by
 unfold dH;rw [List.mem_map];constructor
 ·rintro ⟨p,I,rfl⟩
  obtain ⟨h1,y⟩:=List.mem_filter.1 I;exact ⟨p,h1,y,rfl⟩
 ·rintro ⟨p,h1,y,rfl⟩
  exact ⟨p,List.mem_filter.2 ⟨h1,y⟩,rfl⟩
theorem D.FH:∀ (l:List Pt),(∀ p ∈ l,aX p.atom=true)→iq (fun p:Pt=>p.atom.args.length) l≤l.length * 3
 | [],_=>ε
 | p :: l,h=>by
  have h1:=FH l fun q hq=>h q (Δ _ hq)
  have I:=mF (h p Γ);have y:iq (fun p:Pt=>p.atom.args.length) (p :: l)=p.atom.args.length+iq (fun p:Pt=>p.atom.args.length) l:=by simp [iq]
  rw [y,List.length_cons,Nat.add_mul];omega
theorem D.NU {r:Ru} (R:jR r):jo (aC r.body):=by
 refine ⟨?_,uw (kW r.body mX)⟩;have h1:=mY r.body [];have y:=FH r.body R.pok;have I:=R.few;show (dQ r.body []).length≤12;simp at h1;omega
theorem D.NV {ps:List Pt}:∀ p ∈ ps,∀ t ∈ p.atom.args,t.var=true→t.name ∈ aC ps:=fun p I t J y=>(fV ps [] _).2 (.inr ⟨p,I,t,J,y,rfl⟩)
theorem D.GY {fs:List A} {r:Ru} (R:jR r) (J:∀ f ∈ fs,aT f) (U:fs.length≤1000000) {wt:Nat→Bool} (a0:∀ i,i < 12→wt i=J7 (aC r.body) r.head (dH r.body) i):
  qy (aC r.body) fs (fQ r.body) (dH r.body) r.head wt:=by
 have hf:=R.few;have l1:(fQ r.body).length≤r.body.length:=by unfold fQ; rw [List.length_map]; exact List.length_filter_le _ _
 have l2:(dH r.body).length≤r.body.length:=by unfold dH; rw [List.length_map]; exact List.length_filter_le _ _
 refine ⟨NU R,by omega,U,by omega,J,fun p y=>?_,fun n I=>?_,R.hok,fun p y=>?_,fun n I=>?_,fun t ht a1=>?_,a0,fun b hb=>?_⟩
 ·obtain ⟨q,h1,_,rfl⟩:=oQ.1 y; exact R.pok q h1
 ·obtain ⟨q,h1,_,rfl⟩:=oU.1 I; exact R.pok q h1
 ·obtain ⟨q,h1,_,rfl⟩:=oQ.1 y; exact NV q h1
 ·obtain ⟨q,h1,_,rfl⟩:=oU.1 I; exact NV q h1
 ·obtain ⟨p,y,_,hv⟩:=R.tight t.name (.inl ⟨t,ht,a1,rfl⟩)
  exact (fV r.body [] _).2 (.inr ⟨p,y,hv⟩)
 ·obtain ⟨h1,h2⟩:=EQ R.tight (b:=b) fun p y I=>hb _ (oQ.2 ⟨p,y,I,rfl⟩)
  exact ⟨h1,fun n I=>by obtain ⟨q,h3,_,rfl⟩:=oU.1 I; exact h2 q h3⟩
theorem D.Td {fs:List A} {r:Ru} (R:jR r) {ts:List A} (h1:∀ t ∈ ts,∃ σ,tq fs (fQ r.body) (dH r.body) [] (2 ^ (fQ r.body).length - 1) σ∧fP σ r.head=t)
  (h2:∀ σ,tq fs (fQ r.body) (dH r.body) [] (2 ^ (fQ r.body).length - 1) σ→fP σ r.head ∈ ts) (t:A):t ∈ ts ↔ kF fs r t:=by
 constructor
 ·intro h
  obtain ⟨σ,⟨_,U,g3⟩,rfl⟩:=h1 t h;refine ⟨σ,rfl,fun p y I=>?_,fun p y I=>g3 _ (oU.2 ⟨p,y,I,rfl⟩)⟩;obtain ⟨j,J,e⟩:=List.getElem_of_mem (oQ.2 ⟨p,y,I,rfl⟩);rw [← e];exact U j J (by rw [Nat.testBit_two_pow_sub_one]; simpa using J)
 ·rintro ⟨σ,rfl,g1,U⟩
  refine h2 σ ⟨fun n v h=>by simp [eY] at h,fun j J _=>?_,fun n I=>?_⟩
  ·obtain ⟨p,y,I,e⟩:=oQ.1 (δ J)
   rw [← e]; exact g1 p y I
  ·obtain ⟨p,y,a0,rfl⟩:=oU.1 I
   exact U p y a0
theorem D.PD {r:Ru} (R:jR r) {b:Bd} (y:rM b) (hc:vY b r.head.args):aT (bU r.head b):=sS R.hok y hc
end
section
open Go.RowKit D
attribute [local go_sem ↓] Go.wp_at_zero Go.wp_at_succ
def D.GZ (xs:List A) (J:List Nat) (y:World) (k:Nat) (w:World):Prop:=
 ∃ U cf Lf Ar cr Lr ou I,kE (y.heap.size+3) (y.heap.size+2) y.heap.size (y.heap.size+1) U (xs.take k).length cf Lf (xs.take k) I Ar (List.replicate k 0).length cr Lr (List.replicate k 0) (yw (xs.take k)) (idxs (xs.take k)) ou w∧Below y.heap.size y w∧∀ x ∈ I,x ∈ J
theorem Kt (xs:List A) (v:Value) (bx:List Nat) (w:World) (h:aV w [v] xs bx) (hf:∀ f ∈ xs,aT f) (hn:xs.Pairwise fun a b=>a ≠ b) (hl:xs.length≤1000000):
  Calls Tryz.prog 58 #[v] w fun e w'=>e=.returned (.pointer (some ⟨w.heap.size+2,0,none⟩))∧GZ xs bx w xs.length w':=by
 obtain ⟨Ad,cap,rfl,a4,hm⟩:=ak h;have aE:=aA (τ a4 hm);have hA:Below w.heap.size w (((w.alloc (.map #[] 0)).alloc (.map #[] 0)).alloc (.cells #[.slice none 0 0,.slice none 0 0,.map (some w.heap.size),.map (some (w.heap.size+1))] 127)):=((ζ).alloc (by simp) _).alloc (by simp; omega) _;have a5:oK Gq w.heap.size [] 0 (((w.alloc (.map #[] 0)).alloc (.map #[] 0)).alloc (.cells #[.slice none 0 0,.slice none 0 0,.map (some w.heap.size),.map (some (w.heap.size+1))] 127)):=(oK.made (S:=Gq) w).same (by rw [Below.heap_alloc _ _ _ (by simp; omega),Below.heap_alloc _ _ _ (by simp)])
 have a6:l9 isStr (w.heap.size+1) [] (((w.alloc (.map #[] 0)).alloc (.map #[] 0)).alloc (.cells #[.slice none 0 0,.slice none 0 0,.map (some w.heap.size),.map (some (w.heap.size+1))] 127)):=by
  have h0:=l9.made (S:=isStr) (w.alloc (.map #[] 0));have e:(w.alloc (.map #[] 0)).heap.size=w.heap.size+1:=by simp
  rw [e] at h0;exact h0.same (by rw [Below.heap_alloc _ _ _ (by simp)])
 have a7:(((w.alloc (.map #[] 0)).alloc (.map #[] 0)).alloc (.cells #[.slice none 0 0,.slice none 0 0,.map (some w.heap.size),.map (some (w.heap.size+1))] 127)).heap[w.heap.size+2]? = some (.cells #[.slice none 0 0,.slice none 0 0,.map (some w.heap.size),.map (some (w.heap.size+1))] 127 (0,0)):=by
  have:=ω ((w.alloc (.map #[] 0)).alloc (.map #[] 0)) (.cells #[.slice none 0 0,.slice none 0 0,.map (some w.heap.size),.map (some (w.heap.size+1))] 127);simpa using this
 have a8:Hid (GZ xs bx w 0 (((w.alloc (.map #[] 0)).alloc (.map #[] 0)).alloc (.cells #[.slice none 0 0,.slice none 0 0,.map (some w.heap.size),.map (some (w.heap.size+1))] 127))):=η
  ⟨none,0,[],none,0,[],[],[],⟨a7,rfl,rfl,aW.nil _,aW.nil _,⟨⟨[],0,a5,⟨fun r hr=>by simp at hr,fun r hr=>by simp at hr,fun r hr=>by simp at hr⟩,fun k _=>by simp [idxs]⟩⟩,a6,fun x y=>by simp [Value.ownBlock] at y,fun x y=>by simp at y,fun x y=>by simp at y,fun x y=>by simp at y,by omega,fun x y=>by simp at y,by simp⟩,hA,fun x y=>by simp at y⟩
 have HH:=η h;have HF:=η (ι hf hn);clear h hf hn a4 hm hA a5 a6 a7;have aL:=@run_makeMap Tryz.prog
 go_enter Tryz.func58,Tryz.ntmps58
 go_wp2;generalize (((w.alloc (.map #[] 0)).alloc (.map #[] 0)).alloc (.cells #[.slice none 0 0,.slice none 0 0,.map (some w.heap.size),.map (some (w.heap.size+1))] 127))=W at *
 go_loopw [12] (fun i wr=>∃ (k:Nat),k≤xs.length∧i=.int .i64 k∧GZ xs bx w k wr) (fun i _=>xs.length - (intOf i).toNat)
 case atStart=>exact ⟨0,ε,rfl,a8.out⟩
 case round=>
  obtain ⟨k,hk,rfl,hI⟩:=hrel;clear a8;by_cases J:k < xs.length
  ·obtain ⟨Af,cf,Lf,Ar,cr,Lr,ou,bf,S,I,a9⟩:=hI
   obtain ⟨bq,oq,Ae,ce,ba,rfl,_,f0,f1,a2,a0⟩:=dY (au.below HH.out I) J;have aM:(0:Int)≤(k:Int):=by omega
   have ae:(k:Int) < (xs.length:Int):=by omega
   have U:Below wr.heap.size wr (wr.alloc (.cells #[.string xs[k].name,.slice Ae xs[k].args.length ce] 33)):=ζ;have a3:=HF.out.1 _ (δ J)
   have aa:xs[k] ∉ xs.take k:=fun hm=>by
    obtain ⟨i,hi,e⟩:=List.getElem_of_mem hm;simp at hi e;exact List.pairwise_iff_getElem.1 HF.out.2 i k (by omega) J (by omega) e
   have a1:=put_any (w.heap.size+3) (w.heap.size+2) w.heap.size (w.heap.size+1) Af cf Lf (xs.take k) bf Ar cr Lr (List.replicate k 0) (yw (xs.take k)) ou xs[k] (.slice Ae xs[k].args.length ce) ba ba 0 (wr.alloc (.cells #[.string xs[k].name,.slice Ae xs[k].args.length ce] 33)) (S.later U) (aj.below a2 U) (fun x y=>y)
    (fun x y=>(S.later U).low (by have:=au.lt HH.out x (a0 x y); omega)) (fun x y=>κ (aj.lt a2 x y) U.size) a3.ok (Kr (fun f hf=>HF.out.1 f (List.mem_of_mem_take hf)) a3 aa) (by simp; omega) (by simp; omega) w.heap.size (by omega)
   have HB:=η (I.trans (U.mono I.size));have ab:=η J;have af:Hid (∀ x ∈ bf ++ ba,x ∈ bx):=η fun x y=>(μ.1 y).elim (a9 x) (a0 x)
   have ag:Hid (xs.take (k+1)=xs.take k ++ [xs[k]]):=η (ρ J);clear S I a9 a2 a0 U a3 aa hk;generalize xs[k]=a at *;obtain ⟨an,am⟩:=a;dsimp only at *;clear J
   go_wp2_with fail
   refine a1.mono ?_;rintro e w2 ⟨rfl,ac,ao,ap,aq,ar,av,aw,az,S',-⟩
   have aD:Hid (GZ xs bx w (k+1) w2):=η ⟨ao,ap,aq,ar,av,aw,az,_,by
    rw [ag.out,List.replicate_succ',FD,χ,χ]; exact S',HB.out.trans ac,af.out⟩
   clear a1 ac S';go_wp2;go_roundw
   case rel=>exact ⟨k+1,ab.out,by go_num,aD.out⟩
   case measure=>have:=ab.out; simp [intOf]; omega
  ·have he:k=xs.length:=by omega
   have ae:¬ (k:Int) < (xs.length:Int):=by omega
   have HD:Hid (GZ xs bx w xs.length wr):=η (he ▸ hI);clear hI;go_wp2;go_ret;exact ⟨rfl,HD.out⟩
theorem D.GZ.all {xs:List A} {bx:List Nat} {y w:World} (h:GZ xs bx y xs.length w):
  Below y.heap.size y w∧∃ U cf Lf Ar cr Lr ou J,kE (y.heap.size+3) (y.heap.size+2) y.heap.size (y.heap.size+1) U xs.length cf Lf xs J Ar (List.replicate xs.length 0).length cr Lr (List.replicate xs.length 0) (yw xs) (idxs xs) ou w∧∀ x ∈ J,x ∈ bx:=by
 obtain ⟨U,cf,Lf,Ar,cr,Lr,ou,J,S,I,a0⟩:=h;rw [List.take_length] at S;exact ⟨I,U,cf,Lf,Ar,cr,Lr,ou,J,S,a0⟩
end
section
open Go.RowKit D
theorem D.Tf {rs:List Ru} (h:dJ rs=0) {r:Ru} (hr:r ∈ rs):jR r:=by
 unfold dJ at h
 split at h
 ·cases h
 ·rename_i h1
  split at h
  ·cases h
  ·split at h
   ·cases h
   ·split at h
    ·cases h
    ·rename_i h4
     have y:=List.all_eq_true.1 (by simpa using h1) r hr;have g4:=List.all_eq_true.1 (by simpa using h4) r hr;unfold dM nO at y;simp only [ο,decide_eq_true_eq,List.all_eq_true] at y;obtain ⟨t1,U⟩:=(EC _ _).1 g4;refine ⟨y.2,y.1.2,y.1.1,fun x I=>?_⟩
     have hb:iw r.body x=true:=by
      rcases I with I | ⟨p,J,I⟩
      ·exact t1 x I
      ·unfold qP at U
       have:=List.all_eq_true.1 (by simpa using U) p J;exact (pI _ _).1 this x I
     have:=(mZ _ _).1 hb;rw [fV] at this
     rcases this with h | ⟨p,J,hv⟩
     ·simp at h
     ·obtain ⟨q1,q2⟩:=List.mem_filter.1 J
      exact ⟨p,q1,by simpa using q2,hv⟩
theorem D.yx {a:A} (h:dS a=true):aT a:=by
 unfold dS jT at h;simp only [ο,Bool.not_eq_true',List.any_eq_false] at h;exact ⟨h.1,fun t y=>by simpa using h.2 t y⟩
theorem D.sU {a:A} (h:aT a):dS a=true:=by
 unfold dS jT;simp only [ο,Bool.not_eq_true',List.any_eq_false];exact ⟨h.ok,fun t y=>by simpa using h.gr t y⟩
theorem D.U3 {xs:List A} (U:∀ x ∈ xs,aT x) (r:Ru) (t:A):WE xs r t ↔ kF xs r t:=by
 have J:∀ x ∈ xs,Gr x:=fun x h=>(U x h).gr
 constructor
 ·rintro ⟨σ,rfl,h⟩
  refine ⟨σ,rfl,fun p y I=>?_,fun p y I hm=>?_⟩
  ·exact (qc J (pY _ _)).1 (by rw [h p y,I]; rfl)
  ·have:=(qc J (pY σ p.atom)).2 hm
   rw [h p y,I] at this;cases this
 ·rintro ⟨σ,rfl,h1,h2⟩
  refine ⟨σ,rfl,fun p y=>?_⟩;cases I:p.no
  ·exact (qc J (pY _ _)).2 (h1 p y I)
  ·cases hb:hasB xs (fP σ p.atom)
   ·rfl
   ·exact absurd ((qc J (pY _ _)).1 hb) (h2 p y I)
theorem D.Ti {xs:List A} (U:∀ x ∈ xs,aT x) {r:Ru} (R:jR r) {t:A} (h:kF xs r t):aT t:=by
 obtain ⟨σ,rfl,h1,_⟩:=h;refine ⟨?_,pY _ _⟩;have h0:=R.hok;unfold aX at h0 ⊢;unfold fP;simp only [ο,decide_eq_true_eq,List.all_eq_true,List.length_map] at h0 ⊢;refine ⟨h0.1,fun u hu=>?_⟩;obtain ⟨v,hv,rfl⟩:=List.mem_map.1 hu;have g:=h0.2 v hv;unfold iI at *;unfold vX;cases hvv:v.var
 ·simpa [hvv] using g
 ·obtain ⟨p,hp,hn,y,hy,I,J⟩:=R.tight v.name (.inl ⟨v,hv,hvv,rfl⟩)
  have hm:=(U _ (h1 p hp hn)).names (vX σ y) (List.mem_map.2 ⟨y,hy,rfl⟩);unfold vX at hm;rw [I,J] at hm;simpa using hm.2
theorem D.xg {xs:List A} (J:∀ x ∈ xs,aT x) {a:A} (ha:aT a) (x:A):x ∈ dP xs a ↔ x ∈ xs∨x=a:=by
 constructor
 ·exact sD
 ·intro h
  have U:∀ y ∈ dP xs a,Gr y:=fun y hy=>(sD hy).elim (fun h=>(J y h).gr) fun h=>h ▸ ha.gr
  have I:Gr x:=h.elim (fun h=>(J x h).gr) fun h=>h ▸ ha.gr
  refine (qc U I).1 ?_;rw [Qy]
  rcases h with h | rfl
  ·rw [lq h]; rfl
  ·rw [su]; simp
theorem D.Ku {β:Type} (f:β→A):∀ (l:List β) (out:List A),gB out=true→(∀ x ∈ out,aT x)→(∀ b ∈ l,aT (f b))→
  gB (l.foldl (fun o b=>dP o (f b)) out)=true∧(∀ x ∈ l.foldl (fun o b=>dP o (f b)) out,aT x)∧∀ x,x ∈ l.foldl (fun o b=>dP o (f b)) out ↔ x ∈ out∨∃ b ∈ l,f b=x
 | [],out,h1,h2,_=>⟨h1,h2,fun x=>by simp⟩
 | b :: l,out,h1,h2,h3=>by
  have y:=h3 b Γ;obtain ⟨I,J,U⟩:=Ku f l (dP out (f b)) (vw h1 _) (fun x hx=>((xg h2 y x).1 hx).elim (h2 x) fun e=>e ▸ y) fun c hc=>h3 c (Δ _ hc)
  refine ⟨I,J,fun x=>?_⟩;rw [List.foldl_cons,U,xg h2 y];constructor
  ·rintro ((h | h) | ⟨c,hc,h⟩)
   ·exact .inl h
   ·exact .inr ⟨b,Γ,h.symm⟩
   ·exact .inr ⟨c,Δ _ hc,h⟩
  ·rintro (h | ⟨c,hc,h⟩)
   ·exact .inl (.inl h)
   ·rcases List.mem_cons.1 hc with rfl | hc
    ·exact .inl (.inr h.symm)
    ·exact .inr ⟨c,hc,h⟩
theorem D.PE {xs:List A} {level:Nat} (hx:∀ x ∈ xs,aT x) {rl:List (Ru × Nat)} (hr:∀ p ∈ rl,jR p.1):gB (iF xs level rl)=true∧(∀ t ∈ iF xs level rl,aT t)∧∀ t,t ∈ iF xs level rl ↔ ∃ p ∈ rl,p.2=level∧kF xs p.1 t:=by
 have hg:∀ x ∈ xs,Gr x:=fun x h=>(hx x h).gr
 have main:∀ (l:List (Ru × Nat)) (out:List A),(∀ p ∈ l,jR p.1)→gB out=true→(∀ x ∈ out,aT x)→
   gB (l.foldl (fun out p=>if p.2=level then Ec xs p.1 out else out) out)=true∧(∀ t ∈ l.foldl (fun out p=>if p.2=level then Ec xs p.1 out else out) out,aT t)∧
   ∀ t,t ∈ l.foldl (fun out p=>if p.2=level then Ec xs p.1 out else out) out ↔ t ∈ out∨∃ p ∈ l,p.2=level∧kF xs p.1 t:=by
  intro l
  induction l with
  | nil=>intro out _ h1 h2; exact ⟨h1,h2,fun t=>by simp⟩
  | cons q l ih=>
   intro out hl h1 h2;have R:=hl q Γ;have hq:=fun p y=>hl p (Δ _ y)
   by_cases hv:q.2=level
   ·have J:∀ t,(∃ b ∈ allB xs q.1.body,bU q.1.head b=t) ↔ kF xs q.1 t:=fun t=>(Ro hg R.tight t).trans (U3 hx q.1 t)
    obtain ⟨g1,g2,g3⟩:=Ku (fun b=>bU q.1.head b) (allB xs q.1.body) out h1 h2 fun b hb=>Ti hx R ((J _).1 ⟨b,hb,rfl⟩)
    rw [List.foldl_cons,if_pos hv];obtain ⟨k1,k2,U⟩:=ih (Ec xs q.1 out) hq g1 g2;refine ⟨k1,k2,fun t=>?_⟩;rw [U]
    have y:t ∈ Ec xs q.1 out ↔ t ∈ out∨kF xs q.1 t:=by
     unfold Ec;rw [g3,J]
    rw [y];constructor
    ·rintro ((h | h) | ⟨p,y,h⟩)
     ·exact .inl h
     ·exact .inr ⟨q,Γ,hv,h⟩
     ·exact .inr ⟨p,Δ _ y,h⟩
    ·rintro (h | ⟨p,y,I,h⟩)
     ·exact .inl (.inl h)
     ·rcases List.mem_cons.1 y with rfl | y
      ·exact .inl (.inr h)
      ·exact .inr ⟨p,y,I,h⟩
   ·rw [List.foldl_cons,if_neg hv]
    obtain ⟨k1,k2,U⟩:=ih out hq h1 h2;refine ⟨k1,k2,fun t=>?_⟩;rw [U];constructor
    ·rintro (h | ⟨p,y,h⟩)
     ·exact .inl h
     ·exact .inr ⟨p,Δ _ y,h⟩
    ·rintro (h | ⟨p,y,I,h⟩)
     ·exact .inl h
     ·rcases List.mem_cons.1 y with rfl | y
      ·exact absurd I hv
      ·exact .inr ⟨p,y,I,h⟩
 obtain ⟨k1,k2,U⟩:=main rl [] hr rfl (fun x h=>by simp at h)
 exact ⟨k1,k2,fun t=>by
  have:=U t;simp only [List.not_mem_nil,false_or] at this
  exact this⟩
theorem D.jZ {xs:List A} (h:gB xs=true):xs.Nodup:=by
 refine List.pairwise_iff_getElem.2 fun i j J I y e=>?_
 have:=FY h I y;rw [e,su] at this;omega
theorem D.Kv {xs ys:List A} (h1:gB xs=true) (I:gB ys=true) (J:∀ x ∈ xs,aT x) (f2:∀ x ∈ ys,aT x) (h:∀ t,t ∈ xs ↔ t ∈ ys):xs=ys:=by
 refine Ny h1 I (fun x y=>sU (J x y)) (fun x y=>sU (f2 x y)) fun a=>?_
 rw [Bool.eq_iff_iff,oG,oG];constructor
 ·rintro ⟨x,y,hc⟩; exact ⟨x,(h x).1 y,hc⟩
 ·rintro ⟨x,y,hc⟩; exact ⟨x,(h x).2 y,hc⟩
end
end Go.Proofs.YtkjinanbccloeaaGreatDoor
