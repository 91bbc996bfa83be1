/- Of the proof of FnDelta: EvalS, StoQ, RunP3, FolQ, StoI, FolR, jJ. -/
import Derived.Test.YtkjinanbccloeaaGreatDoorA36
import Derived.Test.YtkjinanbccloeaaGreatDoorA37
import Derived.Test.YtkjinanbccloeaaGreatDoorA38
set_option linter.unusedVariables false
set_option maxHeartbeats 4000000
set_option maxRecDepth 100000
namespace Go.Proofs.YtkjinanbccloeaaGreatDoor
section
open Go.RowKit D
attribute [local go_sem ↓] Go.wp_at_zero Go.wp_at_succ
def D.fA (rs:List Ru) (xs:List A):Bool:=decide (fH rs=0) && (okB xs && decide (xs.length≤40)) && rG (aI rs) xs
def D.bI (rs:List Ru) (xs:List A):List A × Bool:=if fA rs xs then (if (iF rs xs).2 then ((iF rs xs).1.1,true) else ([],false)) else ([],false)
theorem MN (rs:List Ru) (xs:List A) (v1 v2:Value) (b1 b2:List Nat) (w:World) (h:eu w [v1] rs b1) (h2:aB w [v2] xs b2):
  Calls Tryz.prog 55 #[v1,v2] w fun e w'=>e=.returned (.bool (fA rs xs))∧Below w.heap.size w w':=by
 have c1:=uo rs v1 b1 w h;have C2:=η fun w' (hb:Below w.heap.size w w')=>LD xs v2 b2 40 w' (ak.below h2 hb) (by omega)
 have C3:=η fun w' (hb:Below w.heap.size w w') (hn:(aI rs).length≤1000000)=>Rh rs xs v1 v2 b1 b2 w' (aQ.below h hb) (ak.below h2 hb) hn
 have a1:(fH rs:Int)≤5:=by have:=Kz rs; omega
 clear h h2;by_cases J:fH rs=0
 ·have hn:(aI rs).length≤1000000:=by have h1:=(qA rs).1 J; have:=(lV h1.ok).2; have:=h1.few; omega
  have C4:=η fun w' hb=>C3.out w' hb hn
  have HZ:Hid (fA rs xs=((okB xs && decide (xs.length≤40)) && rG (aI rs) xs)):=η (by unfold fA; rw [decide_eq_true J,Bool.true_and]);rw [J] at c1;clear J hn C3 a1;generalize rG (aI rs) xs=z at *
  go_enter Tryz.func55,Tryz.ntmps55
  go_wp2_with fail
  refine c1.mono ?_;rintro e w1 ⟨rfl,y⟩;clear c1
  go_wp2_with fail
  refine (C2.out _ y).mono ?_;rintro e w2 ⟨rfl,U⟩;have B2:=y.trans (U.mono y.size);clear C2 y U;cases hx:(okB xs && decide (xs.length≤40))
  ·have I:Hid (fA rs xs=false):=η (by rw [HZ.out,hx]; rfl)
   clear HZ hx C4;go_wp2;go_ret;exact ⟨aG I.out.symm,B2⟩
  ·have I:Hid (fA rs xs=z):=η (by rw [HZ.out,hx]; rfl)
   clear HZ hx
   go_wp2_with fail
   refine (C4.out _ B2).mono ?_;rintro e w3 ⟨rfl,a0⟩;have B3:=B2.trans (a0.mono B2.size);clear C4 a0;go_wp2;go_ret;exact ⟨aG I.out.symm,B3⟩
 ·have I:Hid (fA rs xs=false):=η (by unfold fA; rw [decide_eq_false J]; rfl)
  have a2:¬ (fH rs:Int)=0:=by omega
  clear J C2 C3
  go_enter Tryz.func55,Tryz.ntmps55
  go_wp2_with fail
  refine c1.mono ?_;rintro e w1 ⟨rfl,y⟩;go_wp2;go_ret;exact ⟨aG I.out.symm,y⟩
theorem D.Eu {a:A} (h:aZ a=true):a.args.length≤3:=by
 unfold aZ at h;simp only [ο,decide_eq_true_eq] at h;exact h.1.2
theorem D.Vd {r:Ru} (h:fC r=true):r.body.length≤4∧r.head.args.length≤1000∧∀ p ∈ r.body,p.atom.args.length≤1000:=by
 unfold fC pG at h;simp only [ο,decide_eq_true_eq,List.all_eq_true] at h;exact ⟨h.1.1,τ (Eu h.2) (by omega),fun p y=>τ (Eu (h.1.2 p y)) (by omega)⟩
structure D.MO (rs:List Ru) (xs:List A):Prop where
 fU:fU xs=true
 n:xs.length≤40
 m:rs.length≤8
 ok:rs.all fC=true
 facts:∀ a ∈ xs,dN a=true
 fine:Fine rs
 fit:rG (aI rs) xs=true
theorem D.mV {rs:List Ru} {xs:List A} (h:fA rs xs=true):MO rs xs:=by
 unfold fA okB at h;simp only [ο,decide_eq_true_eq,List.all_eq_true] at h;have hf:=(qA rs).1 h.1.1;exact ⟨h.1.2.1.2,h.1.2.2,hf.few,hf.ok,h.1.2.1.1,hf,h.2⟩
theorem D.MO.rules {rs:List Ru} {xs:List A} (h:MO rs xs):∀ r ∈ rs,r.body.length≤4∧r.head.args.length≤1000∧∀ p ∈ r.body,p.atom.args.length≤1000:=fun r hr=>Vd (List.all_eq_true.1 h.ok r hr)
theorem D.MO.args {rs:List Ru} {xs:List A} (h:MO rs xs):∀ a ∈ xs,a.args.length≤1000:=fun a ha=>τ (FH (h.facts a ha)) (by omega)
theorem eval_any (rs:List Ru) (xs:List A) (v1 v2:Value) (b1 b2:List Nat) (w:World) (h:eu w [v1] rs b1) (J:aB w [v2] xs b2):
  Calls Tryz.prog 14 #[v1,v2] w fun e w'=>Below w.heap.size w w'∧∃ v bs,e=.returned (.tuple #[v,.bool (bI rs xs).2])∧aB w' [v] (bI rs xs).1 bs:=by
 have c1:=MN rs xs v1 v2 b1 b2 w h J;have HR:=η h;have HX:=η J;clear h J
 cases hok:fA rs xs with
 | false=>
  have I:Hid (bI rs xs=([],false)):=η (by unfold bI; rw [hok]; rfl);rw [hok] at c1;clear hok
  go_enter Tryz.func14,Tryz.ntmps14
  go_wp2_with fail
  refine c1.mono ?_;rintro e w1 ⟨rfl,y⟩;have a1:Below w.heap.size w (w1.alloc (.cells #[] 33)):=y.alloc y.size _;clear c1;go_wp2;go_ret2;exact ⟨a1,.slice (some ⟨w1.heap.size,0,none⟩) 0 0,[],(by rw [I.out]; try rfl),by rw [I.out]; exact sV⟩
 | true=>
  have U:=η (mV hok);rw [hok] at c1
  go_enter Tryz.func14,Tryz.ntmps14
  go_wp2_with fail
  refine c1.mono ?_;rintro e w1 ⟨rfl,y⟩;have q:=run_any rs xs v1 v2 b1 b2 w1 (aQ.below HR.out y) (ak.below HX.out y) U.out.fU (by have:=U.out.n; omega) U.out.m U.out.ok U.out.rules U.out.args;clear c1
  go_wp2_with fail
  refine q.mono ?_;rintro e w2 ⟨a0,e0,e1,a2,rfl,J⟩;have B2:=η (y.trans (a0.mono y.size));obtain ⟨A3,p3,bx,ox,cx,ba,bb,rfl,rfl,rfl,h3,-,-⟩:=oU J;have H3:=η (ak.below h3 ((Below.refl w2.heap.size w2).alloc ν (.cells #[.slice A3 (iF rs xs).1.1.length p3,.slice (some ⟨bx,ox,none⟩) (iF rs xs).1.2.length cx] 96)));have B3:=η (B2.out.alloc B2.out.size (.cells #[.slice A3 (iF rs xs).1.1.length p3,.slice (some ⟨bx,ox,none⟩) (iF rs xs).1.2.length cx] 96));clear q J h3 y a0
  cases hr:(iF rs xs).2 with
  | false=>
   have I:Hid (bI rs xs=([],false)):=η (by unfold bI; rw [hok,hr]; rfl);have B4:=η (B3.out.alloc B3.out.size (.cells #[] 33));clear hok hr;go_wp2;go_ret2;exact ⟨B4.out,.slice (some ⟨w2.heap.size+1,0,none⟩) 0 0,[],(by rw [I.out]; try rfl),by rw [I.out]; exact sV⟩
  | true=>
   have I:Hid (bI rs xs=((iF rs xs).1.1,true)):=η (by unfold bI; rw [hok,hr]; rfl);clear hok hr;go_wp2;go_ret2;exact ⟨B3.out,.slice A3 (iF rs xs).1.1.length p3,ba,(by rw [I.out]; try rfl),by rw [I.out]; exact H3.out⟩
end
section
open Go.RowKit Go.ChangeMaps Go.MapKept D
def D.zQ (fs:List A):List (Value × Value):=fs.zipIdx.map fun p=>(.string (eH p.1),.int .i64 (p.2:Nat))
theorem D.GN (fs:List A) (a:A):zQ (fs ++ [a])=zQ fs ++ [(.string (eH a),.int .i64 (fs.length:Nat))]:=by
 unfold zQ;rw [List.zipIdx_append,List.map_append];simp
theorem D.yT {fs:List A} {p:Value × Value}:p ∈ zQ fs ↔ ∃ i,∃ h:i < fs.length,p=(.string (eH fs[i]),.int .i64 (i:Nat)):=by
 unfold zQ;rw [List.mem_map];constructor
 ·rintro ⟨q,hq,rfl⟩
  obtain ⟨a,i⟩:=q;obtain ⟨h1,y,I⟩:=List.mem_zipIdx hq;simp at y I;exact ⟨i,y,by rw [← I]⟩
 ·rintro ⟨i,h,rfl⟩
  exact ⟨(fs[i],i),by rw [List.mem_zipIdx_iff_getElem?]; simp [h],rfl⟩
theorem D.Ve {w:World} {Ad:Option Addr} {n c:Nat} {xs:List Nat} {b:List Nat} (h:jM w [.slice Ad n c] xs b):∀ x ∈ b,(Value.slice Ad n c).ownBlock=some x:=by
 obtain ⟨a0,cap,he,_,_,h0,h1⟩:=h;simp only [List.cons.injEq,Value.slice.injEq,and_true] at he;obtain ⟨rfl,rfl,rfl⟩:=he;intro x y;by_cases I:xs = []
 ·rw [h0 I] at y; simp at y
 ·obtain ⟨b0,o,rfl,F,G,rfl,h3⟩:=h1 I
  rcases List.mem_cons.1 y with rfl | y
  ·rfl
  ·obtain ⟨k,U,J⟩:=List.mem_flatMap.1 y
   have U:=List.mem_range.1 U;obtain ⟨_,_,h5⟩:=h3 k _ (Ψ U);rw [h5.2] at J;simp at J
theorem D.lJ.view {B sb mu mp:Nat} {Af:Option Addr} {nf cf:Nat} {Lf:List Value} {fs:List A} {bf:List Nat} {Ar:Option Addr} {nr cr:Nat} {Lr:List Value} {rn:List Nat} {ou:List Nat} {w:World} (h:lJ B sb mu mp Af nf cf Lf fs bf Ar nr cr Lr rn (zQ fs) (idxs fs) ou w) (B0:Nat) (I:B0≤sb∧B0≤mu∧B0≤mp∧B0≤B):
  ∃ bs,kR sb fs rn bs w∧∀ x ∈ bs,B0≤x∨x ∈ bf:=by
 obtain ⟨l1,l2,l3,_⟩:=h.lo;have hs:=h.qi;have J:=h.ef;have U:=h.er;subst J U;obtain ⟨b2,hF,a0⟩:=h.cF.slice;obtain ⟨b3,hR,a1⟩:=h.cR.slice;obtain ⟨rows,c,g1,g2,g3⟩:=h.un.ex;refine ⟨sb :: mu :: mp :: (b2 ++ b3 ++ ou),⟨⟨Af,cf,Ar,cr,mu,mp,b2,b3,(rows.map LU).map (fun p=>(p.1,p.2.1)),zQ fs,h.blk,hF,hR,g1.Yo,h.pl,fun k=>?_,fun s=>?_,fun p hp=>?_,by simp,by simp,fun b hb=>by simp [hb],fun b hb=>by simp [hb]⟩,by simp,fun x y=>?_⟩,fun x y=>?_⟩
 ·by_cases hex:∃ r ∈ rows,r.k=k
  ·obtain ⟨r,hr,rfl⟩:=hex
   obtain ⟨b,hb,_⟩:=(g2.coll r hr).slice;obtain ⟨Ad,cap,hv,_⟩:=aj hb;refine .inl ⟨r.v,b,List.mem_map.2 ⟨LU r,List.mem_map.2 ⟨r,hr,rfl⟩,rfl⟩,hb,fun x y=>?_⟩;rw [hv] at hb;have:=g2.own r hr x (by rw [hv]; exact Ve hb x y);simp [this]
  ·refine .inr ⟨fun p hp e=>?_,g3 k fun r hr e=>hex ⟨r,hr,e⟩⟩
   obtain ⟨q,hq,rfl⟩:=List.mem_map.1 hp;obtain ⟨r,hr,rfl⟩:=List.mem_map.1 hq;exact hex ⟨r,hr,Ih e⟩
 ·constructor
  ·rintro ⟨i,hi⟩
   obtain ⟨j,hj,e⟩:=yT.1 hi;simp at e;exact List.mem_map.2 ⟨fs[j],δ hj,e.1.symm⟩
  ·intro hm
   obtain ⟨f,hf,rfl⟩:=List.mem_map.1 hm;obtain ⟨j,hj,rfl⟩:=List.getElem_of_mem hf;exact ⟨j,yT.2 ⟨j,hj,rfl⟩⟩
 ·obtain ⟨i,hi,rfl⟩:=yT.1 hp
  exact ⟨i,rfl⟩
 ·simp only [List.mem_cons,μ] at y
  rcases y with rfl | rfl | rfl | (y | y) | y
  ·omega
  ·omega
  ·omega
  ·exact ak.lt hF x y
  ·exact dM.lt hR x y
  ·exact (h.ous x y).2
 ·simp only [List.mem_cons,μ] at y
  rcases y with rfl | rfl | rfl | (y | y) | y
  ·exact .inl I.1
  ·exact .inl I.2.1
  ·exact .inl I.2.2.1
  ·exact (a0 x y).imp (fun h=>by omega) id
  ·rcases a1 x y with h | h
   ·exact .inl (by omega)
   ·simp at h
  ·have:=(h.ous x y).1; exact .inl (by omega)
theorem D.MP {fs:List A} (hf:∀ f ∈ fs,aW f) {a:A} (ha:aW a) (y:a ∉ fs):∀ p ∈ zQ fs,p.1 ≠ .string (eH a):=fun p J e=>by
 obtain ⟨i,I,rfl⟩:=yT.1 J;simp at e;exact y (zK (hf _ (δ I)).ok ha.ok e ▸ δ I)
end
section
open Go.RowKit D
section
variable {vars:List ByteArray} {fs ps ns:List A} {head:A} {wt:Nat→Bool} {K:Nat→Prop} {sk:Nat} {T:Bool→World→List A→Prop} {go:List A→Bool} {b:Bd} {left m:Nat} {L:List Nat} {told ts:List A} {hd more s:Bool} {k:Nat} {w wr w5 w6:World}
def D.uI (vars:List ByteArray) (fs ps ns:List A) (head:A) (K:Nat→Prop) (sk:Nat) (T:Bool→World→List A→Prop) (go:List A→Bool) (b:Bd) (left:Nat) (told:List A) (w:World) (e:Ending) (w':World):Prop:=
 ∃ held more,e=.returned (.tuple #[.bool held,.bool more])∧jk vars fs ps ns head K sk T go b left told held more w w'
theorem D.jk.ret (P:jk vars fs ps ns head K sk T go b left told hd more w w5):uI vars fs ps ns head K sk T go b left told w (.returned (.tuple #[.bool hd,.bool more])) w5:=⟨hd,more,rfl,P⟩
theorem D.jk.bd {b':Bd} {y I:Bool} {J:Nat} {U:List A} (P:jk vars fs ps ns head K sk T go b' J U y I w w6):iJ vars b' sk 18 w6:=by
 obtain ⟨_,_,h,_⟩:=P;exact h
structure D.gW (vars:List ByteArray) (fs ps ns:List A) (head:A) (K:Nat→Prop) (sk:Nat) (T:Bool→World→List A→Prop) (go:List A→Bool) (b:Bd) (left m:Nat) (L:List Nat) (told ts:List A) (hd more:Bool) (k:Nat) (w wr:World):Prop where
 kept:bV K sk w wr
 at_:iJ vars b sk 18 wr
 st:T more wr (told ++ ts)
 sound:∀ t ∈ ts,∃ σ,vJ fs ps ns b left σ∧ig σ head=t
 whole:more=true→∀ i,i < k→∀ (h:i < L.length) (j:Nat) (hj:j < fs.length),L[i]=j→∀ (hm:m < ps.length) σ,vJ fs ps ns b left σ→ig σ ps[m]=fs[j]→ig σ head ∈ ts
 held:hd=true→ts ≠ []
 nogo:more=false→go (told ++ ts)=false
theorem D.gW.skip (I:gW vars fs ps ns head K sk T go b left m L told ts hd true k w wr) (hk:k < L.length) (hj:L[k] < fs.length) (hm:m < ps.length) (y:(aF ps[m] fs[L[k]] b).2=false)
  (k6:bV K sk wr w6) (J:iJ vars b sk 18 w6) (U:T true w6 (told ++ ts)):gW vars fs ps ns head K sk T go b left m L told ts hd true (k+1) w w6:=by
 refine ⟨I.kept.trans k6,J,U,I.sound,fun _ i hi h j a0 e a1 σ hσ he=>?_,I.held,fun h=>by cases h⟩
 rcases Nat.lt_succ_iff_lt_or_eq.1 hi with h1 | rfl
 ·exact I.whole rfl i h1 h j a0 e a1 σ hσ he
 ·subst e
  rw [(nU hσ.1 he).1] at y;cases y
theorem D.gW.took (I:gW vars fs ps ns head K sk T go b left m L told ts hd true k w wr) (hl:left < 16) (a1:ps.length≤4) (hk:k < L.length) (hj:L[k] < fs.length) (a2:Gr fs[L[k]]) (hm:m < ps.length) (a0:left.testBit m=true) (a3:(aF ps[m] fs[L[k]] b).2=true)
  {w4:World} {J y:Bool} (P:jk vars fs ps ns head K sk T go (aF ps[m] fs[L[k]] b).1 (left - 2 ^ m) (told ++ ts) J y w4 w5) (k4:bV K sk wr w4) (k6:bV K sk w5 w6) (a4:iJ vars b sk 18 w6) (hT:∀ U,T y w5 U→T y w6 U):
  ∃ a5,gW vars fs ps ns head K sk T go b left m L told a5 (hd || J) y (k+1) w w6:=by
 obtain ⟨U,p1,p2,p3,p4,p5,p6,p7⟩:=P;refine ⟨ts ++ U,I.kept.trans (k4.trans (p1.trans k6)),a4,by rw [← List.append_assoc]; exact hT _ p3,fun t ht=>?_,fun a6 i hi h j a7 e a8 σ hσ he=>?_,fun hh=>?_,fun h=>by rw [← List.append_assoc]; exact p7 h⟩
 ·rcases μ.1 ht with ht | ht
  ·exact I.sound t ht
  ·obtain ⟨σ,h1,h2⟩:=p4 t ht
   exact ⟨σ,h1.back hl a1 hm a0 (δ _) a2 a3,h2⟩
 ·rcases Nat.lt_succ_iff_lt_or_eq.1 hi with h1 | rfl
  ·exact Ξ _ (I.whole rfl i h1 h j a7 e a8 σ hσ he)
  ·subst e
   exact Ω _ (p5 a6 σ (hσ.step hl a1 hm a0 he).2)
 ·intro e
  rcases List.append_eq_nil_iff.1 e with ⟨e1,e2⟩
  rcases Bool.or_eq_true_iff.1 hh with h | h
  ·exact I.held h e1
  ·exact p6 h e2
theorem D.gW.drewN {U c7:Addr} (I:gW vars fs ps ns head K sk T go b left m L told ts hd more k w wr) (hT:xk vars head sk K U c7 T go) (hs:sk < w.heap.size) {n:Nat}:gW vars fs ps ns head K sk T go b left m L told ts hd more k w (wr.drewN n):=by
 have J:Below wr.heap.size wr (wr.drewN n):=Gx ϑ n;have y:=κ hs I.kept.size;exact ⟨I.kept.trans (bV.of_below y J),I.at_.keep rfl,hT.keep _ _ _ I.st (dG.of_below J y),I.sound,I.whole,I.held,I.nogo⟩
theorem D.gW.off (I:gW vars fs ps ns head K sk T go b left m L told ts hd false k w wr):jk vars fs ps ns head K sk T go b left told hd false w wr:=
 ⟨ts,I.kept,I.at_,I.st,I.sound,fun h=>absurd h (by decide),I.held,I.nogo⟩
theorem D.gW.brk (hc:yh b head.args) (I:gW vars fs ps ns head K sk T go b left m L told ts true true k w wr):jk vars fs ps ns head K sk T go b left told true true w wr:=
 ⟨ts,I.kept,I.at_,I.st,I.sound,fun _ σ hσ=>U9 hc I.sound (I.held rfl) σ hσ,I.held,I.nogo⟩
theorem D.gW.fin (E:rV vars fs ps ns head wt) {key:WK} {A9:Option Addr} {c9:Nat} {bs bx:List Nat} {w3:World} (C:wZ fs ps b bs left m A9 c9 key bx w3) (hL:L=idxs fs key) (I:gW vars fs ps ns head K sk T go b left m L told ts hd true k w wr) (hk:L.length≤k):
  jk vars fs ps ns head K sk T go b left told hd true w wr:=by
 refine ⟨ts,I.kept,I.at_,I.st,I.sound,fun _ σ hσ=>?_,I.held,I.nogo⟩;have hin:=hσ.2.1 m C.lt C.bit;obtain ⟨j,J,e⟩:=List.getElem_of_mem hin;have U:=(nU (f:=fs[j]) hσ.1 e.symm).1;have y:=C.key_ (ps[m]'C.lt) (Ψ _) fs[j] (E.fok _ (δ J)).gr U;have a0:j ∈ L:=by rw [hL]; exact Ed.2 ⟨J,y⟩
 obtain ⟨i,hi,e2⟩:=List.getElem_of_mem a0;exact I.whole rfl i (by omega) hi j J e2 C.lt σ hσ e.symm
end
def D.lK (fs:List A) (r:Ru) (t:A):Prop:=∃ σ:Wo,t=ig σ r.head∧(∀ p ∈ r.body,p.no=false→ig σ p.atom ∈ fs)∧∀ p ∈ r.body,p.no=true→ig σ p.atom ∉ fs
structure D.kZ (r:Ru):Prop where
 hok:aZ r.head=true
 pok:∀ p ∈ r.body,aZ p.atom=true
 few:r.body.length≤4
 tight:Uo r
theorem D.qI {body:List Pt} {a:A}:a ∈ iq body ↔ ∃ p ∈ body,p.no=false∧p.atom=a:=by
 unfold iq;rw [List.mem_map];constructor
 ·rintro ⟨p,I,rfl⟩
  obtain ⟨h1,y⟩:=List.mem_filter.1 I;exact ⟨p,h1,by simpa using y,rfl⟩
 ·rintro ⟨p,h1,y,rfl⟩
  exact ⟨p,List.mem_filter.2 ⟨h1,by simpa using y⟩,rfl⟩
theorem D.qJ {body:List Pt} {a:A}:a ∈ dZ body ↔ ∃ p ∈ body,p.no=true∧p.atom=a:=by
 unfold dZ;rw [List.mem_map];constructor
 ·rintro ⟨p,I,rfl⟩
  obtain ⟨h1,y⟩:=List.mem_filter.1 I;exact ⟨p,h1,y,rfl⟩
 ·rintro ⟨p,h1,y,rfl⟩
  exact ⟨p,List.mem_filter.2 ⟨h1,y⟩,rfl⟩
theorem D.GR:∀ (l:List Pt),(∀ p ∈ l,aZ p.atom=true)→iZ (fun p:Pt=>p.atom.args.length) l≤l.length * 3
 | [],_=>ε
 | p :: l,h=>by
  have h1:=GR l fun q hq=>h q (Δ _ hq)
  have I:=nZ (h p Γ);have y:iZ (fun p:Pt=>p.atom.args.length) (p :: l)=p.atom.args.length+iZ (fun p:Pt=>p.atom.args.length) l:=by simp [iZ]
  rw [y,List.length_cons,Nat.add_mul];omega
theorem D.PX {r:Ru} (R:kZ r):jU (aC r.body):=by
 refine ⟨?_,wK (mO r.body tq)⟩;have h1:=oJ r.body [];have y:=GR r.body R.pok;have I:=R.few;show (fD r.body []).length≤12;simp at h1;omega
theorem D.PY {ps:List Pt}:∀ p ∈ ps,∀ t ∈ p.atom.args,t.var=true→t.name ∈ aC ps:=fun p I t J y=>(iw ps [] _).2 (.inr ⟨p,I,t,J,y,rfl⟩)
theorem D.II {fs:List A} {r:Ru} (R:kZ r) (I:∀ f ∈ fs,aW f) (J:fs.length≤1000000) {wt:Nat→Bool} (U:∀ i,i < 12→wt i=MI (aC r.body) r.head (dZ r.body) i):
  rV (aC r.body) fs (iq r.body) (dZ r.body) r.head wt:=by
 have hf:=R.few;have l1:(iq r.body).length≤r.body.length:=by unfold iq; rw [List.length_map]; exact List.length_filter_le _ _
 have l2:(dZ r.body).length≤r.body.length:=by unfold dZ; rw [List.length_map]; exact List.length_filter_le _ _
 refine ⟨PX R,by omega,J,by omega,I,fun p y=>?_,fun n hn=>?_,R.hok,fun p y=>?_,fun n hn=>?_,fun t ht a0=>?_,U,fun b hb=>?_⟩
 ·obtain ⟨q,h1,_,rfl⟩:=qI.1 y; exact R.pok q h1
 ·obtain ⟨q,h1,_,rfl⟩:=qJ.1 hn; exact R.pok q h1
 ·obtain ⟨q,h1,_,rfl⟩:=qI.1 y; exact PY q h1
 ·obtain ⟨q,h1,_,rfl⟩:=qJ.1 hn; exact PY q h1
 ·obtain ⟨p,y,_,hv⟩:=R.tight t.name (.inl ⟨t,ht,a0,rfl⟩)
  exact (iw r.body [] _).2 (.inr ⟨p,y,hv⟩)
 ·obtain ⟨h1,h2⟩:=Gg R.tight (b:=b) fun p y hn=>hb _ (qI.2 ⟨p,y,hn,rfl⟩)
  exact ⟨h1,fun n hn=>by obtain ⟨q,h3,_,rfl⟩:=qJ.1 hn; exact h2 q h3⟩
theorem D.Vf {fs:List A} {r:Ru} (R:kZ r) {ts:List A} (h1:∀ t ∈ ts,∃ σ,vJ fs (iq r.body) (dZ r.body) [] (2 ^ (iq r.body).length - 1) σ∧ig σ r.head=t)
  (h2:∀ σ,vJ fs (iq r.body) (dZ r.body) [] (2 ^ (iq r.body).length - 1) σ→ig σ r.head ∈ ts) (t:A):t ∈ ts ↔ lK fs r t:=by
 constructor
 ·intro h
  obtain ⟨σ,⟨_,J,g3⟩,rfl⟩:=h1 t h;refine ⟨σ,rfl,fun p y hn=>?_,fun p y hn=>g3 _ (qJ.2 ⟨p,y,hn,rfl⟩)⟩;obtain ⟨j,I,e⟩:=List.getElem_of_mem (qI.2 ⟨p,y,hn,rfl⟩);rw [← e];exact J j I (by rw [Nat.testBit_two_pow_sub_one]; simpa using I)
 ·rintro ⟨σ,rfl,g1,J⟩
  refine h2 σ ⟨fun n v h=>by simp [gq] at h,fun j I _=>?_,fun n hn=>?_⟩
  ·obtain ⟨p,y,hn,e⟩:=qI.1 (δ I)
   rw [← e]; exact g1 p y hn
  ·obtain ⟨p,y,U,rfl⟩:=qJ.1 hn
   exact J p y U
theorem D.RJ {r:Ru} (R:kZ r) {b:Bd} (y:uF b) (hc:yh b r.head.args):aW (cu r.head b):=vw R.hok y hc
end
section
open Go.RowKit D
attribute [local go_sem ↓] Go.wp_at_zero Go.wp_at_succ
def D.IJ (xs:List A) (J:List Nat) (y:World) (k:Nat) (w:World):Prop:=
 ∃ U cf Lf Ar cr Lr ou I,lJ (y.heap.size+3) (y.heap.size+2) y.heap.size (y.heap.size+1) U (xs.take k).length cf Lf (xs.take k) I Ar (List.replicate k 0).length cr Lr (List.replicate k 0) (zQ (xs.take k)) (idxs (xs.take k)) ou w∧Below y.heap.size y w∧∀ x ∈ I,x ∈ J
theorem MQ (xs:List A) (v:Value) (bx:List Nat) (w:World) (h:aB w [v] xs bx) (hf:∀ f ∈ xs,aW f) (hn:xs.Pairwise fun a b=>a ≠ b) (hl:xs.length≤1000000):
  Calls Tryz.prog 58 #[v] w fun e w'=>e=.returned (.pointer (some ⟨w.heap.size+2,0,none⟩))∧IJ xs bx w xs.length w':=by
 obtain ⟨Ad,cap,rfl,a4,hm⟩:=aj h;have aL:=aA (τ a4 hm);have hA:Below w.heap.size w (((w.alloc (.map #[] 0)).alloc (.map #[] 0)).alloc (.cells #[.slice none 0 0,.slice none 0 0,.map (some w.heap.size),.map (some (w.heap.size+1))] 127)):=((ζ).alloc (by simp) _).alloc (by simp; omega) _;have a5:qy Ig w.heap.size [] 0 (((w.alloc (.map #[] 0)).alloc (.map #[] 0)).alloc (.cells #[.slice none 0 0,.slice none 0 0,.map (some w.heap.size),.map (some (w.heap.size+1))] 127)):=(qy.made (S:=Ig) w).same (by rw [Below.heap_alloc _ _ _ (by simp; omega),Below.heap_alloc _ _ _ (by simp)])
 have a6:nS isStr (w.heap.size+1) [] (((w.alloc (.map #[] 0)).alloc (.map #[] 0)).alloc (.cells #[.slice none 0 0,.slice none 0 0,.map (some w.heap.size),.map (some (w.heap.size+1))] 127)):=by
  have h0:=nS.made (S:=isStr) (w.alloc (.map #[] 0));have e:(w.alloc (.map #[] 0)).heap.size=w.heap.size+1:=by simp
  rw [e] at h0;exact h0.same (by rw [Below.heap_alloc _ _ _ (by simp)])
 have a7:(((w.alloc (.map #[] 0)).alloc (.map #[] 0)).alloc (.cells #[.slice none 0 0,.slice none 0 0,.map (some w.heap.size),.map (some (w.heap.size+1))] 127)).heap[w.heap.size+2]? = some (.cells #[.slice none 0 0,.slice none 0 0,.map (some w.heap.size),.map (some (w.heap.size+1))] 127 (0,0)):=by
  have:=ω ((w.alloc (.map #[] 0)).alloc (.map #[] 0)) (.cells #[.slice none 0 0,.slice none 0 0,.map (some w.heap.size),.map (some (w.heap.size+1))] 127);simpa using this
 have a8:Hid (IJ xs bx w 0 (((w.alloc (.map #[] 0)).alloc (.map #[] 0)).alloc (.cells #[.slice none 0 0,.slice none 0 0,.map (some w.heap.size),.map (some (w.heap.size+1))] 127))):=η
  ⟨none,0,[],none,0,[],[],[],⟨a7,rfl,rfl,aY.nil _,aY.nil _,⟨⟨[],0,a5,⟨fun r hr=>by simp at hr,fun r hr=>by simp at hr,fun r hr=>by simp at hr⟩,fun k _=>by simp [idxs]⟩⟩,a6,fun x y=>by simp [Value.ownBlock] at y,fun x y=>by simp at y,fun x y=>by simp at y,fun x y=>by simp at y,by omega,fun x y=>by simp at y,by simp⟩,hA,fun x y=>by simp at y⟩
 have HH:=η h;have HF:=η (ι hf hn);clear h hf hn a4 hm hA a5 a6 a7;have aM:=@run_makeMap Tryz.prog
 go_enter Tryz.func58,Tryz.ntmps58
 go_wp2;generalize (((w.alloc (.map #[] 0)).alloc (.map #[] 0)).alloc (.cells #[.slice none 0 0,.slice none 0 0,.map (some w.heap.size),.map (some (w.heap.size+1))] 127))=W at *
 go_loopw [12] (fun i wr=>∃ (k:Nat),k≤xs.length∧i=.int .i64 k∧IJ xs bx w k wr) (fun i _=>xs.length - (intOf i).toNat)
 case atStart=>exact ⟨0,ε,rfl,a8.out⟩
 case round=>
  obtain ⟨k,hk,rfl,hI⟩:=hrel;clear a8;by_cases J:k < xs.length
  ·obtain ⟨Af,cf,Lf,Ar,cr,Lr,ou,bf,S,I,a9⟩:=hI
   obtain ⟨bq,oq,Ae,ce,ba,rfl,_,f0,f1,a2,a0⟩:=dU (ak.below HH.out I) J;have aR:(0:Int)≤(k:Int):=by omega
   have ae:(k:Int) < (xs.length:Int):=by omega
   have U:Below wr.heap.size wr (wr.alloc (.cells #[.string xs[k].name,.slice Ae xs[k].args.length ce] 33)):=ζ;have a3:=HF.out.1 _ (δ J)
   have aa:xs[k] ∉ xs.take k:=fun hm=>by
    obtain ⟨i,hi,e⟩:=List.getElem_of_mem hm;simp at hi e;exact List.pairwise_iff_getElem.1 HF.out.2 i k (by omega) J (by omega) e
   have a1:=put_any (w.heap.size+3) (w.heap.size+2) w.heap.size (w.heap.size+1) Af cf Lf (xs.take k) bf Ar cr Lr (List.replicate k 0) (zQ (xs.take k)) ou xs[k] (.slice Ae xs[k].args.length ce) ba ba 0 (wr.alloc (.cells #[.string xs[k].name,.slice Ae xs[k].args.length ce] 33)) (S.later U) (au.below a2 U) (fun x y=>y)
    (fun x y=>(S.later U).low (by have:=ak.lt HH.out x (a0 x y); omega)) (fun x y=>κ (au.lt a2 x y) U.size) a3.ok (MP (fun f hf=>HF.out.1 f (List.mem_of_mem_take hf)) a3 aa) (by simp; omega) (by simp; omega) w.heap.size (by omega)
   have HB:=η (I.trans (U.mono I.size));have ab:=η J;have af:Hid (∀ x ∈ bf ++ ba,x ∈ bx):=η fun x y=>(μ.1 y).elim (a9 x) (a0 x)
   have ag:Hid (xs.take (k+1)=xs.take k ++ [xs[k]]):=η (ρ J);clear S I a9 a2 a0 U a3 aa hk;generalize xs[k]=a at *;obtain ⟨an,am⟩:=a;dsimp only at *;clear J
   go_wp2_with fail
   refine a1.mono ?_;rintro e w2 ⟨rfl,ac,ao,aq,ar,av,aw,az,aD,S',-⟩
   have aE:Hid (IJ xs bx w (k+1) w2):=η ⟨ao,aq,ar,av,aw,az,aD,_,by
    rw [ag.out,List.replicate_succ',GN,χ,χ]; exact S',HB.out.trans ac,af.out⟩
   clear a1 ac S';go_wp2;go_roundw
   case rel=>exact ⟨k+1,ab.out,by go_num,aE.out⟩
   case measure=>have:=ab.out; simp [intOf]; omega
  ·have he:k=xs.length:=by omega
   have ae:¬ (k:Int) < (xs.length:Int):=by omega
   have HD:Hid (IJ xs bx w xs.length wr):=η (he ▸ hI);clear hI;go_wp2;go_ret;exact ⟨rfl,HD.out⟩
theorem D.IJ.all {xs:List A} {bx:List Nat} {y w:World} (h:IJ xs bx y xs.length w):
  Below y.heap.size y w∧∃ U cf Lf Ar cr Lr ou J,lJ (y.heap.size+3) (y.heap.size+2) y.heap.size (y.heap.size+1) U xs.length cf Lf xs J Ar (List.replicate xs.length 0).length cr Lr (List.replicate xs.length 0) (zQ xs) (idxs xs) ou w∧∀ x ∈ J,x ∈ bx:=by
 obtain ⟨U,cf,Lf,Ar,cr,Lr,ou,J,S,I,a0⟩:=h;rw [List.take_length] at S;exact ⟨I,U,cf,Lf,Ar,cr,Lr,ou,J,S,a0⟩
end
section
open Go.RowKit D
theorem D.Vg {rs:List Ru} (h:fH rs=0) {r:Ru} (hr:r ∈ rs):kZ r:=by
 unfold fH at h
 split at h
 ·cases h
 ·rename_i h1
  split at h
  ·cases h
  ·split at h
   ·cases h
   ·split at h
    ·cases h
    ·rename_i h4
     have y:=List.all_eq_true.1 (by simpa using h1) r hr;have g4:=List.all_eq_true.1 (by simpa using h4) r hr;unfold fC pG at y;simp only [ο,decide_eq_true_eq,List.all_eq_true] at y;obtain ⟨t1,U⟩:=(FU _ _).1 g4;refine ⟨y.2,y.1.2,y.1.1,fun x I=>?_⟩
     have hb:ja r.body x=true:=by
      rcases I with I | ⟨p,J,I⟩
      ·exact t1 x I
      ·unfold tu at U
       have:=List.all_eq_true.1 (by simpa using U) p J;exact (qV _ _).1 this x I
     have:=(oK _ _).1 hb;rw [iw] at this
     rcases this with h | ⟨p,J,hv⟩
     ·simp at h
     ·obtain ⟨q1,q2⟩:=List.mem_filter.1 J
      exact ⟨p,q1,by simpa using q2,hv⟩
theorem D.zS {a:A} (h:dN a=true):aW a:=by
 unfold dN kN at h;simp only [ο,Bool.not_eq_true',List.any_eq_false] at h;exact ⟨h.1,fun t y=>by simpa using h.2 t y⟩
theorem D.vC {a:A} (h:aW a):dN a=true:=by
 unfold dN kN;simp only [ο,Bool.not_eq_true',List.any_eq_false];exact ⟨h.ok,fun t y=>by simpa using h.gr t y⟩
theorem D.WV {xs:List A} (J:∀ x ∈ xs,aW x) (r:Ru) (t:A):Yu xs r t ↔ lK xs r t:=by
 have I:∀ x ∈ xs,Gr x:=fun x h=>(J x h).gr
 constructor
 ·rintro ⟨σ,rfl,h⟩
  refine ⟨σ,rfl,fun p y hn=>?_,fun p y hn hm=>?_⟩
  ·exact (rE I (rD _ _)).1 (by rw [h p y,hn]; rfl)
  ·have:=(rE I (rD σ p.atom)).2 hm
   rw [h p y,hn] at this;cases this
 ·rintro ⟨σ,rfl,h1,U⟩
  refine ⟨σ,rfl,fun p y=>?_⟩;cases hn:p.no
  ·exact (rE I (rD _ _)).2 (h1 p y hn)
  ·cases hb:hasB xs (ig σ p.atom)
   ·rfl
   ·exact absurd ((rE I (rD _ _)).1 hb) (U p y hn)
theorem D.Vh {xs:List A} (U:∀ x ∈ xs,aW x) {r:Ru} (R:kZ r) {t:A} (h:lK xs r t):aW t:=by
 obtain ⟨σ,rfl,h1,_⟩:=h;refine ⟨?_,rD _ _⟩;have h0:=R.hok;unfold aZ at h0 ⊢;unfold ig;simp only [ο,decide_eq_true_eq,List.all_eq_true,List.length_map] at h0 ⊢;refine ⟨h0.1,fun u hu=>?_⟩;obtain ⟨v,hv,rfl⟩:=List.mem_map.1 hu;have g:=h0.2 v hv;unfold jl at *;unfold yg;cases hvv:v.var
 ·simpa [hvv] using g
 ·obtain ⟨p,hp,hn,y,hy,I,J⟩:=R.tight v.name (.inl ⟨v,hv,hvv,rfl⟩)
  have hm:=(U _ (h1 p hp hn)).names (yg σ y) (List.mem_map.2 ⟨y,hy,rfl⟩);unfold yg at hm;rw [I,J] at hm;simpa using hm.2
theorem D.yU {xs:List A} (J:∀ x ∈ xs,aW x) {a:A} (ha:aW a) (x:A):x ∈ eF xs a ↔ x ∈ xs∨x=a:=by
 constructor
 ·exact uQ
 ·intro h
  have U:∀ y ∈ eF xs a,Gr y:=fun y hy=>(uQ hy).elim (fun h=>(J y h).gr) fun h=>h ▸ ha.gr
  have I:Gr x:=h.elim (fun h=>(J x h).gr) fun h=>h ▸ ha.gr
  refine (rE U I).1 ?_;rw [Jj]
  rcases h with h | rfl
  ·rw [lQ h]; rfl
  ·rw [uP]; simp
theorem D.MR {β:Type} (f:β→A):∀ (l:List β) (out:List A),fU out=true→(∀ x ∈ out,aW x)→(∀ b ∈ l,aW (f b))→
  fU (l.foldl (fun o b=>eF o (f b)) out)=true∧(∀ x ∈ l.foldl (fun o b=>eF o (f b)) out,aW x)∧∀ x,x ∈ l.foldl (fun o b=>eF o (f b)) out ↔ x ∈ out∨∃ b ∈ l,f b=x
 | [],out,h1,h2,_=>⟨h1,h2,fun x=>by simp⟩
 | b :: l,out,h1,h2,h3=>by
  have hb:=h3 b Γ;obtain ⟨y,I,J⟩:=MR f l (eF out (f b)) (xG h1 _) (fun x U=>((yU h2 hb x).1 U).elim (h2 x) fun e=>e ▸ hb) fun c hc=>h3 c (Δ _ hc)
  refine ⟨y,I,fun x=>?_⟩;rw [List.foldl_cons,J,yU h2 hb];constructor
  ·rintro ((h | h) | ⟨c,hc,h⟩)
   ·exact .inl h
   ·exact .inr ⟨b,Γ,h.symm⟩
   ·exact .inr ⟨c,Δ _ hc,h⟩
  ·rintro (h | ⟨c,hc,h⟩)
   ·exact .inl (.inl h)
   ·rcases List.mem_cons.1 hc with rfl | hc
    ·exact .inl (.inr h.symm)
    ·exact .inr ⟨c,hc,h⟩
theorem D.RN {xs:List A} {level:Nat} (hx:∀ x ∈ xs,aW x) {rl:List (Ru × Nat)} (hr:∀ p ∈ rl,kZ p.1):fU (jh xs level rl)=true∧(∀ t ∈ jh xs level rl,aW t)∧∀ t,t ∈ jh xs level rl ↔ ∃ p ∈ rl,p.2=level∧lK xs p.1 t:=by
 have hg:∀ x ∈ xs,Gr x:=fun x h=>(hx x h).gr
 have main:∀ (l:List (Ru × Nat)) (out:List A),(∀ p ∈ l,kZ p.1)→fU out=true→(∀ x ∈ out,aW x)→
   fU (l.foldl (fun out p=>if p.2=level then ES xs p.1 out else out) out)=true∧(∀ t ∈ l.foldl (fun out p=>if p.2=level then ES xs p.1 out else out) out,aW t)∧
   ∀ t,t ∈ l.foldl (fun out p=>if p.2=level then ES xs p.1 out else out) out ↔ t ∈ out∨∃ p ∈ l,p.2=level∧lK xs p.1 t:=by
  intro l
  induction l with
  | nil=>intro out _ h1 h2; exact ⟨h1,h2,fun t=>by simp⟩
  | cons q l ih=>
   intro out hl h1 h2;have R:=hl q Γ;have hq:=fun p y=>hl p (Δ _ y)
   by_cases hv:q.2=level
   ·have J:∀ t,(∃ b ∈ allB xs q.1.body,cu q.1.head b=t) ↔ lK xs q.1 t:=fun t=>(Ur hg R.tight t).trans (WV hx q.1 t)
    obtain ⟨g1,g2,g3⟩:=MR (fun b=>cu q.1.head b) (allB xs q.1.body) out h1 h2 fun b hb=>Vh hx R ((J _).1 ⟨b,hb,rfl⟩)
    rw [List.foldl_cons,if_pos hv];obtain ⟨k1,k2,U⟩:=ih (ES xs q.1 out) hq g1 g2;refine ⟨k1,k2,fun t=>?_⟩;rw [U]
    have y:t ∈ ES xs q.1 out ↔ t ∈ out∨lK xs q.1 t:=by
     unfold ES;rw [g3,J]
    rw [y];constructor
    ·rintro ((h | h) | ⟨p,y,h⟩)
     ·exact .inl h
     ·exact .inr ⟨q,Γ,hv,h⟩
     ·exact .inr ⟨p,Δ _ y,h⟩
    ·rintro (h | ⟨p,y,I,h⟩)
     ·exact .inl (.inl h)
     ·rcases List.mem_cons.1 y with rfl | y
      ·exact .inl (.inr h)
      ·exact .inr ⟨p,y,I,h⟩
   ·rw [List.foldl_cons,if_neg hv]
    obtain ⟨k1,k2,U⟩:=ih out hq h1 h2;refine ⟨k1,k2,fun t=>?_⟩;rw [U];constructor
    ·rintro (h | ⟨p,y,h⟩)
     ·exact .inl h
     ·exact .inr ⟨p,Δ _ y,h⟩
    ·rintro (h | ⟨p,y,I,h⟩)
     ·exact .inl h
     ·rcases List.mem_cons.1 y with rfl | y
      ·exact absurd I hv
      ·exact .inr ⟨p,y,I,h⟩
 obtain ⟨k1,k2,U⟩:=main rl [] hr rfl (fun x h=>by simp at h)
 exact ⟨k1,k2,fun t=>by
  have:=U t;simp only [List.not_mem_nil,false_or] at this
  exact this⟩
theorem D.lG {xs:List A} (h:fU xs=true):xs.Nodup:=by
 refine List.pairwise_iff_getElem.2 fun i j J I y e=>?_
 have:=Hf h I y;rw [e,uP] at this;omega
theorem D.Vj {xs ys:List A} (h1:fU xs=true) (I:fU ys=true) (J:∀ x ∈ xs,aW x) (f2:∀ x ∈ ys,aW x) (h:∀ t,t ∈ xs ↔ t ∈ ys):xs=ys:=by
 refine Cj h1 I (fun x y=>vC (J x y)) (fun x y=>vC (f2 x y)) fun a=>?_
 rw [Bool.eq_iff_iff,mY,mY];constructor
 ·rintro ⟨x,y,hc⟩; exact ⟨x,(h x).1 y,hc⟩
 ·rintro ⟨x,y,hc⟩; exact ⟨x,(h x).2 y,hc⟩
def D.jJ (B sb mu mp:Nat) (Fb:Nat→Prop) (fr:List Nat) (fs:List A) (rn:List Nat) (w:World):Prop:=
 ∃ y cf Lf I J Lr U bf,lJ B sb mu mp y fs.length cf Lf fs bf I rn.length J Lr rn (zQ fs) (idxs fs) U w∧(∀ x ∈ bf,Fb x)∧∀ x ∈ fr,Free B sb mu mp (.slice y fs.length cf) (.slice I rn.length J) U x∧x < w.heap.size
section
variable {B sb mu mp:Nat} {Fb:Nat→Prop} {fr:List Nat} {fs:List A} {rn:List Nat} {w w':World}
theorem D.lJ.fresh {y:Option Addr} {I cf:Nat} {Lf:List Value} {bf:List Nat} {J:Option Addr} {nr U:Nat} {Lr:List Value} {Lp:List (Value × Value)} {G:WK→List Nat} {ou:List Nat} (h:lJ B sb mu mp y I cf Lf fs bf J nr U Lr rn Lp G ou w) {x:Nat} (hx:w.heap.size≤x):Free B sb mu mp (.slice y I cf) (.slice J nr U) ou x:=by
 obtain ⟨l1,l2,l3,_⟩:=h.lo;have hs:=h.qi;exact ⟨fun e=>by have:=(bH h.cF.own e).2; omega,fun e=>by have:=(bH h.cR.own e).2; omega,fun e=>by have:=(h.ous x e).2; omega,by omega⟩
theorem D.jJ.more (h:jJ B sb mu mp Fb fr fs rn w) (I:Below w.heap.size w w') (xs:List Nat) (J:∀ x ∈ xs,w.heap.size≤x∧x < w'.heap.size):jJ B sb mu mp Fb (fr ++ xs) fs rn w':=by
 obtain ⟨Af,cf,Lf,Ar,cr,Lr,ou,bf,S,h1,U⟩:=h;refine ⟨Af,cf,Lf,Ar,cr,Lr,ou,bf,S.later I,h1,fun x y=>?_⟩
 rcases μ.1 y with g | g
 ·exact ⟨(U x g).1,κ (U x g).2 I.size⟩
 ·exact ⟨S.fresh (J x g).1,(J x g).2⟩
theorem D.jJ.later (h:jJ B sb mu mp Fb fr fs rn w) (y:Below w.heap.size w w'):jJ B sb mu mp Fb fr fs rn w':=by
 have:=h.more y [] (fun x I=>by simp at I);simpa using this
theorem D.jJ.sub (h:jJ B sb mu mp Fb fr fs rn w) {y:List Nat} (I:∀ x ∈ y,x ∈ fr):jJ B sb mu mp Fb y fs rn w:=by
 obtain ⟨J,cf,Lf,U,cr,Lr,ou,bf,S,h1,h2⟩:=h;exact ⟨J,cf,Lf,U,cr,Lr,ou,bf,S,h1,fun x hx=>h2 x (I x hx)⟩
theorem D.jJ.mono (h:jJ B sb mu mp Fb fr fs rn w) {Fb':Nat→Prop} (I:∀ x,Fb x→x < w.heap.size→Fb' x):jJ B sb mu mp Fb' fr fs rn w:=by
 obtain ⟨J,cf,Lf,U,cr,Lr,ou,bf,S,h1,h2⟩:=h;exact ⟨J,cf,Lf,U,cr,Lr,ou,bf,S,fun x y=>I x (h1 x y) (S.cF.row.lt au x y),h2⟩
theorem D.jJ.other (h:jJ B sb mu mp Fb fr fs rn w) {c:Nat} (hc:c ∈ fr) (hb:¬ Fb c) (J:w.heap.size≤w'.heap.size) (I:∀ k,k < w.heap.size→k ≠ c→w'.heap[k]? = w.heap[k]?):jJ B sb mu mp Fb fr fs rn w':=by
 obtain ⟨Af,cf,Lf,Ar,cr,Lr,ou,bf,S,h1,U⟩:=h;obtain ⟨l1,l2,l3,_⟩:=S.lo;have hz:=S.qi;obtain ⟨f,r,u,s⟩:=(U c hc).1
 refine ⟨Af,cf,Lf,Ar,cr,Lr,ou,bf,⟨(I sb (by omega) (by omega)).trans S.blk,S.ef,S.er,S.cF.nI au (fun x y=>I x (bH S.cF.own y).2 (fun e=>f (e ▸ y))) (fun x y=>I x (S.cF.row.lt au x y) (fun e=>hb (e ▸ h1 x y))),
  S.cR.nI jc (fun x y=>I x (bH S.cR.own y).2 (fun e=>r (e ▸ y))) (fun x y=>by simp at y),S.un.keep (I mu (by omega) (by omega)) (fun x y=>I x (S.ous x y).2 (fun e=>u (e ▸ y))),S.pl.same (I mp (by omega) (by omega)),S.dFR,S.dF,S.dR,S.bfs,S.lo,
  fun x y=>⟨(S.ous x y).1,κ (S.ous x y).2 J⟩,τ hz J⟩,h1,fun x y=>⟨(U x y).1,κ (U x y).2 J⟩⟩
theorem D.jJ.view (h:jJ B sb mu mp Fb fr fs rn w):∃ bs,kR sb fs rn bs w:=by
 obtain ⟨y,cf,Lf,I,J,U,ou,bf,S,h1,h2⟩:=h;obtain ⟨bs,g,_⟩:=S.view 0 (by omega);exact ⟨bs,g⟩
theorem D.jJ.lt (h:jJ B sb mu mp Fb fr fs rn w):B≤w.heap.size∧sb < B∧∀ x ∈ fr,x < w.heap.size:=by
 obtain ⟨J,cf,Lf,U,cr,Lr,ou,bf,S,h1,y⟩:=h;exact ⟨S.qi,S.lo.1,fun x I=>(y x I).2⟩
theorem WW (h:jJ B sb mu mp Fb fr fs rn w) {a:A} {c1:Value} {ba:List Nat} (ha:aJ w [.string a.name,c1] a ba) (J:∀ x ∈ ba,x ∈ fr) (U:∀ x ∈ ba,Fb x) (a0:∀ f ∈ fs,aW f) (hok:aW a) (a1:a ∉ fs) (a2:fs.length≤1000000) (a3:rn.length≤1000000) (rd B0:Nat) (a4:B0≤sb∧B0≤mu∧B0≤mp∧B0≤B):
  Calls Tryz.prog 112 #[.pointer (some ⟨sb,0,none⟩),.agg #[.string a.name,c1],.int .i64 rd] w fun e w'=>e=.returned (.tuple #[])∧Below B0 w w'∧jJ B sb mu mp Fb fr (fs ++ [a]) (rn ++ [rd]) w'∧∀ x ∈ fr,w'.heap[x]? = w.heap[x]?:=by
 obtain ⟨Af,cf,Lf,Ar,cr,Lr,ou,bf,S,h1,h2⟩:=h;refine (put_any B sb mu mp Af cf Lf fs bf Ar cr Lr rn (zQ fs) ou a c1 ba fr rd w S ha J (fun x y=>(h2 x y).1) (fun x y=>(h2 x y).2) hok.ok (MP a0 hok a1) a2 a3 B0 a4).mono ?_;rintro e w' ⟨rfl,hb,a5,a6,a7,a8,a9,aa,ab,S',I⟩;refine ⟨rfl,hb,⟨a5,a6,a7,a8,a9,aa,ab,bf ++ ba,?_,fun x y=>(μ.1 y).elim (h1 x) (U x),fun x y=>⟨?_,κ (h2 x y).2 hb.size⟩⟩,fun x y=>(I x y).2⟩
 ·rw [GN,χ,χ]; exact S'
 ·have:=(I x y).1
  rw [χ,χ]; exact this
end
theorem D.IJ.sN {xs:List A} {I:List Nat} {y w:World} (h:IJ xs I y xs.length w) (J:∀ x ∈ I,x < y.heap.size):Below y.heap.size y w∧jJ (y.heap.size+3) (y.heap.size+2) y.heap.size (y.heap.size+1) (fun x=>x ∈ I) [] xs (List.replicate xs.length 0) w:=by
 obtain ⟨h1,U,cf,Lf,Ar,cr,Lr,ou,bf,S,h2⟩:=h.all;exact ⟨h1,U,cf,Lf,Ar,cr,Lr,ou,bf,S,h2,fun x hx=>by simp at hx⟩
end
end Go.Proofs.YtkjinanbccloeaaGreatDoor
