/- Of the proof of FnDeltaNeeds: EvalS, StoQ, RunP3, FolQ, StoI, FolR, jP. -/
import Derived.Test.YtkjinanbccloeaaGreatDoorE26
import Derived.Test.YtkjinanbccloeaaGreatDoorE27
set_option linter.unusedVariables false
set_option maxHeartbeats 4000000
set_option maxRecDepth 100000
namespace Go.Proofs.YtkjinanbccloeaaGreatDoor
section
open Go.RowKit D
attribute [local go_sem ↓] Go.wp_at_zero Go.wp_at_succ
def D.fG (rs:List Ru) (xs:List A):Bool:=decide (eU rs=0) && (okB xs && decide (xs.length≤40)) && sJ (aB rs) xs
def D.bK (rs:List Ru) (xs:List A):List A × Bool:=if fG rs xs then (if (jb rs xs).2 then ((jb rs xs).1.1,true) else ([],false)) else ([],false)
theorem NT (rs:List Ru) (xs:List A) (v1 v2:Value) (b1 b2:List Nat) (w:World) (h:dW w [v1] rs b1) (h2:aC w [v2] xs b2):
  Calls Tryz.prog 55 #[v1,v2] w fun e w'=>e=.returned (.bool (fG rs xs))∧Below w.heap.size w w':=by
 have c1:=uT rs v1 b1 w h;have C2:=η fun w' (hb:Below w.heap.size w w')=>MX xs v2 b2 40 w' (au.below h2 hb) (by omega)
 have C3:=η fun w' (hb:Below w.heap.size w w') (hn:(aB rs).length≤1000000)=>SG rs xs v1 v2 b1 b2 w' (aS.below h hb) (au.below h2 hb) hn
 have a1:(eU rs:Int)≤5:=by have:=LM rs; omega
 clear h h2;by_cases J:eU rs=0
 ·have hn:(aB rs).length≤1000000:=by have h1:=(nO rs).1 J; have:=(jO h1.ok).2; have:=h1.few; omega
  have C4:=η fun w' hb=>C3.out w' hb hn
  have HZ:Hid (fG rs xs=((okB xs && decide (xs.length≤40)) && sJ (aB rs) xs)):=η (by unfold fG; rw [decide_eq_true J,Bool.true_and]);rw [J] at c1;clear J hn C3 a1;generalize sJ (aB rs) xs=z at *
  go_enter Tryz.func55,Tryz.ntmps55
  go_wp2_with fail
  refine c1.mono ?_;rintro e w1 ⟨rfl,y⟩;clear c1
  go_wp2_with fail
  refine (C2.out _ y).mono ?_;rintro e w2 ⟨rfl,U⟩;have B2:=y.trans (U.mono y.size);clear C2 y U;cases hx:(okB xs && decide (xs.length≤40))
  ·have I:Hid (fG rs xs=false):=η (by rw [HZ.out,hx]; rfl)
   clear HZ hx C4;go_wp2;go_ret;exact ⟨aH I.out.symm,B2⟩
  ·have I:Hid (fG rs xs=z):=η (by rw [HZ.out,hx]; rfl)
   clear HZ hx
   go_wp2_with fail
   refine (C4.out _ B2).mono ?_;rintro e w3 ⟨rfl,a0⟩;have B3:=B2.trans (a0.mono B2.size);clear C4 a0;go_wp2;go_ret;exact ⟨aH I.out.symm,B3⟩
 ·have I:Hid (fG rs xs=false):=η (by unfold fG; rw [decide_eq_false J]; rfl)
  have a2:¬ (eU rs:Int)=0:=by omega
  clear J C2 C3
  go_enter Tryz.func55,Tryz.ntmps55
  go_wp2_with fail
  refine c1.mono ?_;rintro e w1 ⟨rfl,y⟩;go_wp2;go_ret;exact ⟨aH I.out.symm,y⟩
theorem D.NU {a:A} (h:aZ a=true):a.args.length≤3:=by
 unfold aZ at h;simp only [ο,decide_eq_true_eq] at h;exact h.1.2
theorem D.V5 {r:Ru} (h:eY r=true):r.body.length≤4∧r.head.args.length≤1000∧∀ p ∈ r.body,p.atom.args.length≤1000:=by
 unfold eY qf at h;simp only [ο,decide_eq_true_eq,ό] at h;exact ⟨h.1.1,τ (NU h.2) (by omega),fun p y=>τ (NU (h.1.2 p y)) (by omega)⟩
structure D.NV (rs:List Ru) (xs:List A):Prop where
 gm:gm xs=true
 n:xs.length≤40
 m:rs.length≤8
 ok:rs.all eY=true
 facts:∀ a ∈ xs,dI a=true
 fine:Fine rs
 fit:sJ (aB rs) xs=true
theorem D.nC {rs:List Ru} {xs:List A} (h:fG rs xs=true):NV rs xs:=by
 unfold fG okB at h;simp only [ο,decide_eq_true_eq,ό] at h;have hf:=(nO rs).1 h.1.1;exact ⟨h.1.2.1.2,h.1.2.2,hf.few,hf.ok,h.1.2.1.1,hf,h.2⟩
theorem D.NV.rules {rs:List Ru} {xs:List A} (h:NV rs xs):∀ r ∈ rs,r.body.length≤4∧r.head.args.length≤1000∧∀ p ∈ r.body,p.atom.args.length≤1000:=fun r hr=>V5 (ό.1 h.ok r hr)
theorem D.NV.args {rs:List Ru} {xs:List A} (h:NV rs xs):∀ a ∈ xs,a.args.length≤1000:=fun a ha=>τ (G6 (h.facts a ha)) (by omega)
theorem eval_any (rs:List Ru) (xs:List A) (v1 v2:Value) (b1 b2:List Nat) (w:World) (h:dW w [v1] rs b1) (J:aC w [v2] xs b2):
  Calls Tryz.prog 14 #[v1,v2] w fun e w'=>Below w.heap.size w w'∧∃ v bs,e=.returned (.tuple #[v,.bool (bK rs xs).2])∧aC w' [v] (bK rs xs).1 bs:=by
 have c1:=NT rs xs v1 v2 b1 b2 w h J;have HR:=η h;have HX:=η J;clear h J
 cases hok:fG rs xs with
 | false=>
  have I:Hid (bK rs xs=([],false)):=η (by unfold bK; rw [hok]; rfl);rw [hok] at c1;clear hok
  go_enter Tryz.func14,Tryz.ntmps14
  go_wp2_with fail
  refine c1.mono ?_;rintro e w1 ⟨rfl,y⟩;have a1:Below w.heap.size w (w1.alloc (.cells #[] 33)):=y.alloc y.size _;clear c1;go_wp2;go_ret2;exact ⟨a1,.slice (some ⟨w1.heap.size,0,none⟩) 0 0,[],(by rw [I.out]; try rfl),by rw [I.out]; exact uw⟩
 | true=>
  have U:=η (nC hok);rw [hok] at c1
  go_enter Tryz.func14,Tryz.ntmps14
  go_wp2_with fail
  refine c1.mono ?_;rintro e w1 ⟨rfl,y⟩;have q:=run_any rs xs v1 v2 b1 b2 w1 (aS.below HR.out y) (au.below HX.out y) U.out.gm (by have:=U.out.n; omega) U.out.m U.out.ok U.out.rules U.out.args;clear c1
  go_wp2_with fail
  refine q.mono ?_;rintro e w2 ⟨a0,e0,e1,a2,rfl,J⟩;have B2:=η (y.trans (a0.mono y.size));obtain ⟨A3,p3,bx,ox,cx,ba,bb,rfl,rfl,rfl,h3,-,-⟩:=pV J;have H3:=η (au.below h3 ((Below.refl w2.heap.size w2).alloc ν (.cells #[.slice A3 (jb rs xs).1.1.length p3,.slice (some ⟨bx,ox,none⟩) (jb rs xs).1.2.length cx] 96)));have B3:=η (B2.out.alloc B2.out.size (.cells #[.slice A3 (jb rs xs).1.1.length p3,.slice (some ⟨bx,ox,none⟩) (jb rs xs).1.2.length cx] 96));clear q J h3 y a0
  cases hr:(jb rs xs).2 with
  | false=>
   have I:Hid (bK rs xs=([],false)):=η (by unfold bK; rw [hok,hr]; rfl);have B4:=η (B3.out.alloc B3.out.size (.cells #[] 33));clear hok hr;go_wp2;go_ret2;exact ⟨B4.out,.slice (some ⟨w2.heap.size+1,0,none⟩) 0 0,[],(by rw [I.out]; try rfl),by rw [I.out]; exact uw⟩
  | true=>
   have I:Hid (bK rs xs=((jb rs xs).1.1,true)):=η (by unfold bK; rw [hok,hr]; rfl);clear hok hr;go_wp2;go_ret2;exact ⟨B3.out,.slice A3 (jb rs xs).1.1.length p3,ba,(by rw [I.out]; try rfl),by rw [I.out]; exact H3.out⟩
end
section
open Go.RowKit Go.ChangeMaps Go.MapKept D
def D.BL (fs:List A):List (Value × Value):=fs.zipIdx.map fun p=>(.string (eX p.1),.int .i64 (p.2:Nat))
theorem D.IU (fs:List A) (a:A):BL (fs ++ [a])=BL fs ++ [(.string (eX a),.int .i64 (fs.length:Nat))]:=by
 unfold BL;rw [List.zipIdx_append,List.map_append];simp
theorem D.zC {fs:List A} {p:Value × Value}:p ∈ BL fs ↔ ∃ i,∃ h:i < fs.length,p=(.string (eX fs[i]),.int .i64 (i:Nat)):=by
 unfold BL;rw [List.mem_map];constructor
 ·rintro ⟨q,hq,rfl⟩
  obtain ⟨a,i⟩:=q;obtain ⟨h1,y,I⟩:=List.mem_zipIdx hq;simp at y I;exact ⟨i,y,by rw [← I]⟩
 ·rintro ⟨i,h,rfl⟩
  exact ⟨(fs[i],i),by rw [List.mem_zipIdx_iff_getElem?]; simp [h],rfl⟩
theorem D.V6 {w:World} {Ad:Option Addr} {n c:Nat} {xs:List Nat} {b:List Nat} (h:jT w [.slice Ad n c] xs b):∀ x ∈ b,(Value.slice Ad n c).ownBlock=some x:=by
 obtain ⟨a0,cap,he,_,_,h0,h1⟩:=h;simp only [List.cons.injEq,Value.slice.injEq,and_true] at he;obtain ⟨rfl,rfl,rfl⟩:=he;intro x y;by_cases I:xs = []
 ·rw [h0 I] at y; simp at y
 ·obtain ⟨b0,o,rfl,F,G,rfl,h3⟩:=h1 I
  rcases ύ.1 y with rfl | y
  ·rfl
  ·obtain ⟨k,U,J⟩:=List.mem_flatMap.1 y
   have U:=List.mem_range.1 U;obtain ⟨_,_,h5⟩:=h3 k _ (Ψ U);rw [h5.2] at J;simp at J
theorem D.lV.view {B sb mu mp:Nat} {Af:Option Addr} {nf cf:Nat} {Lf:List Value} {fs:List A} {bf:List Nat} {Ar:Option Addr} {nr cr:Nat} {Lr:List Value} {rn:List Nat} {ou:List Nat} {w:World} (h:lV B sb mu mp Af nf cf Lf fs bf Ar nr cr Lr rn (BL fs) (idxs fs) ou w) (B0:Nat) (I:B0≤sb∧B0≤mu∧B0≤mp∧B0≤B):
  ∃ bs,kW sb fs rn bs w∧∀ x ∈ bs,B0≤x∨x ∈ bf:=by
 obtain ⟨l1,l2,l3,_⟩:=h.lo;have hs:=h.qE;have J:=h.ef;have U:=h.er;subst J U;obtain ⟨b2,hF,a0⟩:=h.cF.slice;obtain ⟨b3,hR,a1⟩:=h.cR.slice;obtain ⟨rows,c,g1,g2,g3⟩:=h.un.ex;refine ⟨sb :: mu :: mp :: (b2 ++ b3 ++ ou),⟨⟨Af,cf,Ar,cr,mu,mp,b2,b3,(rows.map Nl).map (fun p=>(p.1,p.2.1)),BL fs,h.blk,hF,hR,g1.Za,h.pl,fun k=>?_,fun s=>?_,fun p hp=>?_,by simp,by simp,fun b hb=>by simp [hb],fun b hb=>by simp [hb]⟩,by simp,fun x y=>?_⟩,fun x y=>?_⟩
 ·by_cases hex:∃ r ∈ rows,r.k=k
  ·obtain ⟨r,hr,rfl⟩:=hex
   obtain ⟨b,hb,_⟩:=(g2.coll r hr).slice;obtain ⟨Ad,cap,hv,_⟩:=aj hb;refine .inl ⟨r.v,b,List.mem_map.2 ⟨Nl r,List.mem_map.2 ⟨r,hr,rfl⟩,rfl⟩,hb,fun x y=>?_⟩;rw [hv] at hb;have:=g2.own r hr x (by rw [hv]; exact V6 hb x y);simp [this]
  ·refine .inr ⟨fun p hp e=>?_,g3 k fun r hr e=>hex ⟨r,hr,e⟩⟩
   obtain ⟨q,hq,rfl⟩:=List.mem_map.1 hp;obtain ⟨r,hr,rfl⟩:=List.mem_map.1 hq;exact hex ⟨r,hr,Ju e⟩
 ·constructor
  ·rintro ⟨i,hi⟩
   obtain ⟨j,hj,e⟩:=zC.1 hi;simp at e;exact List.mem_map.2 ⟨fs[j],δ hj,e.1.symm⟩
  ·intro hm
   obtain ⟨f,hf,rfl⟩:=List.mem_map.1 hm;obtain ⟨j,hj,rfl⟩:=List.getElem_of_mem hf;exact ⟨j,zC.2 ⟨j,hj,rfl⟩⟩
 ·obtain ⟨i,hi,rfl⟩:=zC.1 hp
  exact ⟨i,rfl⟩
 ·simp only [ύ,μ] at y
  rcases y with rfl | rfl | rfl | (y | y) | y
  ·omega
  ·omega
  ·omega
  ·exact au.lt hF x y
  ·exact dS.lt hR x y
  ·exact (h.ous x y).2
 ·simp only [ύ,μ] at y
  rcases y with rfl | rfl | rfl | (y | y) | y
  ·exact .inl I.1
  ·exact .inl I.2.1
  ·exact .inl I.2.2.1
  ·exact (a0 x y).imp (fun h=>by omega) id
  ·rcases a1 x y with h | h
   ·exact .inl (by omega)
   ·simp at h
  ·have:=(h.ous x y).1; exact .inl (by omega)
theorem D.NW {fs:List A} (hf:∀ f ∈ fs,aW f) {a:A} (ha:aW a) (y:a ∉ fs):∀ p ∈ BL fs,p.1 ≠ .string (eX a):=fun p J e=>by
 obtain ⟨i,I,rfl⟩:=zC.1 J;simp at e;exact y (BF (hf _ (δ I)).ok ha.ok e ▸ δ I)
end
section
open Go.RowKit D
section
variable {vars:List ByteArray} {fs ps ns:List A} {head:A} {wt:Nat→Bool} {K:Nat→Prop} {sk:Nat} {T:Bool→World→List A→Prop} {go:List A→Bool} {b:Bd} {left m:Nat} {L:List Nat} {told ts:List A} {hd more s:Bool} {k:Nat} {w wr w5 w6:World}
def D.vz (vars:List ByteArray) (fs ps ns:List A) (head:A) (K:Nat→Prop) (sk:Nat) (T:Bool→World→List A→Prop) (go:List A→Bool) (b:Bd) (left:Nat) (told:List A) (w:World) (e:Ending) (w':World):Prop:=
 ∃ held more,e=.returned (.tuple #[.bool held,.bool more])∧jr vars fs ps ns head K sk T go b left told held more w w'
theorem D.jr.ret (P:jr vars fs ps ns head K sk T go b left told hd more w w5):vz vars fs ps ns head K sk T go b left told w (.returned (.tuple #[.bool hd,.bool more])) w5:=⟨hd,more,rfl,P⟩
theorem D.jr.bd {b':Bd} {y I:Bool} {J:Nat} {U:List A} (P:jr vars fs ps ns head K sk T go b' J U y I w w6):iM vars b' sk 18 w6:=by
 obtain ⟨_,_,h,_⟩:=P;exact h
structure D.iq (vars:List ByteArray) (fs ps ns:List A) (head:A) (K:Nat→Prop) (sk:Nat) (T:Bool→World→List A→Prop) (go:List A→Bool) (b:Bd) (left m:Nat) (L:List Nat) (told ts:List A) (hd more:Bool) (k:Nat) (w wr:World):Prop where
 kept:bW K sk w wr
 at_:iM vars b sk 18 wr
 st:T more wr (told ++ ts)
 sound:∀ t ∈ ts,∃ σ,wG fs ps ns b left σ∧iC σ head=t
 whole:more=true→∀ i,i < k→∀ (h:i < L.length) (j:Nat) (hj:j < fs.length),L[i]=j→∀ (hm:m < ps.length) σ,wG fs ps ns b left σ→iC σ ps[m]=fs[j]→iC σ head ∈ ts
 held:hd=true→ts ≠ []
 nogo:more=false→go (told ++ ts)=false
theorem D.iq.skip (I:iq vars fs ps ns head K sk T go b left m L told ts hd true k w wr) (hk:k < L.length) (hj:L[k] < fs.length) (hm:m < ps.length) (y:(aG ps[m] fs[L[k]] b).2=false)
  (k6:bW K sk wr w6) (J:iM vars b sk 18 w6) (U:T true w6 (told ++ ts)):iq vars fs ps ns head K sk T go b left m L told ts hd true (k+1) w w6:=by
 refine ⟨I.kept.trans k6,J,U,I.sound,fun _ i hi h j a0 e a1 σ hσ he=>?_,I.held,fun h=>by cases h⟩
 rcases Nat.lt_succ_iff_lt_or_eq.1 hi with h1 | rfl
 ·exact I.whole rfl i h1 h j a0 e a1 σ hσ he
 ·subst e
  rw [(oJ hσ.1 he).1] at y;cases y
theorem D.iq.took (I:iq vars fs ps ns head K sk T go b left m L told ts hd true k w wr) (hl:left < 16) (a1:ps.length≤4) (hk:k < L.length) (hj:L[k] < fs.length) (a2:Gr fs[L[k]]) (hm:m < ps.length) (a0:left.testBit m=true) (a3:(aG ps[m] fs[L[k]] b).2=true)
  {w4:World} {J y:Bool} (P:jr vars fs ps ns head K sk T go (aG ps[m] fs[L[k]] b).1 (left - 2 ^ m) (told ++ ts) J y w4 w5) (k4:bW K sk wr w4) (k6:bW K sk w5 w6) (a4:iM vars b sk 18 w6) (hT:∀ U,T y w5 U→T y w6 U):
  ∃ a5,iq vars fs ps ns head K sk T go b left m L told a5 (hd || J) y (k+1) w w6:=by
 obtain ⟨U,p1,p2,p3,p4,p5,p6,p7⟩:=P;refine ⟨ts ++ U,I.kept.trans (k4.trans (p1.trans k6)),a4,by rw [← List.append_assoc]; exact hT _ p3,fun t ht=>?_,fun a6 i hi h j a7 e a8 σ hσ he=>?_,fun hh=>?_,fun h=>by rw [← List.append_assoc]; exact p7 h⟩
 ·rcases μ.1 ht with ht | ht
  ·exact I.sound t ht
  ·obtain ⟨σ,h1,h2⟩:=p4 t ht
   exact ⟨σ,h1.back hl a1 hm a0 (δ _) a2 a3,h2⟩
 ·rcases Nat.lt_succ_iff_lt_or_eq.1 hi with h1 | rfl
  ·exact Ξ _ (I.whole rfl i h1 h j a7 e a8 σ hσ he)
  ·subst e
   exact Ω _ (p5 a6 σ (hσ.step hl a1 hm a0 he).2)
 ·intro e
  rcases List.append_eq_nil_iff.1 e with ⟨e1,e2⟩
  rcases Bool.or_eq_true_iff.1 hh with h | h
  ·exact I.held h e1
  ·exact p6 h e2
theorem D.iq.drewN {U c7:Addr} (I:iq vars fs ps ns head K sk T go b left m L told ts hd more k w wr) (hT:xW vars head sk K U c7 T go) (hs:sk < w.heap.size) {n:Nat}:iq vars fs ps ns head K sk T go b left m L told ts hd more k w (wr.drewN n):=by
 have J:Below wr.heap.size wr (wr.drewN n):=IC ϑ n;have y:=κ hs I.kept.size;exact ⟨I.kept.trans (bW.of_below y J),I.at_.keep rfl,hT.keep _ _ _ I.st (dK.of_below J y),I.sound,I.whole,I.held,I.nogo⟩
theorem D.iq.off (I:iq vars fs ps ns head K sk T go b left m L told ts hd false k w wr):jr vars fs ps ns head K sk T go b left told hd false w wr:=
 ⟨ts,I.kept,I.at_,I.st,I.sound,fun h=>absurd h (by decide),I.held,I.nogo⟩
theorem D.iq.brk (hc:yO b head.args) (I:iq vars fs ps ns head K sk T go b left m L told ts true true k w wr):jr vars fs ps ns head K sk T go b left told true true w wr:=
 ⟨ts,I.kept,I.at_,I.st,I.sound,fun _ σ hσ=>VZ hc I.sound (I.held rfl) σ hσ,I.held,I.nogo⟩
theorem D.iq.fin (E:tq vars fs ps ns head wt) {key:WK} {A9:Option Addr} {c9:Nat} {bs bx:List Nat} {w3:World} (C:xQ fs ps b bs left m A9 c9 key bx w3) (hL:L=idxs fs key) (I:iq vars fs ps ns head K sk T go b left m L told ts hd true k w wr) (hk:L.length≤k):
  jr vars fs ps ns head K sk T go b left told hd true w wr:=by
 refine ⟨ts,I.kept,I.at_,I.st,I.sound,fun _ σ hσ=>?_,I.held,I.nogo⟩;have hin:=hσ.2.1 m C.lt C.bit;obtain ⟨j,J,e⟩:=List.getElem_of_mem hin;have U:=(oJ (f:=fs[j]) hσ.1 e.symm).1;have y:=C.key_ (ps[m]'C.lt) (Ψ _) fs[j] (E.fok _ (δ J)).gr U;have a0:j ∈ L:=by rw [hL]; exact FB.2 ⟨J,y⟩
 obtain ⟨i,hi,e2⟩:=List.getElem_of_mem a0;exact I.whole rfl i (by omega) hi j J e2 C.lt σ hσ e.symm
end
def D.lW (fs:List A) (r:Ru) (t:A):Prop:=∃ σ:Wo,t=iC σ r.head∧(∀ p ∈ r.body,p.no=false→iC σ p.atom ∈ fs)∧∀ p ∈ r.body,p.no=true→iC σ p.atom ∉ fs
structure D.lC (r:Ru):Prop where
 hok:aZ r.head=true
 pok:∀ p ∈ r.body,aZ p.atom=true
 few:r.body.length≤4
 tight:Va r
theorem D.qX {body:List Pt} {a:A}:a ∈ iE body ↔ ∃ p ∈ body,p.no=false∧p.atom=a:=by
 unfold iE;rw [List.mem_map];constructor
 ·rintro ⟨p,I,rfl⟩
  obtain ⟨h1,y⟩:=List.mem_filter.1 I;exact ⟨p,h1,by simpa using y,rfl⟩
 ·rintro ⟨p,h1,y,rfl⟩
  exact ⟨p,List.mem_filter.2 ⟨h1,by simpa using y⟩,rfl⟩
theorem D.qY {body:List Pt} {a:A}:a ∈ eF body ↔ ∃ p ∈ body,p.no=true∧p.atom=a:=by
 unfold eF;rw [List.mem_map];constructor
 ·rintro ⟨p,I,rfl⟩
  obtain ⟨h1,y⟩:=List.mem_filter.1 I;exact ⟨p,h1,y,rfl⟩
 ·rintro ⟨p,h1,y,rfl⟩
  exact ⟨p,List.mem_filter.2 ⟨h1,y⟩,rfl⟩
theorem D.IV:∀ (l:List Pt),(∀ p ∈ l,aZ p.atom=true)→je (fun p:Pt=>p.atom.args.length) l≤l.length * 3
 | [],_=>ε
 | p :: l,h=>by
  have h1:=IV l fun q hq=>h q (Δ _ hq)
  have I:=oM (h p Γ);have y:je (fun p:Pt=>p.atom.args.length) (p :: l)=p.atom.args.length+je (fun p:Pt=>p.atom.args.length) l:=by simp [je]
  rw [y,List.length_cons,Nat.add_mul];omega
theorem D.QI {r:Ru} (R:lC r):kC (aF r.body):=by
 refine ⟨?_,xu (ng r.body o6)⟩;have h1:=pq r.body [];have y:=IV r.body R.pok;have I:=R.few;show (fF r.body []).length≤12;simp at h1;omega
theorem D.QJ {ps:List Pt}:∀ p ∈ ps,∀ t ∈ p.atom.args,t.var=true→t.name ∈ aF ps:=fun p I t J y=>(iG ps [] _).2 (.inr ⟨p,I,t,J,y,rfl⟩)
theorem D.JQ {fs:List A} {r:Ru} (R:lC r) (I:∀ f ∈ fs,aW f) (J:fs.length≤1000000) {wt:Nat→Bool} (U:∀ i,i < 12→wt i=NP (aF r.body) r.head (eF r.body) i):
  tq (aF r.body) fs (iE r.body) (eF r.body) r.head wt:=by
 have hf:=R.few;have l1:(iE r.body).length≤r.body.length:=by unfold iE; rw [List.length_map]; exact List.length_filter_le _ _
 have l2:(eF r.body).length≤r.body.length:=by unfold eF; rw [List.length_map]; exact List.length_filter_le _ _
 refine ⟨QI R,by omega,J,by omega,I,fun p y=>?_,fun n hn=>?_,R.hok,fun p y=>?_,fun n hn=>?_,fun t ht a0=>?_,U,fun b hb=>?_⟩
 ·obtain ⟨q,h1,_,rfl⟩:=qX.1 y; exact R.pok q h1
 ·obtain ⟨q,h1,_,rfl⟩:=qY.1 hn; exact R.pok q h1
 ·obtain ⟨q,h1,_,rfl⟩:=qX.1 y; exact QJ q h1
 ·obtain ⟨q,h1,_,rfl⟩:=qY.1 hn; exact QJ q h1
 ·obtain ⟨p,y,_,hv⟩:=R.tight t.name (.inl ⟨t,ht,a0,rfl⟩)
  exact (iG r.body [] _).2 (.inr ⟨p,y,hv⟩)
 ·obtain ⟨h1,h2⟩:=Ii R.tight (b:=b) fun p y hn=>hb _ (qX.2 ⟨p,y,hn,rfl⟩)
  exact ⟨h1,fun n hn=>by obtain ⟨q,h3,_,rfl⟩:=qY.1 hn; exact h2 q h3⟩
theorem D.V7 {fs:List A} {r:Ru} (R:lC r) {ts:List A} (h1:∀ t ∈ ts,∃ σ,wG fs (iE r.body) (eF r.body) [] (2 ^ (iE r.body).length - 1) σ∧iC σ r.head=t)
  (h2:∀ σ,wG fs (iE r.body) (eF r.body) [] (2 ^ (iE r.body).length - 1) σ→iC σ r.head ∈ ts) (t:A):t ∈ ts ↔ lW fs r t:=by
 constructor
 ·intro h
  obtain ⟨σ,⟨_,J,g3⟩,rfl⟩:=h1 t h;refine ⟨σ,rfl,fun p y hn=>?_,fun p y hn=>g3 _ (qY.2 ⟨p,y,hn,rfl⟩)⟩;obtain ⟨j,I,e⟩:=List.getElem_of_mem (qX.2 ⟨p,y,hn,rfl⟩);rw [← e];exact J j I (by rw [Nat.testBit_two_pow_sub_one]; simpa using I)
 ·rintro ⟨σ,rfl,g1,J⟩
  refine h2 σ ⟨fun n v h=>by simp [gI] at h,fun j I _=>?_,fun n hn=>?_⟩
  ·obtain ⟨p,y,hn,e⟩:=qX.1 (δ I)
   rw [← e]; exact g1 p y hn
  ·obtain ⟨p,y,U,rfl⟩:=qY.1 hn
   exact J p y U
theorem D.Tv {r:Ru} (R:lC r) {b:Bd} (y:vg b) (hc:yO b r.head.args):aW (cO r.head b):=vZ R.hok y hc
end
section
open Go.RowKit D
attribute [local go_sem ↓] Go.wp_at_zero Go.wp_at_succ
def D.JR (xs:List A) (J:List Nat) (y:World) (k:Nat) (w:World):Prop:=
 ∃ U cf Lf Ar cr Lr ou I,lV (y.heap.size+3) (y.heap.size+2) y.heap.size (y.heap.size+1) U (xs.take k).length cf Lf (xs.take k) I Ar (List.replicate k 0).length cr Lr (List.replicate k 0) (BL (xs.take k)) (idxs (xs.take k)) ou w∧Below y.heap.size y w∧∀ x ∈ I,x ∈ J
theorem NY (xs:List A) (v:Value) (bx:List Nat) (w:World) (h:aC w [v] xs bx) (hf:∀ f ∈ xs,aW f) (hn:xs.Pairwise fun a b=>a ≠ b) (hl:xs.length≤1000000):
  Calls Tryz.prog 58 #[v] w fun e w'=>e=.returned (.pointer (some ⟨w.heap.size+2,0,none⟩))∧JR xs bx w xs.length w':=by
 obtain ⟨Ad,cap,rfl,a4,hm⟩:=aj h;have aL:=ay (τ a4 hm);have hA:Below w.heap.size w (((w.alloc (.map #[] 0)).alloc (.map #[] 0)).alloc (.cells #[.slice none 0 0,.slice none 0 0,.map (some w.heap.size),.map (some (w.heap.size+1))] 127)):=((ζ).alloc (by simp) _).alloc (by simp; omega) _;have a5:qN Jt w.heap.size [] 0 (((w.alloc (.map #[] 0)).alloc (.map #[] 0)).alloc (.cells #[.slice none 0 0,.slice none 0 0,.map (some w.heap.size),.map (some (w.heap.size+1))] 127)):=(qN.made (S:=Jt) w).same (by rw [Below.heap_alloc _ _ _ (by simp; omega),Below.heap_alloc _ _ _ (by simp)])
 have a6:oG isStr (w.heap.size+1) [] (((w.alloc (.map #[] 0)).alloc (.map #[] 0)).alloc (.cells #[.slice none 0 0,.slice none 0 0,.map (some w.heap.size),.map (some (w.heap.size+1))] 127)):=by
  have h0:=oG.made (S:=isStr) (w.alloc (.map #[] 0));have e:(w.alloc (.map #[] 0)).heap.size=w.heap.size+1:=by simp
  rw [e] at h0;exact h0.same (by rw [Below.heap_alloc _ _ _ (by simp)])
 have a7:(((w.alloc (.map #[] 0)).alloc (.map #[] 0)).alloc (.cells #[.slice none 0 0,.slice none 0 0,.map (some w.heap.size),.map (some (w.heap.size+1))] 127)).heap[w.heap.size+2]? = some (.cells #[.slice none 0 0,.slice none 0 0,.map (some w.heap.size),.map (some (w.heap.size+1))] 127 (0,0)):=by
  have:=ω ((w.alloc (.map #[] 0)).alloc (.map #[] 0)) (.cells #[.slice none 0 0,.slice none 0 0,.map (some w.heap.size),.map (some (w.heap.size+1))] 127);simpa using this
 have a8:Hid (JR xs bx w 0 (((w.alloc (.map #[] 0)).alloc (.map #[] 0)).alloc (.cells #[.slice none 0 0,.slice none 0 0,.map (some w.heap.size),.map (some (w.heap.size+1))] 127))):=η
  ⟨none,0,[],none,0,[],[],[],⟨a7,rfl,rfl,aX.nil _,aX.nil _,⟨⟨[],0,a5,⟨fun r hr=>by simp at hr,fun r hr=>by simp at hr,fun r hr=>by simp at hr⟩,fun k _=>by simp [idxs]⟩⟩,a6,fun x y=>by simp [Value.ownBlock] at y,fun x y=>by simp at y,fun x y=>by simp at y,fun x y=>by simp at y,by omega,fun x y=>by simp at y,by simp⟩,hA,fun x y=>by simp at y⟩
 have HH:=η h;have HF:=η (ι hf hn);clear h hf hn a4 hm hA a5 a6 a7;have aM:=@run_makeMap Tryz.prog
 go_enter Tryz.func58,Tryz.ntmps58
 go_wp2;generalize (((w.alloc (.map #[] 0)).alloc (.map #[] 0)).alloc (.cells #[.slice none 0 0,.slice none 0 0,.map (some w.heap.size),.map (some (w.heap.size+1))] 127))=W at *
 go_loopw [12] (fun i wr=>∃ (k:Nat),k≤xs.length∧i=.int .i64 k∧JR xs bx w k wr) (fun i _=>xs.length - (intOf i).toNat)
 case atStart=>exact ⟨0,ε,rfl,a8.out⟩
 case round=>
  obtain ⟨k,hk,rfl,hI⟩:=hrel;clear a8;by_cases J:k < xs.length
  ·obtain ⟨Af,cf,Lf,Ar,cr,Lr,ou,bf,S,I,a9⟩:=hI
   obtain ⟨bq,oq,Ae,ce,ba,rfl,_,f0,f1,a2,a0⟩:=dL (au.below HH.out I) J;have aR:(0:Int)≤(k:Int):=by omega
   have ae:(k:Int) < (xs.length:Int):=by omega
   have U:Below wr.heap.size wr (wr.alloc (.cells #[.string xs[k].name,.slice Ae xs[k].args.length ce] 33)):=ζ;have a3:=HF.out.1 _ (δ J)
   have aa:xs[k] ∉ xs.take k:=fun hm=>by
    obtain ⟨i,hi,e⟩:=List.getElem_of_mem hm;simp at hi e;exact List.pairwise_iff_getElem.1 HF.out.2 i k (by omega) J (by omega) e
   have a1:=put_any (w.heap.size+3) (w.heap.size+2) w.heap.size (w.heap.size+1) Af cf Lf (xs.take k) bf Ar cr Lr (List.replicate k 0) (BL (xs.take k)) ou xs[k] (.slice Ae xs[k].args.length ce) ba ba 0 (wr.alloc (.cells #[.string xs[k].name,.slice Ae xs[k].args.length ce] 33)) (S.later U) (ak.below a2 U) (fun x y=>y)
    (fun x y=>(S.later U).low (by have:=au.lt HH.out x (a0 x y); omega)) (fun x y=>κ (ak.lt a2 x y) U.size) a3.ok (NW (fun f hf=>HF.out.1 f (List.mem_of_mem_take hf)) a3 aa) (by simp; omega) (by simp; omega) w.heap.size (by omega)
   have HB:=η (I.trans (U.mono I.size));have ab:=η J;have af:Hid (∀ x ∈ bf ++ ba,x ∈ bx):=η fun x y=>(μ.1 y).elim (a9 x) (a0 x)
   have ag:Hid (xs.take (k+1)=xs.take k ++ [xs[k]]):=η (ρ J);clear S I a9 a2 a0 U a3 aa hk;generalize xs[k]=a at *;obtain ⟨an,am⟩:=a;dsimp only at *;clear J
   go_wp2_with fail
   refine a1.mono ?_;rintro e w2 ⟨rfl,ac,ao,aq,ar,av,aw,az,aD,S',-⟩
   have aE:Hid (JR xs bx w (k+1) w2):=η ⟨ao,aq,ar,av,aw,az,aD,_,by
    rw [ag.out,List.replicate_succ',IU,χ,χ]; exact S',HB.out.trans ac,af.out⟩
   clear a1 ac S';go_wp2;go_roundw
   case rel=>exact ⟨k+1,ab.out,by go_num,aE.out⟩
   case measure=>have:=ab.out; simp [intOf]; omega
  ·have he:k=xs.length:=by omega
   have ae:¬ (k:Int) < (xs.length:Int):=by omega
   have HD:Hid (JR xs bx w xs.length wr):=η (he ▸ hI);clear hI;go_wp2;go_ret;exact ⟨rfl,HD.out⟩
theorem D.JR.all {xs:List A} {bx:List Nat} {y w:World} (h:JR xs bx y xs.length w):
  Below y.heap.size y w∧∃ U cf Lf Ar cr Lr ou J,lV (y.heap.size+3) (y.heap.size+2) y.heap.size (y.heap.size+1) U xs.length cf Lf xs J Ar (List.replicate xs.length 0).length cr Lr (List.replicate xs.length 0) (BL xs) (idxs xs) ou w∧∀ x ∈ J,x ∈ bx:=by
 obtain ⟨U,cf,Lf,Ar,cr,Lr,ou,J,S,I,a0⟩:=h;rw [List.take_length] at S;exact ⟨I,U,cf,Lf,Ar,cr,Lr,ou,J,S,a0⟩
end
section
open Go.RowKit D
theorem D.V8 {rs:List Ru} (h:eU rs=0) {r:Ru} (hr:r ∈ rs):lC r:=by
 unfold eU at h
 split at h
 ·cases h
 ·rename_i h1
  split at h
  ·cases h
  ·split at h
   ·cases h
   ·split at h
    ·cases h
    ·rename_i h4
     have y:=ό.1 (by simpa using h1) r hr;have g4:=ό.1 (by simpa using h4) r hr;unfold eY qf at y;simp only [ο,decide_eq_true_eq,ό] at y;obtain ⟨t1,U⟩:=(Hq _ _).1 g4;refine ⟨y.2,y.1.2,y.1.1,fun x I=>?_⟩
     have hb:jf r.body x=true:=by
      rcases I with I | ⟨p,J,I⟩
      ·exact t1 x I
      ·unfold uz at U
       have:=ό.1 (by simpa using U) p J;exact (rO _ _).1 this x I
     have:=(pF _ _).1 hb;rw [iG] at this
     rcases this with h | ⟨p,J,hv⟩
     ·simp at h
     ·obtain ⟨q1,q2⟩:=List.mem_filter.1 J
      exact ⟨p,q1,by simpa using q2,hv⟩
theorem D.BN {a:A} (h:dI a=true):aW a:=by
 unfold dI kU at h;simp only [ο,Bool.not_eq_true',List.any_eq_false] at h;exact ⟨h.1,fun t y=>by simpa using h.2 t y⟩
theorem D.qZ {a:A} (h:aW a):dI a=true:=by
 unfold dI kU;simp only [ο,Bool.not_eq_true',List.any_eq_false];exact ⟨h.ok,fun t y=>by simpa using h.gr t y⟩
theorem D.XO {xs:List A} (J:∀ x ∈ xs,aW x) (r:Ru) (t:A):Zf xs r t ↔ lW xs r t:=by
 have I:∀ x ∈ xs,Gr x:=fun x h=>(J x h).gr
 constructor
 ·rintro ⟨σ,rfl,h⟩
  refine ⟨σ,rfl,fun p y hn=>?_,fun p y hn hm=>?_⟩
  ·exact (sF I (sD _ _)).1 (by rw [h p y,hn]; rfl)
  ·have:=(sF I (sD σ p.atom)).2 hm
   rw [h p y,hn] at this;cases this
 ·rintro ⟨σ,rfl,h1,U⟩
  refine ⟨σ,rfl,fun p y=>?_⟩;cases hn:p.no
  ·exact (sF I (sD _ _)).2 (h1 p y hn)
  ·cases hb:hasB xs (iC σ p.atom)
   ·rfl
   ·exact absurd ((sF I (sD _ _)).1 hb) (U p y hn)
theorem D.V9 {xs:List A} (U:∀ x ∈ xs,aW x) {r:Ru} (R:lC r) {t:A} (h:lW xs r t):aW t:=by
 obtain ⟨σ,rfl,h1,_⟩:=h;refine ⟨?_,sD _ _⟩;have h0:=R.hok;unfold aZ at h0 ⊢;unfold iC;simp only [ο,decide_eq_true_eq,ό,List.length_map] at h0 ⊢;refine ⟨h0.1,fun u hu=>?_⟩;obtain ⟨v,hv,rfl⟩:=List.mem_map.1 hu;have g:=h0.2 v hv;unfold jv at *;unfold yN;cases hvv:v.var
 ·simpa [hvv] using g
 ·obtain ⟨p,hp,hn,y,hy,I,J⟩:=R.tight v.name (.inl ⟨v,hv,hvv,rfl⟩)
  have hm:=(U _ (h1 p hp hn)).names (yN σ y) (List.mem_map.2 ⟨y,hy,rfl⟩);unfold yN at hm;rw [I,J] at hm;simpa using hm.2
theorem D.zD {xs:List A} (J:∀ x ∈ xs,aW x) {a:A} (ha:aW a) (x:A):x ∈ eG xs a ↔ x ∈ xs∨x=a:=by
 constructor
 ·exact vM
 ·intro h
  have U:∀ y ∈ eG xs a,Gr y:=fun y hy=>(vM hy).elim (fun h=>(J y h).gr) fun h=>h ▸ ha.gr
  have I:Gr x:=h.elim (fun h=>(J x h).gr) fun h=>h ▸ ha.gr
  refine (sF U I).1 ?_;rw [KE]
  rcases h with h | rfl
  ·rw [jR h]; rfl
  ·rw [vK]; simp
theorem D.NZ {β:Type} (f:β→A):∀ (l:List β) (out:List A),gm out=true→(∀ x ∈ out,aW x)→(∀ b ∈ l,aW (f b))→
  gm (l.foldl (fun o b=>eG o (f b)) out)=true∧(∀ x ∈ l.foldl (fun o b=>eG o (f b)) out,aW x)∧∀ x,x ∈ l.foldl (fun o b=>eG o (f b)) out ↔ x ∈ out∨∃ b ∈ l,f b=x
 | [],out,h1,h2,_=>⟨h1,h2,fun x=>by simp⟩
 | b :: l,out,h1,h2,h3=>by
  have hb:=h3 b Γ;obtain ⟨y,I,J⟩:=NZ f l (eG out (f b)) (yj h1 _) (fun x U=>((zD h2 hb x).1 U).elim (h2 x) fun e=>e ▸ hb) fun c hc=>h3 c (Δ _ hc)
  refine ⟨y,I,fun x=>?_⟩;rw [List.foldl_cons,J,zD h2 hb];constructor
  ·rintro ((h | h) | ⟨c,hc,h⟩)
   ·exact .inl h
   ·exact .inr ⟨b,Γ,h.symm⟩
   ·exact .inr ⟨c,Δ _ hc,h⟩
  ·rintro (h | ⟨c,hc,h⟩)
   ·exact .inl (.inl h)
   ·rcases ύ.1 hc with rfl | hc
    ·exact .inl (.inr h.symm)
    ·exact .inr ⟨c,hc,h⟩
theorem D.Tz {xs:List A} {level:Nat} (hx:∀ x ∈ xs,aW x) {rl:List (Ru × Nat)} (hr:∀ p ∈ rl,lC p.1):gm (jo xs level rl)=true∧(∀ t ∈ jo xs level rl,aW t)∧∀ t,t ∈ jo xs level rl ↔ ∃ p ∈ rl,p.2=level∧lW xs p.1 t:=by
 have hg:∀ x ∈ xs,Gr x:=fun x h=>(hx x h).gr
 have main:∀ (l:List (Ru × Nat)) (out:List A),(∀ p ∈ l,lC p.1)→gm out=true→(∀ x ∈ out,aW x)→
   gm (l.foldl (fun out p=>if p.2=level then Gt xs p.1 out else out) out)=true∧(∀ t ∈ l.foldl (fun out p=>if p.2=level then Gt xs p.1 out else out) out,aW t)∧
   ∀ t,t ∈ l.foldl (fun out p=>if p.2=level then Gt xs p.1 out else out) out ↔ t ∈ out∨∃ p ∈ l,p.2=level∧lW xs p.1 t:=by
  intro l
  induction l with
  | nil=>intro out _ h1 h2; exact ⟨h1,h2,fun t=>by simp⟩
  | cons q l ih=>
   intro out hl h1 h2;have R:=hl q Γ;have hq:=fun p y=>hl p (Δ _ y)
   by_cases hv:q.2=level
   ·have J:∀ t,(∃ b ∈ allB xs q.1.body,cO q.1.head b=t) ↔ lW xs q.1 t:=fun t=>(Vb hg R.tight t).trans (XO hx q.1 t)
    obtain ⟨g1,g2,g3⟩:=NZ (fun b=>cO q.1.head b) (allB xs q.1.body) out h1 h2 fun b hb=>V9 hx R ((J _).1 ⟨b,hb,rfl⟩)
    rw [List.foldl_cons,if_pos hv];obtain ⟨k1,k2,U⟩:=ih (Gt xs q.1 out) hq g1 g2;refine ⟨k1,k2,fun t=>?_⟩;rw [U]
    have y:t ∈ Gt xs q.1 out ↔ t ∈ out∨lW xs q.1 t:=by
     unfold Gt;rw [g3,J]
    rw [y];constructor
    ·rintro ((h | h) | ⟨p,y,h⟩)
     ·exact .inl h
     ·exact .inr ⟨q,Γ,hv,h⟩
     ·exact .inr ⟨p,Δ _ y,h⟩
    ·rintro (h | ⟨p,y,I,h⟩)
     ·exact .inl (.inl h)
     ·rcases ύ.1 y with rfl | y
      ·exact .inl (.inr h)
      ·exact .inr ⟨p,y,I,h⟩
   ·rw [List.foldl_cons,if_neg hv]
    obtain ⟨k1,k2,U⟩:=ih out hq h1 h2;refine ⟨k1,k2,fun t=>?_⟩;rw [U];constructor
    ·rintro (h | ⟨p,y,h⟩)
     ·exact .inl h
     ·exact .inr ⟨p,Δ _ y,h⟩
    ·rintro (h | ⟨p,y,I,h⟩)
     ·exact .inl h
     ·rcases ύ.1 y with rfl | y
      ·exact absurd I hv
      ·exact .inr ⟨p,y,I,h⟩
 obtain ⟨k1,k2,U⟩:=main rl [] hr rfl (fun x h=>by simp at h)
 exact ⟨k1,k2,fun t=>by
  have:=U t;simp only [List.not_mem_nil,false_or] at this
  exact this⟩
theorem D.lT {xs:List A} (h:gm xs=true):xs.Nodup:=by
 refine List.pairwise_iff_getElem.2 fun i j J I y e=>?_
 have:=Jd h I y;rw [e,vK] at this;omega
theorem D.N8 {xs ys:List A} (h1:gm xs=true) (I:gm ys=true) (J:∀ x ∈ xs,aW x) (f2:∀ x ∈ ys,aW x) (h:∀ t,t ∈ xs ↔ t ∈ ys):xs=ys:=by
 refine D8 h1 I (fun x y=>qZ (J x y)) (fun x y=>qZ (f2 x y)) fun a=>?_
 rw [Bool.eq_iff_iff,lZ,lZ];constructor
 ·rintro ⟨x,y,hc⟩; exact ⟨x,(h x).1 y,hc⟩
 ·rintro ⟨x,y,hc⟩; exact ⟨x,(h x).2 y,hc⟩
def D.jP (B sb mu mp:Nat) (Fb:Nat→Prop) (fr:List Nat) (fs:List A) (rn:List Nat) (w:World):Prop:=
 ∃ y cf Lf I J Lr U bf,lV B sb mu mp y fs.length cf Lf fs bf I rn.length J Lr rn (BL fs) (idxs fs) U w∧(∀ x ∈ bf,Fb x)∧∀ x ∈ fr,Free B sb mu mp (.slice y fs.length cf) (.slice I rn.length J) U x∧x < w.heap.size
section
variable {B sb mu mp:Nat} {Fb:Nat→Prop} {fr:List Nat} {fs:List A} {rn:List Nat} {w w':World}
theorem D.lV.fresh {y:Option Addr} {I cf:Nat} {Lf:List Value} {bf:List Nat} {J:Option Addr} {nr U:Nat} {Lr:List Value} {Lp:List (Value × Value)} {G:WK→List Nat} {ou:List Nat} (h:lV B sb mu mp y I cf Lf fs bf J nr U Lr rn Lp G ou w) {x:Nat} (hx:w.heap.size≤x):Free B sb mu mp (.slice y I cf) (.slice J nr U) ou x:=by
 obtain ⟨l1,l2,l3,_⟩:=h.lo;have hs:=h.qE;exact ⟨fun e=>by have:=(bH h.cF.own e).2; omega,fun e=>by have:=(bH h.cR.own e).2; omega,fun e=>by have:=(h.ous x e).2; omega,by omega⟩
theorem D.jP.more (h:jP B sb mu mp Fb fr fs rn w) (I:Below w.heap.size w w') (xs:List Nat) (J:∀ x ∈ xs,w.heap.size≤x∧x < w'.heap.size):jP B sb mu mp Fb (fr ++ xs) fs rn w':=by
 obtain ⟨Af,cf,Lf,Ar,cr,Lr,ou,bf,S,h1,U⟩:=h;refine ⟨Af,cf,Lf,Ar,cr,Lr,ou,bf,S.later I,h1,fun x y=>?_⟩
 rcases μ.1 y with g | g
 ·exact ⟨(U x g).1,κ (U x g).2 I.size⟩
 ·exact ⟨S.fresh (J x g).1,(J x g).2⟩
theorem D.jP.later (h:jP B sb mu mp Fb fr fs rn w) (y:Below w.heap.size w w'):jP B sb mu mp Fb fr fs rn w':=by
 have:=h.more y [] (fun x I=>by simp at I);simpa using this
theorem D.jP.sub (h:jP B sb mu mp Fb fr fs rn w) {y:List Nat} (I:∀ x ∈ y,x ∈ fr):jP B sb mu mp Fb y fs rn w:=by
 obtain ⟨J,cf,Lf,U,cr,Lr,ou,bf,S,h1,h2⟩:=h;exact ⟨J,cf,Lf,U,cr,Lr,ou,bf,S,h1,fun x hx=>h2 x (I x hx)⟩
theorem D.jP.mono (h:jP B sb mu mp Fb fr fs rn w) {Fb':Nat→Prop} (I:∀ x,Fb x→x < w.heap.size→Fb' x):jP B sb mu mp Fb' fr fs rn w:=by
 obtain ⟨J,cf,Lf,U,cr,Lr,ou,bf,S,h1,h2⟩:=h;exact ⟨J,cf,Lf,U,cr,Lr,ou,bf,S,fun x y=>I x (h1 x y) (S.cF.row.lt ak x y),h2⟩
theorem D.jP.other (h:jP B sb mu mp Fb fr fs rn w) {c:Nat} (hc:c ∈ fr) (hb:¬ Fb c) (J:w.heap.size≤w'.heap.size) (I:∀ k,k < w.heap.size→k ≠ c→w'.heap[k]? = w.heap[k]?):jP B sb mu mp Fb fr fs rn w':=by
 obtain ⟨Af,cf,Lf,Ar,cr,Lr,ou,bf,S,h1,U⟩:=h;obtain ⟨l1,l2,l3,_⟩:=S.lo;have hz:=S.qE;obtain ⟨f,r,u,s⟩:=(U c hc).1
 refine ⟨Af,cf,Lf,Ar,cr,Lr,ou,bf,⟨(I sb (by omega) (by omega)).trans S.blk,S.ef,S.er,S.cF.nU ak (fun x y=>I x (bH S.cF.own y).2 (fun e=>f (e ▸ y))) (fun x y=>I x (S.cF.row.lt ak x y) (fun e=>hb (e ▸ h1 x y))),
  S.cR.nU ji (fun x y=>I x (bH S.cR.own y).2 (fun e=>r (e ▸ y))) (fun x y=>by simp at y),S.un.keep (I mu (by omega) (by omega)) (fun x y=>I x (S.ous x y).2 (fun e=>u (e ▸ y))),S.pl.same (I mp (by omega) (by omega)),S.dFR,S.dF,S.dR,S.bfs,S.lo,
  fun x y=>⟨(S.ous x y).1,κ (S.ous x y).2 J⟩,τ hz J⟩,h1,fun x y=>⟨(U x y).1,κ (U x y).2 J⟩⟩
theorem D.jP.view (h:jP B sb mu mp Fb fr fs rn w):∃ bs,kW sb fs rn bs w:=by
 obtain ⟨y,cf,Lf,I,J,U,ou,bf,S,h1,h2⟩:=h;obtain ⟨bs,g,_⟩:=S.view 0 (by omega);exact ⟨bs,g⟩
theorem D.jP.lt (h:jP B sb mu mp Fb fr fs rn w):B≤w.heap.size∧sb < B∧∀ x ∈ fr,x < w.heap.size:=by
 obtain ⟨J,cf,Lf,U,cr,Lr,ou,bf,S,h1,y⟩:=h;exact ⟨S.qE,S.lo.1,fun x I=>(y x I).2⟩
theorem XP (h:jP B sb mu mp Fb fr fs rn w) {a:A} {c1:Value} {ba:List Nat} (ha:aJ w [.string a.name,c1] a ba) (J:∀ x ∈ ba,x ∈ fr) (U:∀ x ∈ ba,Fb x) (a0:∀ f ∈ fs,aW f) (hok:aW a) (a1:a ∉ fs) (a2:fs.length≤1000000) (a3:rn.length≤1000000) (rd B0:Nat) (a4:B0≤sb∧B0≤mu∧B0≤mp∧B0≤B):
  Calls Tryz.prog 112 #[.pointer (some ⟨sb,0,none⟩),.agg #[.string a.name,c1],.int .i64 rd] w fun e w'=>e=.returned (.tuple #[])∧Below B0 w w'∧jP B sb mu mp Fb fr (fs ++ [a]) (rn ++ [rd]) w'∧∀ x ∈ fr,w'.heap[x]? = w.heap[x]?:=by
 obtain ⟨Af,cf,Lf,Ar,cr,Lr,ou,bf,S,h1,h2⟩:=h;refine (put_any B sb mu mp Af cf Lf fs bf Ar cr Lr rn (BL fs) ou a c1 ba fr rd w S ha J (fun x y=>(h2 x y).1) (fun x y=>(h2 x y).2) hok.ok (NW a0 hok a1) a2 a3 B0 a4).mono ?_;rintro e w' ⟨rfl,hb,a5,a6,a7,a8,a9,aa,ab,S',I⟩;refine ⟨rfl,hb,⟨a5,a6,a7,a8,a9,aa,ab,bf ++ ba,?_,fun x y=>(μ.1 y).elim (h1 x) (U x),fun x y=>⟨?_,κ (h2 x y).2 hb.size⟩⟩,fun x y=>(I x y).2⟩
 ·rw [IU,χ,χ]; exact S'
 ·have:=(I x y).1
  rw [χ,χ]; exact this
end
theorem D.JR.uh {xs:List A} {I:List Nat} {y w:World} (h:JR xs I y xs.length w) (J:∀ x ∈ I,x < y.heap.size):Below y.heap.size y w∧jP (y.heap.size+3) (y.heap.size+2) y.heap.size (y.heap.size+1) (fun x=>x ∈ I) [] xs (List.replicate xs.length 0) w:=by
 obtain ⟨h1,U,cf,Lf,Ar,cr,Lr,ou,bf,S,h2⟩:=h.all;exact ⟨h1,U,cf,Lf,Ar,cr,Lr,ou,bf,S,h2,fun x hx=>by simp at hx⟩
end
end Go.Proofs.YtkjinanbccloeaaGreatDoor
