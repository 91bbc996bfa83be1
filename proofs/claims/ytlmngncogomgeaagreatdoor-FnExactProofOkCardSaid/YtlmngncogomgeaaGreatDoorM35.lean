/- Of the proof of FnExactProofOk: EvalS. -/
import Derived.Test.YtlmngncogomgeaaGreatDoorM34
set_option linter.unusedVariables false
set_option maxHeartbeats 1000000
namespace Go.Proofs.YtlmngncogomgeaaGreatDoor
open Go.RowKit D
attribute [local go_sem ↓] Go.wp_at_zero Go.wp_at_succ
def D.gB (rs:List Ru) (xs:List A):Bool:=decide (eH rs=0) && (okB xs && decide (xs.length≤40)) && rE (aH rs) xs
def D.fH (rs:List Ru) (xs:List A):List A × Bool:=if gB rs xs then (if (iy rs xs).2 then ((iy rs xs).1.1,true) else ([],false)) else ([],false)
theorem Sm (rs:List Ru) (xs:List A) (v1 v2:Value) (b1 b2:List Nat) (w:World) (h:dD w [v1] rs b1) (h2:aQ w [v2] xs b2):
  Calls Tryz.prog 68 #[v1,v2] w fun e w'=>e=.returned (.bool (gB rs xs))∧Below w.heap.size w w':=by
 have c1:=CY rs v1 b1 w h;have C2:=η fun w' (J:Below w.heap.size w w')=>Rx xs v2 b2 40 w' (au.below h2 J) (by omega)
 have C3:=η fun w' (J:Below w.heap.size w w') (hn:(aH rs).length≤1000000)=>OU rs xs v1 v2 b1 b2 w' (aI.below h J) (au.below h2 J) hn
 have a2:(eH rs:Int)≤5:=by have:=Iq rs; omega
 clear h h2;by_cases U:eH rs=0
 ·have hn:(aH rs).length≤1000000:=by have h1:=(oP rs).1 U; have:=(kJ h1.ok).2; have:=h1.few; omega
  have C4:=η fun w' J=>C3.out w' J hn
  have HZ:Hid (gB rs xs=((okB xs && decide (xs.length≤40)) && rE (aH rs) xs)):=η (by unfold gB; rw [decide_eq_true U,Bool.true_and]);rw [U] at c1;clear U hn C3 a2;generalize rE (aH rs) xs=z at *
  go_enter Tryz.func68,Tryz.ntmps68
  go_wp2_with fail
  refine c1.mono ?_;rintro e w1 ⟨rfl,y⟩;clear c1
  go_wp2_with fail
  refine (C2.out _ y).mono ?_;rintro e w2 ⟨rfl,a0⟩;have B2:=y.trans (a0.mono y.size);clear C2 y a0;cases hx:(okB xs && decide (xs.length≤40))
  ·have I:Hid (gB rs xs=false):=η (by rw [HZ.out,hx]; rfl)
   clear HZ hx C4;go_wp2;go_ret;exact ⟨aA I.out.symm,B2⟩
  ·have I:Hid (gB rs xs=z):=η (by rw [HZ.out,hx]; rfl)
   clear HZ hx
   go_wp2_with fail
   refine (C4.out _ B2).mono ?_;rintro e w3 ⟨rfl,a1⟩;have B3:=B2.trans (a1.mono B2.size);clear C4 a1;go_wp2;go_ret;exact ⟨aA I.out.symm,B3⟩
 ·have I:Hid (gB rs xs=false):=η (by unfold gB; rw [decide_eq_false U]; rfl)
  have a3:¬ (eH rs:Int)=0:=by omega
  clear U C2 C3
  go_enter Tryz.func68,Tryz.ntmps68
  go_wp2_with fail
  refine c1.mono ?_;rintro e w1 ⟨rfl,y⟩;go_wp2;go_ret;exact ⟨aA I.out.symm,y⟩
theorem D.JG {a:A} (h:aZ a=true):a.args.length≤3:=by
 unfold aZ at h;simp only [ο,decide_eq_true_eq] at h;exact h.1.2
theorem D.Sr {r:Ru} (h:dS r=true):r.body.length≤4∧r.head.args.length≤1000∧∀ p ∈ r.body,p.atom.args.length≤1000:=by
 unfold dS nJ at h;simp only [ο,decide_eq_true_eq,ό] at h;exact ⟨h.1.1,τ (JG h.2) (by omega),fun p y=>τ (JG (h.1.2 p y)) (by omega)⟩
structure D.zN (rs:List Ru) (xs:List A):Prop where
 iF:iF xs=true
 n:xs.length≤40
 m:rs.length≤8
 ok:rs.all dS=true
 facts:∀ a ∈ xs,aW a=true
 fine:Fine rs
 fit:rE (aH rs) xs=true
theorem D.qB {rs:List Ru} {xs:List A} (h:gB rs xs=true):zN rs xs:=by
 unfold gB okB at h;simp only [ο,decide_eq_true_eq,ό] at h;have hf:=(oP rs).1 h.1.1;exact ⟨h.1.2.1.2,h.1.2.2,hf.few,hf.ok,h.1.2.1.1,hf,h.2⟩
theorem D.zN.rules {rs:List Ru} {xs:List A} (h:zN rs xs):∀ r ∈ rs,r.body.length≤4∧r.head.args.length≤1000∧∀ p ∈ r.body,p.atom.args.length≤1000:=fun r hr=>Sr (ό.1 h.ok r hr)
theorem D.zN.args {rs:List Ru} {xs:List A} (h:zN rs xs):∀ a ∈ xs,a.args.length≤1000:=fun a ha=>τ (N9 (h.facts a ha)) (by omega)
theorem eval_any (rs:List Ru) (xs:List A) (v1 v2:Value) (b1 b2:List Nat) (w:World) (h:dD w [v1] rs b1) (J:aQ w [v2] xs b2):
  Calls Tryz.prog 36 #[v1,v2] w fun e w'=>Below w.heap.size w w'∧∃ v bs,e=.returned (.tuple #[v,.bool (fH rs xs).2])∧aQ w' [v] (fH rs xs).1 bs:=by
 have c1:=Sm rs xs v1 v2 b1 b2 w h J;have HR:=η h;have HX:=η J;clear h J
 cases hok:gB rs xs with
 | false=>
  have I:Hid (fH rs xs=([],false)):=η (by unfold fH; rw [hok]; rfl);rw [hok] at c1;clear hok
  go_enter Tryz.func36,Tryz.ntmps36
  go_wp2_with fail
  refine c1.mono ?_;rintro e w1 ⟨rfl,y⟩;have a1:Below w.heap.size w (w1.alloc (.cells #[] 40)):=y.alloc y.size _;clear c1;go_wp2;go_ret2;exact ⟨a1,.slice (some ⟨w1.heap.size,0,none⟩) 0 0,[],(by rw [I.out]; try rfl),by rw [I.out]; exact qO⟩
 | true=>
  have U:=η (qB hok);rw [hok] at c1
  go_enter Tryz.func36,Tryz.ntmps36
  go_wp2_with fail
  refine c1.mono ?_;rintro e w1 ⟨rfl,y⟩;have q:=run_any rs xs v1 v2 b1 b2 w1 (aI.below HR.out y) (au.below HX.out y) U.out.iF (by have:=U.out.n; omega) U.out.m U.out.ok U.out.rules U.out.args;clear c1
  go_wp2_with fail
  refine q.mono ?_;rintro e w2 ⟨a0,e0,e1,a2,rfl,J⟩;have B2:=η (y.trans (a0.mono y.size));obtain ⟨A3,p3,bx,ox,cx,ba,bb,rfl,rfl,rfl,h3,-,-⟩:=mZ J;have H3:=η (au.below h3 ((Below.refl w2.heap.size w2).alloc ν (.cells #[.slice A3 (iy rs xs).1.1.length p3,.slice (some ⟨bx,ox,none⟩) (iy rs xs).1.2.length cx] 117)));have B3:=η (B2.out.alloc B2.out.size (.cells #[.slice A3 (iy rs xs).1.1.length p3,.slice (some ⟨bx,ox,none⟩) (iy rs xs).1.2.length cx] 117));clear q J h3 y a0
  cases hr:(iy rs xs).2 with
  | false=>
   have I:Hid (fH rs xs=([],false)):=η (by unfold fH; rw [hok,hr]; rfl);have B4:=η (B3.out.alloc B3.out.size (.cells #[] 40));clear hok hr;go_wp2;go_ret2;exact ⟨B4.out,.slice (some ⟨w2.heap.size+1,0,none⟩) 0 0,[],(by rw [I.out]; try rfl),by rw [I.out]; exact qO⟩
  | true=>
   have I:Hid (fH rs xs=((iy rs xs).1.1,true)):=η (by unfold fH; rw [hok,hr]; rfl);clear hok hr;go_wp2;go_ret2;exact ⟨B3.out,.slice A3 (iy rs xs).1.1.length p3,ba,(by rw [I.out]; try rfl),by rw [I.out]; exact H3.out⟩
end Go.Proofs.YtlmngncogomgeaaGreatDoor
