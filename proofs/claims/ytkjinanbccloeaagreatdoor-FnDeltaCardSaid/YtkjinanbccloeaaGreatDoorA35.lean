/- Of the proof of FnDelta: Fit, DrawGv, DoI, FlwP. -/
import Derived.Test.YtkjinanbccloeaaGreatDoorA20
import Derived.Test.YtkjinanbccloeaaGreatDoorA33
import Derived.Test.YtkjinanbccloeaaGreatDoorA34
set_option linter.unusedVariables false
set_option maxHeartbeats 2000000
set_option maxRecDepth 100000
namespace Go.Proofs.YtkjinanbccloeaaGreatDoor
section
open Go.RowKit D
attribute [local go_sem ↓] Go.wp_at_zero Go.wp_at_succ
theorem D.WR {y:List A} (h:kC y=true) (x:A):Rf y x=(!decide (x.name ∈ (dP y).1) || decide ((dP y).2.1 x.name=x.args.length)):=by
 obtain ⟨i1,_,i2,_⟩:=xX y;rw [Bool.eq_iff_iff];unfold Rf;simp only [List.all_eq_true,Bool.or_eq_true,Bool.not_eq_true',decide_eq_false_iff_not,decide_eq_true_eq];constructor
 ·intro hc
  by_cases hm:x.name ∈ (dP y).1
  ·obtain ⟨a,ha,e⟩:=(i1 _).1 hm
   have h1:=hc a ha;have I:=Kw h ha;rw [e] at I;unfold clash at h1;rw [decide_eq_true e,Bool.true_and,decide_eq_false_iff_not,Classical.not_not] at h1;exact .inr (by rw [I,h1])
  ·exact .inl hm
 ·intro hc a ha
  unfold clash;by_cases e:a.name=x.name
  ·have hm:x.name ∈ (dP y).1:=(i1 _).2 ⟨a,ha,e⟩
   have h1:=hc.resolve_left fun h=>h hm
   have I:=Kw h ha;rw [e,h1] at I;have:a.args.length=x.args.length:=by exact_mod_cast I.symm
   simp [this]
  ·simp [e]
theorem IC (a:A) (c0 c1:Value) (bs:List Nat) (w:World) (B n:Nat) (L:List ByteArray) (f:ByteArray→Int) (h:aJ w [c0,c1] a bs) (hM:iI B n L f w) (hf:∀ s ∈ L,0≤f s∧f s≤1000000):
  Calls Tryz.prog 70 #[.map (some B),.agg #[c0,c1]] w fun e w'=>e=.returned (.bool (!decide (a.name ∈ L) || decide (f a.name=a.args.length)))∧Below w.heap.size w w':=by
 obtain ⟨s,U,a0,ht⟩:=h;simp only [List.cons.injEq,and_true] at U;obtain ⟨rfl,rfl⟩:=U;obtain ⟨Ad,cap,rfl,hl,hm⟩:=aj ht;have a1:=aA (τ hl hm);obtain ⟨nm,args⟩:=a;dsimp only at *;have hA:Below w.heap.size w (w.alloc (.cells #[.string nm,.slice Ad args.length cap] 33)):=ζ;have HM:=η (hM.below hA hM.lt);have y:=η a0;clear hl hm ht hM a0;by_cases I:nm ∈ L
 ·have J:Hid (decide (nm ∈ L)=true):=η (decide_eq_true I)
  have hr:=hf nm I;obtain ⟨v,hv⟩:∃ v,f nm=v:=⟨_,rfl⟩;have HV:Hid ((if nm ∈ L then f nm else 0)=v):=η ((if_pos I).trans hv);rw [hv] at hr ⊢;clear hv hf I;by_cases he:v=args.length
  ·have HZ:Hid ((!decide (nm ∈ L) || decide (v=(args.length:Int)))=true):=η (by rw [J.out,decide_eq_true he]; rfl)
   subst he
   go_enter Tryz.func70,Tryz.ntmps70
   go_wp2_with (first | (at_lookup; refine dL _ rfl _ _ _ rfl Tryz.underlying116 _ _ _ _ rfl HM.out nm rfl y.out true J.out _ HV.out ?_) | go_in)
   go_ret;exact ⟨rfl,hA⟩
  ·have HZ:Hid ((!decide (nm ∈ L) || decide (v=(args.length:Int)))=false):=η (by rw [J.out,decide_eq_false he]; rfl)
   go_enter Tryz.func70,Tryz.ntmps70
   go_wp2_with (first | (at_lookup; refine dL _ rfl _ _ _ rfl Tryz.underlying116 _ _ _ _ rfl HM.out nm rfl y.out true J.out _ HV.out ?_) | go_in)
   go_ret;exact ⟨aG (by rw [HZ.out]; first | rfl | exact beq_eq_false_iff_ne.2 he),hA⟩
 ·have J:Hid (decide (nm ∈ L)=false):=η (decide_eq_false I)
  have HV:Hid ((if nm ∈ L then f nm else 0)=0):=η (if_neg I);have HZ:Hid ((!decide (nm ∈ L) || decide (f nm=(args.length:Int)))=true):=η (by rw [J.out]; rfl);clear hf I
  go_enter Tryz.func70,Tryz.ntmps70
  go_wp2_with (first | (at_lookup; refine dL _ rfl _ _ _ rfl Tryz.underlying116 _ _ _ _ rfl HM.out nm rfl y.out false J.out _ HV.out ?_) | go_in)
  go_ret;exact ⟨aG (by rw [HZ.out]),hA⟩
theorem EZ (rs:List Ru) (xs:List A) (v1 v2:Value) (b1 b2:List Nat) (w:World) (h:eu w [v1] rs b1) (h2:aB w [v2] xs b2) (hg:pO w):
  Calls Tryz.prog 19 #[v1,v2] w fun e w'=>e=.returned (.bool (jO rs xs))∧Below w.heap.size w w':=by
 have c1:=IB rs v1 b1 w h hg;have C2:=η fun w' (hb:Below w.heap.size w w')=>nX xs v2 b2 w' (ak.below h2 hb)
 have C3:=η fun w' (hb:Below w.heap.size w w') (hok:rs.all fC=true) (hf:rs.length≤8)=>DX rs v1 b1 w' (aQ.below h hb) hok hf
 obtain ⟨ag,cap2,rfl,a2,a3⟩:=aj h2;have am:=aA (τ a2 a3);clear h hg a2 a3;by_cases hp:fH rs=0
 ·have a4:=(qA rs).1 hp
  have HF:=η a4;have HZ:Hid (jO rs xs=(aU xs && rG (aI rs) xs)):=η (by unfold jO; rw [decide_eq_true hp,Bool.true_and]);rw [decide_eq_true hp] at c1;clear hp a4
  go_enter Tryz.func19,Tryz.ntmps19
  go_wp2_with fail
  refine c1.mono ?_;rintro e w1 ⟨rfl,I⟩;clear c1
  go_wp2_with fail
  refine (C2.out _ I).mono ?_;rintro e w2 ⟨rfl,a5⟩;have B2:=I.trans (a5.mono I.size);clear C2 I a5;cases hx:aU xs
  ·have a1:Hid (jO rs xs=false):=η (by rw [HZ.out,hx]; rfl)
   clear HZ hx C3;go_wp2;go_ret;exact ⟨aG a1.out.symm,B2⟩
  ·have a1:Hid (jO rs xs=rG (aI rs) xs):=η (by rw [HZ.out,hx,Bool.true_and])
   clear HZ hx
   go_wp2_with fail
   refine (C3.out _ B2 HF.out.ok HF.out.few).mono ?_;rintro e w3 ⟨rfl,n,hM,a6⟩;have B3:=B2.trans (a6.mono B2.size);have HM:=η hM;have aa:=η (Bj HF.out.ok HF.out.few (xs:=aI rs) fun a h=>h);have ab:=η (WR HF.out.alike);have af:w2.heap.size < w3.heap.size:=hM.lt;clear hM C3 a6;generalize aI rs=az at *;go_wp2
   go_loopw [24] (fun i wr=>∃ k:Nat,k≤xs.length∧i=.int .i64 k∧rG az (xs.take k)=true∧iI w2.heap.size n (dP az).1 (dP az).2.1 wr∧Below w.heap.size w wr) (fun i _=>xs.length - (intOf i).toNat)
   case atStart=>exact ⟨0,ε,rfl,rfl,HM.out,B3⟩
   case round=>
    clear HM;obtain ⟨k,hk,rfl,y,hM,hb⟩:=hrel;by_cases J:k < xs.length
    ·obtain ⟨b,o,Ae,ce,bk,rfl,_,d0,d1,a7,_⟩:=dU (ak.below h2 hb) J
     have ao:(0:Int)≤(k:Int):=by omega
     have ac:(k:Int) < (xs.length:Int):=by omega
     have hA:Below wr.heap.size wr (wr.alloc (.cells #[.string xs[k].name,.slice Ae xs[k].args.length ce] 33)):=ζ;have c4:=IC xs[k] _ _ bk _ _ n _ _ (au.below a7 hA) (hM.below hA hM.lt) aa.out;rw [← ab.out xs[k]] at c4;have HS:=η (LC az xs k J y);have U:=η (PI az xs k J);have HM:=η (hM.below hA hM.lt);have HB:=η (hb.trans (hA.mono hb.size));clear h2 a7 hA y hM hb;have a8:=η J;generalize xs[k]=x at *;clear J;obtain ⟨xn,xa⟩:=x;dsimp only at *
     go_wp2_with fail
     refine c4.mono ?_;rintro e w5 ⟨rfl,a9⟩;have B5:=HB.out.trans (a9.mono HB.out.size);have ae:=η (HM.out.below a9 HM.out.lt);clear c4 HM HB;cases hf:Rf az ⟨xn,xa⟩
     ·have a0:Hid (jO rs xs=false):=η (by rw [a1.out]; exact U.out hf)
      clear hf HS U;go_wp2;go_ret;exact ⟨aG a0.out.symm,B5⟩
     ·have a0:=η (HS.out.trans hf)
      clear hf HS U;go_wp2;go_roundw
      case rel=>exact ⟨k+1,a8.out,by go_num,a0.out,ae.out,B5⟩
      case measure=>have:=a8.out; simp [intOf]; omega
    ·have he:k=xs.length:=by omega
     have ac:¬ (k:Int) < (xs.length:Int):=by omega
     have a0:Hid (jO rs xs=true):=η (by rw [a1.out]; rw [he,ϕ ν] at y; exact y);clear he y hM h2;go_wp2;go_ret;exact ⟨aG a0.out.symm,hb⟩
 ·have HZ:Hid (jO rs xs=false):=η (by unfold jO; rw [decide_eq_false hp]; rfl)
  rw [decide_eq_false hp] at c1;clear hp C2 C3 h2
  go_enter Tryz.func19,Tryz.ntmps19
  go_wp2_with fail
  refine c1.mono ?_;rintro e w1 ⟨rfl,I⟩;go_wp2;go_ret;exact ⟨aG HZ.out.symm,I⟩
def WT (g p q:Nat) (w:World) (e:Ending) (w':World):Prop:=
 ∃ (rs:List Ru) (y:Option Addr) (c0:Nat) (b0:List Nat) (xs:List A) (I:Option Addr) (c1:Nat) (J:List Nat) (U:Nat),e=.returned (.tuple #[.slice y rs.length c0,.slice I xs.length c1])∧eu w' [.slice y rs.length c0] rs b0∧aB w' [.slice I xs.length c1] xs J∧
  (∀ b ∈ b0,w.heap.size≤b)∧(∀ b ∈ J,w.heap.size≤b)∧rs.length≤9∧(∀ r ∈ rs,SH r)∧xs.length≤50∧(∀ a ∈ xs,a.args.length≤4)∧kJ g U w'∧U≤p+q∧aH [g] w w'
theorem D.PO {g p p1 p2 q1 q2:Nat} {w w1 w2 U:World} {rs:List Ru} {v:Value} {xs:List A} {v2:Value} {b1:List Nat} (hk:aH [g] w w1) (hg:g < w.heap.size) (h1:rs.length≤9) (h2:p1≤p+q1) (hI:gQ g p1 w1 rs v w2) (hR:kJ g p2 U) (hK:aH [g] w2 U) (h3:p2≤p1+q2)
  (I:aB U [v2] xs b1) (J:∀ b ∈ b1,w2.heap.size≤b) (hx:xs.length≤50) (hs:∀ a ∈ xs,a.args.length≤4):WT g p (q1+q2) w (.returned (.tuple #[v,v2])) U:=by
 have y:=hI.call hR hK;obtain ⟨A0,c0,rfl⟩:=y.shape;obtain ⟨b0,hr,a0⟩:=y.rules;obtain ⟨A1,c1,rfl,_,_⟩:=aj I;exact ⟨rs,A0,c0,b0,xs,A1,c1,b1,p2,rfl,hr,I,fun b hb=>τ hk.size (a0 b hb),fun b hb=>τ (τ hk.size hI.kept.size) (J b hb),h1,hI.small,hx,hs,hR,by omega,hk.trans y.kept⟩
theorem IE (g p:Nat) (w:World) (h:kJ g p w) (hp:p≤200000):
  Calls Tryz.prog 52 #[.pointer (some ⟨g,0,none⟩)] w (WT g p 400 w):=by
 have a4:=pick_any g p 6 w h (by omega) (by omega) (by omega);have HL:=η h.lt;have HP:=η hp;clear h hp
 go_enter Tryz.func52,Tryz.ntmps52
 go_wp2_with fail
 refine a4.mono ?_;rintro e w1 ⟨k,rfl,a8,J,a5⟩;have a9:Hid (aH [g] w w1):=η (aH.dA a5);obtain ⟨p1,a6⟩:∃ p1,p1=p+1:=⟨_,rfl⟩;have a1:Hid (p1≤p+1):=η (by omega);rw [← a6] at J;by_cases hk:k=0
 ·have hd:=Cb g p1 w1 J (by have:=HP.out; omega)
  subst hk;clear a4 J a5 a6 a8
  go_wp2_with fail
  refine hd.mono ?_;rintro e w2 ⟨rs,v,p2,rfl,hx,hq,hI⟩;have U:=sF g p2 w2 hI.rdr (by have:=HP.out; have:=a1.out; omega);have HI:=η (ι hI (ι hx hq));obtain ⟨A0,c0,rfl⟩:=hI.shape;clear hd hx hq hI
  go_wp2_with fail
  refine U.mono ?_;rintro e w3 ⟨xs,v2,b1,p3,rfl,⟨I,y⟩,a2,a0,aa,a7,ab⟩;have HZ:Hid (WT g p 400 w (.returned (.tuple #[.slice A0 rs.length c0,v2])) w3):=η (PO (q1:=160) (q2:=240) a9.out HL.out HI.out.2.1 (by have:=HI.out.2.2; have:=a1.out; omega) HI.out.1 aa ab (by omega) I y a2 a0);obtain ⟨A1,c1,rfl,_,_⟩:=aj I;clear U I y a2 a0 aa a7 ab;go_wp2;go_ret2;exact HZ.out
 ·have ac:¬ ((k:Int)=0):=by omega
  have hd:=yO g p1 w1 J (by have:=HP.out; omega);clear a4 J a5 a6 a8 hk
  go_wp2_with fail
  refine hd.mono ?_;rintro e w2 ⟨rs,v,p2,rfl,hx,hq,hI⟩;have U:=nY g p2 10 w2 hI.rdr (by have:=HP.out; have:=a1.out; omega) (by omega) (by omega);have HI:=η (ι hI (ι hx hq));obtain ⟨A0,c0,rfl⟩:=hI.shape;clear hd hx hq hI
  go_wp2_with fail
  refine U.mono ?_;rintro e w3 ⟨xs,v2,p3,rfl,_,a2,a0,a7,a3⟩;obtain ⟨b1,I,y⟩:=a3.atoms;have HZ:Hid (WT g p 400 w (.returned (.tuple #[.slice A0 rs.length c0,v2])) w3):=η (PO (q1:=160) (q2:=240) a9.out HL.out (τ HI.out.2.1 (by omega)) (by have:=HI.out.2.2; have:=a1.out; omega) HI.out.1 a3.rdr a3.kept (by omega) I y (by omega) (fun a ha=>τ (a0 a ha) (by omega)));obtain ⟨A1,c1,rfl,_,_⟩:=aj I;clear U I y a2 a0 a7 a3;go_wp2;go_ret2;exact HZ.out
theorem vU (xs:List A) (c:Ch) (v c0 c1:Value) (bs b2:List Nat) (w:World) (h:aB w [v] xs bs) (h2:fQ w [c0,c1] c b2):
  Calls Tryz.prog 32 #[v,.agg #[c0,c1]] w (Makes aB (SG xs c) w.heap.size w):=by
 obtain ⟨Ad,cap,rfl,hl,hm⟩:=aj h;obtain ⟨Ac,J,Ag,U,rfl,rfl⟩:=gy h2;have hA:Below w.heap.size w (w.alloc (.cells #[.slice Ac c.comes.length J,.slice Ag c.goes.length U] 54)):=ζ;have k1:=nX xs _ bs _ (ak.below h hA);have k2:=fun w' (hb:Below w.heap.size w w')=>qg c _ _ b2 w' (dS.below h2 hb)
 have k3:=fun (hf:aU xs=true) (hg:dX c=true) w' (hb:Below w.heap.size w w')=>(yE hf hg) ▸ BI xs c _ _ _ bs b2 w' (ak.below h hb) (dS.below h2 hb) (τ (gZ hf) (by omega)) (τ (gZ (iR hg).1) (by omega)) (τ (gZ (iR hg).2) (by omega))
 have k4:=fun (hf:aU xs=true) (hg:dX c=true) v' bs' w' (U':List A) (hU:U'=if (behind xs c).length≤300 then behind xs c else []) (h':aB w' [v'] U' bs')=>mX U' v' bs' w' h' (by rw [hU]; split; omega; simp) (by
  intro x hx;rw [hU] at hx
  split at hx
  ·exact (D8 (jQ hf) (jQ (iR hg).1)).2 x hx
  ·simp at hx)
 have HG:Hid (SG xs c=if (aU xs && dX c)=true then (if (behind xs c).length≤300 then behind xs c else []) else []):=η rfl;generalize SG xs c=G at *;generalize aU xs=x at *;generalize dX c=y at *;clear h h2 hl hm
 go_enter Tryz.func32,Tryz.ntmps32
 go_wp2_with fail
 refine k1.mono ?_;rintro e w1 ⟨rfl,a0⟩;have B1:=hA.trans (a0.mono hA.size);have x0:w1.cell? ⟨w.heap.size,0,none⟩=some (.slice Ac c.comes.length J):=ξ a0 (by go_simp);have x1:w1.cell? ⟨w.heap.size,1,none⟩=some (.slice Ag c.goes.length U):=ξ a0 (by go_simp);clear k1 hA;cases x
 ·have I:Hid (G = []):=η (by rw [HG.out]; rfl)
  clear k2 k3 k4 HG;go_wp2;go_ret;exact ⟨B1,_,[],rfl,by rw [I.out]; exact bQ _,New.nil _ _⟩
 ·have a1:=k3 rfl
  have a2:=k4 rfl;clear k3 k4
  go_wp2_with fail
  refine (k2 _ B1).mono ?_;rintro e w2 ⟨rfl,a3⟩;have B2:=B1.trans (a3.mono B1.size);replace x0:=ξ a3 x0;replace x1:=ξ a3 x1;clear k2;cases y
  ·have I:Hid (G = []):=η (by rw [HG.out]; rfl)
   clear a1 a2 HG;go_wp2;go_ret;exact ⟨B2,_,[],rfl,by rw [I.out]; exact bQ _,New.nil _ _⟩
  ·have a6:=a1 rfl
   have a7:=a2 rfl;have I:Hid (G=if (behind xs c).length≤300 then behind xs c else []):=η (by rw [HG.out]; rfl);clear a1 a2 HG
   go_wp2_with fail
   refine (a6 _ B2).mono ?_;rintro e w3 ⟨aa,v3,b3,U',hU,rfl,a4⟩;have B3:=B2.trans (aa.mono B2.size);have k5:=a7 _ _ _ _ hU a4;have HU:=η hU;clear hU;obtain ⟨A3,p3,rfl,_,_⟩:=aj a4;generalize decide ((behind xs c).length≤300)=z at *;clear a6 a7 a4
   go_wp2_with fail
   refine k5.mono ?_;rintro e w4 ⟨ab,v4,b4,rfl,a5,a8⟩;have a9:=η (ι a5 a8);obtain ⟨A4,p4,rfl,_,_⟩:=aj a5;clear k5 a5 a8;go_wp2;go_ret;exact ⟨B3.trans (ab.mono B3.size),_,b4,rfl,by rw [I.out,← HU.out]; exact a9.out.1,a9.out.2.mono B3.size⟩
end
section
open Go.RowKit D
def D.vJ (fs ps y:List A) (b:Bd) (left:Nat) (σ:Wo):Prop:=SE b σ∧(∀ j (h:j < ps.length),left.testBit j=true→ig σ ps[j] ∈ fs)∧∀ n ∈ y,ig σ n ∉ fs
def D.uF (b:Bd):Prop:=∀ p ∈ b,iW p.2=true
theorem D.uG {s:ByteArray} (h:iW s=true):s ≠ ⟨#[]⟩:=by
 rintro rfl;revert h
 decide
theorem D.rQ:∀ (y fs:List T) (b:Bd),∃ c,(cZ y fs b).1=b ++ c
 | [],fs,b=>by cases fs <;> exact ⟨[],by simp [cZ]⟩
 | t :: y,[],b=>⟨[],by simp [cZ]⟩
 | t :: y,f :: fs,b=>by
  rw [cZ]
  split
  ·split
   ·split
    ·exact rQ y fs b
    ·exact ⟨[],by simp⟩
   ·obtain ⟨c,hc⟩:=rQ y fs (b ++ [(t.name,f.name)])
    exact ⟨(t.name,f.name) :: c,by rw [hc]; simp⟩
  ·split
   ·exact rQ y fs b
   ·exact ⟨[],by simp⟩
theorem D.xg (a f:A) (b:Bd):(aF a f b).1.take b.length=b:=by
 unfold aF
 split
 ·obtain ⟨c,hc⟩:=rQ a.args f.args b
  rw [hc]; simp
 ·simp
theorem D.vV (a f:A) (b:Bd):b.length≤(aF a f b).1.length:=by
 have:=congrArg List.length (xg a f b);simp at this;omega
theorem D.rU:∀ (I fs:List T) (b:Bd),uF b→(∀ f ∈ fs,iW f.name=true)→uF (cZ I fs b).1
 | [],fs,b,h,_=>by cases fs <;> simpa [cZ] using h
 | t :: I,[],b,h,_=>by simpa [cZ] using h
 | t :: I,f :: fs,b,h,hf=>by
  have y:∀ g ∈ fs,iW g.name=true:=fun g U=>hf g (Δ _ U)
  rw [cZ]
  split
  ·split
   ·split
    ·exact rU I fs b h y
    ·exact h
   ·refine rU I fs _ (fun p J=>?_) y
    rcases μ.1 J with J | J
    ·exact h p J
    ·rw [List.mem_singleton.1 J]; exact hf f Γ
  ·split
   ·exact rU I fs b h y
   ·exact h
theorem D.Et {a f:A} {b:Bd} (h:uF b) (hf:∀ t ∈ f.args,iW t.name=true):uF (aF a f b).1:=by
 unfold aF
 split
 ·exact rU _ _ _ h hf
 ·exact h
structure D.aW (f:A):Prop where
 ok:aZ f=true
 gr:Gr f
theorem D.aW.names {f:A} (h:aW f):∀ t ∈ f.args,t.var=false∧iW t.name=true:=fun t y=>by
 have h0:=h.ok;unfold aZ at h0;simp only [ο,decide_eq_true_eq,List.all_eq_true] at h0;have h1:=h0.2 t y;have I:=h.gr t y;unfold jl at h1;rw [I] at h1;exact ⟨I,by simpa using h1⟩
theorem D.vw {a:A} (ha:aZ a=true) {b:Bd} (J:uF b) (hc:yh b a.args):aW (cu a b):=by
 have h0:=ha;unfold aZ at h0;simp only [ο,decide_eq_true_eq,List.all_eq_true] at h0;refine ⟨?_,rD (jv b) a⟩;unfold aZ cu;simp only [ο,decide_eq_true_eq,List.all_eq_true,List.length_map];refine ⟨h0.1,fun t U=>?_⟩;obtain ⟨u,y,rfl⟩:=List.mem_map.1 U;have h1:=h0.2 u y;unfold jl at *;unfold dK;cases hv:u.var
 ·simpa [hv] using h1
 ·obtain ⟨v,I⟩:=Option.isSome_iff_exists.1 (hc u y hv)
  simp only [if_true,jv,I,Option.getD_some];exact J _ (yD I)
theorem D.yQ {fs:List A} (hf:∀ f ∈ fs,aW f) {a:A} (ha:aW a):decide (eH a ∈ fs.map eH)=true ↔ a ∈ fs:=by
 rw [decide_eq_true_eq,List.mem_map];constructor
 ·rintro ⟨f,h1,y⟩
  rw [← zK (hf f h1).ok ha.ok y]; exact h1
 ·exact fun h=>⟨a,h,rfl⟩
theorem D.IG {vars:List ByteArray} (hv:jU vars) {b:Bd} (hb:jT vars b) {ts:List T} (hin:∀ t ∈ ts,t.var=true→t.name ∈ vars):
  yh b ts ↔ ∀ i,i < 12→gJ vars ts i=true→IV vars b i ≠ ⟨#[]⟩:=by
 constructor
 ·intro hc i _ hw
  unfold gJ at hw;obtain ⟨t,y,h2⟩:=List.any_eq_true.1 hw;simp only [ο,beq_iff_eq] at h2;obtain ⟨h3,rfl⟩:=h2;have I:=List.idxOf_lt_length_of_mem (hin t y h3);obtain ⟨v,U⟩:=Option.isSome_iff_exists.1 (hc t y h3);unfold IV;rw [dif_pos I];have e:vars[vars.idxOf t.name]=t.name:=List.getElem_idxOf I;rw [e];intro e2;rw [(hb.qF _).1 e2] at U;cases U
 ·intro h t y J
  have hm:=hin t y J;have I:=List.idxOf_lt_length_of_mem hm;have a0:=hv.few;have h1:=h (vars.idxOf t.name) (by omega) (List.any_eq_true.2 ⟨t,y,by simp [J]⟩);unfold IV at h1;rw [dif_pos I] at h1;have e:vars[vars.idxOf t.name]=t.name:=List.getElem_idxOf I;rw [e] at h1
  cases U:gq b t.name with
  | some v=>rfl
  | none=>exact absurd ((hb.qF _).2 U) h1
def D.MI (vars:List ByteArray) (head:A) (y:List A) (i:Nat):Bool:=gJ vars head.args i || y.any fun n=>gJ vars n.args i
theorem D.uH {vars:List ByteArray} (hv:jU vars) {b:Bd} (hb:jT vars b) {head:A} {ns:List A} {wt:Nat→Bool} (J:∀ i,i < 12→wt i=MI vars head ns i) (hh:∀ t ∈ head.args,t.var=true→t.name ∈ vars) (hn:∀ n ∈ ns,∀ t ∈ n.args,t.var=true→t.name ∈ vars):
  setB vars b wt=true ↔ yh b head.args∧∀ n ∈ ns,yh b n.args:=by
 rw [Eg,IG hv hb hh];constructor
 ·intro h
  refine ⟨fun i I U=>h i I (by rw [J i I]; unfold MI; rw [U]; rfl),fun n y=>(IG hv hb (hn n y)).2 fun i I U=>h i I (by rw [J i I]; unfold MI; rw [List.any_eq_true.2 ⟨n,y,U⟩]; simp)⟩
 ·rintro ⟨h1,h2⟩ i I U
  rw [J i I] at U;unfold MI at U
  rcases Bool.or_eq_true_iff.1 U with h | h
  ·exact h1 i I h
  ·obtain ⟨n,y,h3⟩:=List.any_eq_true.1 h
   exact (IG hv hb (hn n y)).1 (h2 n y) i I h3
theorem D.GH (l i:Nat) (y:l < 16) (I:i < 4) (h:l.testBit i=true):bits .andNot .i64 (l:Int) (wrap64 (2 ^ i))=((l - 2 ^ i:Nat):Int):=by
 have H:∀ l:Nat,l < 16→∀ i:Nat,i < 4→l.testBit i=true→bits .andNot .i64 (l:Int) (wrap64 (2 ^ i))=((l - 2 ^ i:Nat):Int):=by decide +kernel
 exact H l y i I h
theorem D.yR (l i j:Nat) (y:l < 16) (I:i < 4) (J:j < 4) (h:l.testBit i=true):(l - 2 ^ i).testBit j=(l.testBit j && decide (j ≠ i)):=by
 have H:∀ l:Nat,l < 16→∀ i:Nat,i < 4→∀ j:Nat,j < 4→l.testBit i=true→(l - 2 ^ i).testBit j=(l.testBit j && decide (j ≠ i)):=by decide +kernel
 exact H l y i I j J h
theorem D.PS (l i:Nat) (y:l < 16) (I:i < 4) (h:l.testBit i=true):l - 2 ^ i < l:=by
 have H:∀ l:Nat,l < 16→∀ i:Nat,i < 4→l.testBit i=true→l - 2 ^ i < l:=by decide +kernel
 exact H l y i I h
theorem D.U6 (l n:Nat) (y:l < 2 ^ n) (hn:n≤4) (h:l ≠ 0):∃ j,j < n∧l.testBit j=true:=by
 have H:∀ n:Nat,n < 5→∀ l:Nat,l < 2 ^ n→l ≠ 0→∃ j,j < n∧l.testBit j=true:=by decide +kernel
 exact H n (by omega) l y h
theorem D.vJ.step {fs ps I:List A} {b:Bd} {left m:Nat} {σ:Wo} {f:A} (J:left < 16) (U:ps.length≤4) (hm:m < ps.length) (y:left.testBit m=true) (h:vJ fs ps I b left σ) (he:ig σ ps[m]=f):
  (aF ps[m] f b).2=true∧vJ fs ps I (aF ps[m] f b).1 (left - 2 ^ m) σ:=by
 obtain ⟨h1,h2,h3⟩:=h;obtain ⟨g1,g2⟩:=nU h1 he;refine ⟨g1,g2,fun j hj hb=>h2 j hj ?_,h3⟩;rw [yR left m j J (by omega) (by omega) y] at hb;exact (Bool.and_eq_true_iff.1 hb).1
theorem D.vJ.back {fs ps U:List A} {b:Bd} {left m:Nat} {σ:Wo} {f:A} (hl:left < 16) (a0:ps.length≤4) (hm:m < ps.length) (y:left.testBit m=true) (hf:f ∈ fs) (I:Gr f) (J:(aF ps[m] f b).2=true) (h:vJ fs ps U (aF ps[m] f b).1 (left - 2 ^ m) σ):
  vJ fs ps U b left σ:=by
 obtain ⟨h1,h2,h3⟩:=h;obtain ⟨g1,g2⟩:=nD I J;refine ⟨h1.of_le (oD _ _ _),fun j hj hb=>?_,h3⟩;by_cases e:j=m
 ·subst e
  rw [← kK g1 h1,g2]; exact hf
 ·refine h2 j hj ?_
  rw [yR left m j hl (by omega) (by omega) y,hb];simpa using e
end
end Go.Proofs.YtkjinanbccloeaaGreatDoor
