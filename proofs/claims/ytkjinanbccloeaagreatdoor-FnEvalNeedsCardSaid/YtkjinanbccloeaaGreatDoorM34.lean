/- Of the proof of FnEvalNeeds: Fit, DrawGv, AscI, FlwP, NamV. -/
import Derived.Test.YtkjinanbccloeaaGreatDoorM21
import Derived.Test.YtkjinanbccloeaaGreatDoorM33
import Derived.Test.YtkjinanbccloeaaGreatDoorM30
set_option linter.unusedVariables false
set_option maxHeartbeats 2000000
set_option maxRecDepth 100000
namespace Go.Proofs.YtkjinanbccloeaaGreatDoor
section
open Go.RowKit D
attribute [local go_sem ↓] Go.wp_at_zero Go.wp_at_succ
theorem D.UX {y:List A} (h:jy y=true) (x:A):O4 y x=(!decide (x.name ∈ (bZ y).1) || decide ((bZ y).2.1 x.name=x.args.length)):=by
 obtain ⟨i1,_,i2,_⟩:=ny y;rw [Bool.eq_iff_iff];unfold O4;simp only [List.all_eq_true,Bool.or_eq_true,Bool.not_eq_true',decide_eq_false_iff_not,decide_eq_true_eq];constructor
 ·intro hc
  by_cases hm:x.name ∈ (bZ y).1
  ·obtain ⟨a,ha,e⟩:=(i1 _).1 hm
   have h1:=hc a ha;have I:=I8 h ha;rw [e] at I;unfold clash at h1;rw [decide_eq_true e,Bool.true_and,decide_eq_false_iff_not,Classical.not_not] at h1;exact .inr (by rw [I,h1])
  ·exact .inl hm
 ·intro hc a ha
  unfold clash;by_cases e:a.name=x.name
  ·have hm:x.name ∈ (bZ y).1:=(i1 _).2 ⟨a,ha,e⟩
   have h1:=hc.resolve_left fun h=>h hm
   have I:=I8 h ha;rw [e,h1] at I;have:a.args.length=x.args.length:=by exact_mod_cast I.symm
   simp [this]
  ·simp [e]
theorem GN (a:A) (c0 c1:Value) (bs:List Nat) (w:World) (B n:Nat) (L:List ByteArray) (f:ByteArray→Int) (h:aI w [c0,c1] a bs) (hM:eU B n L f w) (hf:∀ s ∈ L,0≤f s∧f s≤1000000):
  Calls Tryz.prog 70 #[.map (some B),.agg #[c0,c1]] w fun e w'=>e=.returned (.bool (!decide (a.name ∈ L) || decide (f a.name=a.args.length)))∧Below w.heap.size w w':=by
 obtain ⟨s,U,a0,ht⟩:=h;simp only [List.cons.injEq,and_true] at U;obtain ⟨rfl,rfl⟩:=U;obtain ⟨Ad,cap,rfl,hl,hm⟩:=ak ht;have a1:=aA (τ hl hm);obtain ⟨nm,args⟩:=a;dsimp only at *;have hA:Below w.heap.size w (w.alloc (.cells #[.string nm,.slice Ad args.length cap] 33)):=ζ;have HM:=η (hM.below hA hM.lt);have y:=η a0;clear hl hm ht hM a0;by_cases I:nm ∈ L
 ·have J:Hid (decide (nm ∈ L)=true):=η (decide_eq_true I)
  have hr:=hf nm I;obtain ⟨v,hv⟩:∃ v,f nm=v:=⟨_,rfl⟩;have HV:Hid ((if nm ∈ L then f nm else 0)=v):=η ((if_pos I).trans hv);rw [hv] at hr ⊢;clear hv hf I;by_cases he:v=args.length
  ·have HZ:Hid ((!decide (nm ∈ L) || decide (v=(args.length:Int)))=true):=η (by rw [J.out,decide_eq_true he]; rfl)
   subst he
   go_enter Tryz.func70,Tryz.ntmps70
   go_wp2_with (first | (at_lookup; refine bQ _ rfl _ _ _ rfl Tryz.underlying116 _ _ _ _ rfl HM.out nm rfl y.out true J.out _ HV.out ?_) | go_in)
   go_ret;exact ⟨rfl,hA⟩
  ·have HZ:Hid ((!decide (nm ∈ L) || decide (v=(args.length:Int)))=false):=η (by rw [J.out,decide_eq_false he]; rfl)
   go_enter Tryz.func70,Tryz.ntmps70
   go_wp2_with (first | (at_lookup; refine bQ _ rfl _ _ _ rfl Tryz.underlying116 _ _ _ _ rfl HM.out nm rfl y.out true J.out _ HV.out ?_) | go_in)
   go_ret;exact ⟨aH (by rw [HZ.out]; first | rfl | exact beq_eq_false_iff_ne.2 he),hA⟩
 ·have J:Hid (decide (nm ∈ L)=false):=η (decide_eq_false I)
  have HV:Hid ((if nm ∈ L then f nm else 0)=0):=η (if_neg I);have HZ:Hid ((!decide (nm ∈ L) || decide (f nm=(args.length:Int)))=true):=η (by rw [J.out]; rfl);clear hf I
  go_enter Tryz.func70,Tryz.ntmps70
  go_wp2_with (first | (at_lookup; refine bQ _ rfl _ _ _ rfl Tryz.underlying116 _ _ _ _ rfl HM.out nm rfl y.out false J.out _ HV.out ?_) | go_in)
  go_ret;exact ⟨aH (by rw [HZ.out]),hA⟩
theorem Ed (rs:List Ru) (xs:List A) (v1 v2:Value) (b1 b2:List Nat) (w:World) (h:dI w [v1] rs b1) (h2:aV w [v2] xs b2) (hg:lY w):
  Calls Tryz.prog 19 #[v1,v2] w fun e w'=>e=.returned (.bool (jg rs xs))∧Below w.heap.size w w':=by
 have c1:=qo rs v1 b1 w h hg;have C2:=η fun w' (hb:Below w.heap.size w w')=>GK xs v2 b2 w' (au.below h2 hb)
 have C3:=η fun w' (hb:Below w.heap.size w w') (hok:rs.all dM=true) (hf:rs.length≤8)=>qf rs v1 b1 w' (bG.below h hb) hok hf
 obtain ⟨ag,cap2,rfl,a2,a3⟩:=ak h2;have am:=aA (τ a2 a3);clear h hg a2 a3;by_cases hp:dJ rs=0
 ·have a4:=(lG rs).1 hp
  have HF:=η a4;have HZ:Hid (jg rs xs=(kH xs && qh (aB rs) xs)):=η (by unfold jg; rw [decide_eq_true hp,Bool.true_and]);rw [decide_eq_true hp] at c1;clear hp a4
  go_enter Tryz.func19,Tryz.ntmps19
  go_wp2_with fail
  refine c1.mono ?_;rintro e w1 ⟨rfl,I⟩;clear c1
  go_wp2_with fail
  refine (C2.out _ I).mono ?_;rintro e w2 ⟨rfl,a5⟩;have B2:=I.trans (a5.mono I.size);clear C2 I a5;cases hx:kH xs
  ·have a1:Hid (jg rs xs=false):=η (by rw [HZ.out,hx]; rfl)
   clear HZ hx C3;go_wp2;go_ret;exact ⟨aH a1.out.symm,B2⟩
  ·have a1:Hid (jg rs xs=qh (aB rs) xs):=η (by rw [HZ.out,hx,Bool.true_and])
   clear HZ hx
   go_wp2_with fail
   refine (C3.out _ B2 HF.out.ok HF.out.few).mono ?_;rintro e w3 ⟨rfl,n,hM,a6⟩;have B3:=B2.trans (a6.mono B2.size);have HM:=η hM;have aa:=η (yX HF.out.ok HF.out.few (xs:=aB rs) fun a h=>h);have ab:=η (UX HF.out.alike);have af:w2.heap.size < w3.heap.size:=hM.lt;clear hM C3 a6;generalize aB rs=az at *;go_wp2
   go_loopw [24] (fun i wr=>∃ k:Nat,k≤xs.length∧i=.int .i64 k∧qh az (xs.take k)=true∧eU w2.heap.size n (bZ az).1 (bZ az).2.1 wr∧Below w.heap.size w wr) (fun i _=>xs.length - (intOf i).toNat)
   case atStart=>exact ⟨0,ε,rfl,rfl,HM.out,B3⟩
   case round=>
    clear HM;obtain ⟨k,hk,rfl,y,hM,hb⟩:=hrel;by_cases J:k < xs.length
    ·obtain ⟨b,o,Ae,ce,bk,rfl,_,d0,d1,a7,_⟩:=dY (au.below h2 hb) J
     have ao:(0:Int)≤(k:Int):=by omega
     have ac:(k:Int) < (xs.length:Int):=by omega
     have hA:Below wr.heap.size wr (wr.alloc (.cells #[.string xs[k].name,.slice Ae xs[k].args.length ce] 33)):=ζ;have c4:=GN xs[k] _ _ bk _ _ n _ _ (aj.below a7 hA) (hM.below hA hM.lt) aa.out;rw [← ab.out xs[k]] at c4;have HS:=η (Jz az xs k J y);have U:=η (NK az xs k J);have HM:=η (hM.below hA hM.lt);have HB:=η (hb.trans (hA.mono hb.size));clear h2 a7 hA y hM hb;have a8:=η J;generalize xs[k]=x at *;clear J;obtain ⟨xn,xa⟩:=x;dsimp only at *
     go_wp2_with fail
     refine c4.mono ?_;rintro e w5 ⟨rfl,a9⟩;have B5:=HB.out.trans (a9.mono HB.out.size);have ae:=η (HM.out.below a9 HM.out.lt);clear c4 HM HB;cases hf:O4 az ⟨xn,xa⟩
     ·have a0:Hid (jg rs xs=false):=η (by rw [a1.out]; exact U.out hf)
      clear hf HS U;go_wp2;go_ret;exact ⟨aH a0.out.symm,B5⟩
     ·have a0:=η (HS.out.trans hf)
      clear hf HS U;go_wp2;go_roundw
      case rel=>exact ⟨k+1,a8.out,by go_num,a0.out,ae.out,B5⟩
      case measure=>have:=a8.out; simp [intOf]; omega
    ·have he:k=xs.length:=by omega
     have ac:¬ (k:Int) < (xs.length:Int):=by omega
     have a0:Hid (jg rs xs=true):=η (by rw [a1.out]; rw [he,ϕ ν] at y; exact y);clear he y hM h2;go_wp2;go_ret;exact ⟨aH a0.out.symm,hb⟩
 ·have HZ:Hid (jg rs xs=false):=η (by unfold jg; rw [decide_eq_false hp]; rfl)
  rw [decide_eq_false hp] at c1;clear hp C2 C3 h2
  go_enter Tryz.func19,Tryz.ntmps19
  go_wp2_with fail
  refine c1.mono ?_;rintro e w1 ⟨rfl,I⟩;go_wp2;go_ret;exact ⟨aH HZ.out.symm,I⟩
def UY (g p q:Nat) (w:World) (e:Ending) (w':World):Prop:=
 ∃ (rs:List Ru) (y:Option Addr) (I:Nat) (b0:List Nat) (xs:List A) (J:Option Addr) (c1:Nat) (U:List Nat) (p':Nat),e=.returned (.tuple #[.slice y rs.length I,.slice J xs.length c1])∧dI w' [.slice y rs.length I] rs b0∧aV w' [.slice J xs.length c1] xs U∧
  (∀ b ∈ b0,w.heap.size≤b)∧(∀ b ∈ U,w.heap.size≤b)∧rs.length≤9∧(∀ r ∈ rs,Qc r)∧xs.length≤50∧(∀ a ∈ xs,a.args.length≤4)∧kC g p' w'∧p'≤p+q∧aG [g] w w'
theorem D.NQ {g p p1 p2 q1 q2:Nat} {w w1 w2 U:World} {rs:List Ru} {v:Value} {xs:List A} {v2:Value} {b1:List Nat} (hk:aG [g] w w1) (hg:g < w.heap.size) (h1:rs.length≤9) (h2:p1≤p+q1) (hI:fH g p1 w1 rs v w2) (hR:kC g p2 U) (hK:aG [g] w2 U) (h3:p2≤p1+q2)
  (I:aV U [v2] xs b1) (J:∀ b ∈ b1,w2.heap.size≤b) (hx:xs.length≤50) (hs:∀ a ∈ xs,a.args.length≤4):UY g p (q1+q2) w (.returned (.tuple #[v,v2])) U:=by
 have y:=hI.call hR hK;obtain ⟨A0,c0,rfl⟩:=y.shape;obtain ⟨b0,hr,a0⟩:=y.rules;obtain ⟨A1,c1,rfl,_,_⟩:=ak I;exact ⟨rs,A0,c0,b0,xs,A1,c1,b1,p2,rfl,hr,I,fun b hb=>τ hk.size (a0 b hb),fun b hb=>τ (τ hk.size hI.kept.size) (J b hb),h1,hI.small,hx,hs,hR,by omega,hk.trans y.kept⟩
theorem GR (g p:Nat) (w:World) (h:kC g p w) (hp:p≤200000):
  Calls Tryz.prog 52 #[.pointer (some ⟨g,0,none⟩)] w (UY g p 400 w):=by
 have a4:=pick_any g p 6 w h (by omega) (by omega) (by omega);have HL:=η h.lt;have HP:=η hp;clear h hp
 go_enter Tryz.func52,Tryz.ntmps52
 go_wp2_with fail
 refine a4.mono ?_;rintro e w1 ⟨k,rfl,a8,J,a5⟩;have a9:Hid (aG [g] w w1):=η (aG.dV a5);obtain ⟨p1,a6⟩:∃ p1,p1=p+1:=⟨_,rfl⟩;have a1:Hid (p1≤p+1):=η (by omega);rw [← a6] at J;by_cases hk:k=0
 ·have hd:=Aq g p1 w1 J (by have:=HP.out; omega)
  subst hk;clear a4 J a5 a6 a8
  go_wp2_with fail
  refine hd.mono ?_;rintro e w2 ⟨rs,v,p2,rfl,hx,hq,hI⟩;have U:=Aj g p2 w2 hI.rdr (by have:=HP.out; have:=a1.out; omega);have HI:=η (ι hI (ι hx hq));obtain ⟨A0,c0,rfl⟩:=hI.shape;clear hd hx hq hI
  go_wp2_with fail
  refine U.mono ?_;rintro e w3 ⟨xs,v2,b1,p3,rfl,⟨I,y⟩,a2,a0,aa,a7,ab⟩;have HZ:Hid (UY g p 400 w (.returned (.tuple #[.slice A0 rs.length c0,v2])) w3):=η (NQ (q1:=160) (q2:=240) a9.out HL.out HI.out.2.1 (by have:=HI.out.2.2; have:=a1.out; omega) HI.out.1 aa ab (by omega) I y a2 a0);obtain ⟨A1,c1,rfl,_,_⟩:=ak I;clear U I y a2 a0 aa a7 ab;go_wp2;go_ret2;exact HZ.out
 ·have ac:¬ ((k:Int)=0):=by omega
  have hd:=wU g p1 w1 J (by have:=HP.out; omega);clear a4 J a5 a6 a8 hk
  go_wp2_with fail
  refine hd.mono ?_;rintro e w2 ⟨rs,v,p2,rfl,hx,hq,hI⟩;have U:=wO g p2 10 w2 hI.rdr (by have:=HP.out; have:=a1.out; omega) (by omega) (by omega);have HI:=η (ι hI (ι hx hq));obtain ⟨A0,c0,rfl⟩:=hI.shape;clear hd hx hq hI
  go_wp2_with fail
  refine U.mono ?_;rintro e w3 ⟨xs,v2,p3,rfl,_,a2,a0,a7,a3⟩;obtain ⟨b1,I,y⟩:=a3.atoms;have HZ:Hid (UY g p 400 w (.returned (.tuple #[.slice A0 rs.length c0,v2])) w3):=η (NQ (q1:=160) (q2:=240) a9.out HL.out (τ HI.out.2.1 (by omega)) (by have:=HI.out.2.2; have:=a1.out; omega) HI.out.1 a3.rdr a3.kept (by omega) I y (by omega) (fun a ha=>τ (a0 a ha) (by omega)));obtain ⟨A1,c1,rfl,_,_⟩:=ak I;clear U I y a2 a0 a7 a3;go_wp2;go_ret2;exact HZ.out
end
section
open Go.RowKit Go.Maps Go.Sort D
attribute [local go_sem ↓] Go.wp_at_zero Go.wp_at_succ
theorem SC:(Tryz.prog.info? 9).map (fun i=>(i.zero,i.size,i.bytes))=some (some (.string ⟨#[]⟩),1,16):=by kernel_rfl
def D.lU (L:List ByteArray):List ByteArray:=L.foldl jk []
theorem D.uP:∀ (L out:List ByteArray),mW out→mW (L.foldl jk out)∧∀ x,x ∈ L.foldl jk out ↔ x ∈ out∨x ∈ L
 | [],out,h=>⟨h,fun x=>by simp⟩
 | s :: L,out,h=>by
  obtain ⟨h1,y⟩:=uP L (jk out s) (BO s h);refine ⟨h1,fun x=>?_⟩;rw [List.foldl_cons,y,vG,List.mem_cons,or_assoc]
theorem D.oO (L:List ByteArray):mW (lU L):=(uP L [] mX).1
theorem D.kY (L:List ByteArray) (x:ByteArray):x ∈ lU L ↔ x ∈ L:=by
 have:=(uP L [] mX).2 x;simpa [lU] using this
theorem D.oC:∀ {a b:List ByteArray},a.map (·.data.toList)=b.map (·.data.toList)→a=b
 | [],b,h=>by cases b; rfl; simp at h
 | x :: a,b,h=>by
  cases b with
  | nil=>simp at h
  | cons y b=>simp only [List.map_cons,List.cons.injEq] at h; rw [bytes_inj h.1,oC h.2]
theorem D.J5 {a b:List ByteArray} (ha:mW a) (J:mW b) (h:∀ x,x ∈ a ↔ x ∈ b):a=b:=by
 refine oC (asc_one (List.pairwise_map.2 (ha.imp fun {a b} h=>(vN _ _).2 h)) (List.pairwise_map.2 (J.imp fun {a b} h=>(vN _ _).2 h)) fun x=>?_);simp only [List.mem_map];exact ⟨fun ⟨y,I,e⟩=>⟨y,(h y).1 I,e⟩,fun ⟨y,I,e⟩=>⟨y,(h y).2 I,e⟩⟩
theorem D.Pv {a b:List ByteArray} (h:∀ x,x ∈ a ↔ x ∈ b):lU a=lU b:=J5 (oO a) (oO b) fun x=>by rw [kY,kY,h]
theorem D.SE {xs ys L:List ByteArray} (hn:(xs.map (·.data.toList)).Nodup) (hm:∀ x,x ∈ xs ↔ x ∈ L) (I:ys.map (·.data.toList)=(xs.map (·.data.toList)).mergeSort leB):ys=lU L:=by
 have hp:=List.mergeSort_perm (xs.map (·.data.toList)) leB;have J:(ys.map (·.data.toList)).Nodup:=by rw [I]; exact hp.nodup_iff.2 hn
 have U:(ys.map (·.data.toList)).Pairwise (fun a b=>a≤b):=by rw [I]; exact yO _
 have a0:(ys.map (·.data.toList)).Pairwise (fun a b=>a < b):=(U.and J).imp fun {a b} h=>by
  rcases List.le_iff_lt_or_eq.1 h.1 with h1 | h1
  ·exact h1
  ·exact absurd h1 h.2
 refine oC (asc_one a0 (List.pairwise_map.2 ((oO L).imp fun {a b} h=>(vN _ _).2 h)) fun b=>?_);rw [I,hp.mem_iff];simp only [List.mem_map];exact ⟨fun ⟨y,h,e⟩=>⟨y,(kY L y).2 ((hm y).1 h),e⟩,fun ⟨y,h,e⟩=>⟨y,(hm y).2 ((kY L y).1 h),e⟩⟩
theorem nU (B n:Nat) (L:List ByteArray) (f:ByteArray→Int) (w:World) (hM:eU B n L f w) (hn:L.length≤1000000):
  Calls Tryz.prog 71 #[.map (some B)] w (Makes fU (lU L) w.heap.size w):=by
 by_cases h0:L.length=0
 ·have hL:L = []:=List.length_eq_zero_iff.1 h0
  subst hL;have HM:=η hM;clear hM h0
  go_enter Tryz.func71,Tryz.ntmps71
  go_wp2_with (first | (at_len; refine dN _ rfl _ _ rfl Tryz.underlying116 _ _ _ _ rfl HM.out ?_) | go_in)
  go_ret;exact ⟨ϑ,_,[],rfl,⟨_,_,rfl,ν,ε,fun _=>rfl,fun h=>absurd rfl h⟩,New.nil _ _⟩
 ·have HM:=η hM
  obtain ⟨⟨M,h1,h2,h3,h4⟩,h5,h6⟩:=hM;have H1:=η h1;have H2:=η h2;have H3:=η h3;have H6:=η h6;have bj:=h1.lt;have bO:¬ ((L.length:Nat):Int)=0:=by omega
  have bR:(L.length:Int)≤1000000:=by omega
  obtain ⟨i0,hi,af,ag,am⟩:=info_parts SC;clear h1 h2 h3 h4 h5 h6 h0
  go_enter Tryz.func71,Tryz.ntmps71
  go_wp2_with (first
   | (at_len; refine dN _ rfl _ _ rfl Tryz.underlying116 _ _ _ _ rfl HM.out ?_)
   | (at_make; refine wpList_make_own _ rfl _ _ 44 rfl w.heap.size 9 i0 (.string ⟨#[]⟩) 1 Tryz.underlying44 hi af ag .i64 .i64 _ L.length rfl rfl rfl (by rw [am]; omega) (by unfold maxLen; omega) ν ?_; intro w1 a0 a1)
   | (at_range; refine wpList_range_own _ rfl _ _ rfl _ _ xQ Tryz.underlying116 _ B n _ rfl (H1.out.kept a1 (by simp)) ?_; intro w0 a7 ab bk)
   | go_in)
  go_frame
  have ao:Below w.heap.size w w0:=(ϑ.grown a1 ν (fun j hj=>by cases hj)).grown ab a1.size (fun j hj=>by cases hj);have ap:Hid (aW 1 iW w.heap.size 9 w0 (.slice (some ⟨w.heap.size,0,none⟩) 0 L.length) [] [] []):=η ⟨a0.kept ab (Or.inr (by simp [Value.ownBlock])),aQ.nil,fun b hb=>by simp at hb⟩;have ac:=η a7;have aq:=η ao;have bl:w.heap.size≤w1.heap.size:=a1.size;obtain ⟨r,hr⟩:∃ r,r=w1.heap.size:=⟨_,rfl⟩;have bn:w.heap.size≤r:=by omega
  rw [← hr] at ac ⊢;clear a0 a1 a7 ab bk ao bl hr
  go_loopw [3] (fun v wr=>∃ (left:Lit→Bool) (cnt:Nat) (xs:List ByteArray) (Av:Option Addr) (cp:Nat) (L2:List Value),wr.ranges Tryz.prog 9 (plainElem Tryz.prog 3) B r n M left cnt∧xs.length+cnt≤L.length∧
   v=.slice Av xs.length cp∧aW 1 iW w.heap.size 9 wr (.slice Av xs.length cp) L2 xs []∧Collected M left (xs.map (·.data.toList))∧Below w.heap.size w wr) (fun _ wr=>wr.rangeLeft B r)
  case atStart=>exact ⟨_,_,[],_,_,_,ac.out,by rw [H2.out]; simp,rfl,ap.out,Collected.start M,aq.out⟩
  case round=>
   clear ap ac aq;obtain ⟨left,cnt,xs,Av,cp,L2,ar,av,rfl,hC,a8,hB⟩:=hrel;have a2:=η ar;have HC:=η hC;have I:=η a8;have HB:=η hB;have a4:=η av;clear ar hC a8 hB av
   go_wp2_with (first
    | (at_next; refine wpList_next_ranges _ rfl _ rfl 9 xQ (plainElem Tryz.prog 3) encStr (Value.int .i64) (fun bX kl hk=>by obtain ⟨x,hx,_⟩:=Maps.keyOf_str Tryz.underlying9 hk; exact ⟨x,hx⟩) (fun v y hv=>by obtain ⟨c,rfl,_⟩:=plainElem_int_inv Tryz.underlying3 hv; exact ⟨c,rfl⟩) B r n _ _ _ rfl a2.out ?_ ?_)
    | go_in)
   ·intro bo aw
    have az:Hid (∀ x,x ∈ xs ↔ x ∈ L):=η fun x=>by
     have h1:=I.out.2 x.data.toList;rw [aw] at h1;have h2:=H3.out x;unfold xR at h2;rw [h2] at h1;simp only [and_true,decide_eq_true_eq] at h1;rw [← h1,List.mem_map];exact ⟨fun h=>⟨x,h,rfl⟩,fun ⟨y,hy,e⟩=>by rw [← bytes_inj e]; exact hy⟩
    have bp:=η I.out.1;have a5:xs.length≤16777216:=by have:=a4.out; omega
    clear aw bo a2 a4 I
    go_wp2_with fail
    refine (EP xs _ L2 w.heap.size wr HC.out a5).mono ?_;rintro e U ⟨rfl,ys,aD,bq,aE,J⟩;have aL:ys=lU L:=SE bp.out az.out aD;obtain ⟨b9,aM,aR⟩:=aE.new (New.nil _ _);have B3:=gK HB.out HC.out.own ν HB.out.size J;have HZ:Hid (Makes fU (lU L) w.heap.size w (.returned (.slice Av xs.length cp)) U):=η ⟨B3,_,b9,rfl,by rw [← aL]; exact aM,aR⟩;clear aD bq aE J aL aM aR B3;go_wp2;go_ret;exact HZ.out
   ·intro x c kl yd yp U b1 a9 b2 hv b3 a3 b4 J br bt
    obtain ⟨x',ex,rfl,a5⟩:=Maps.keyOf_str Tryz.underlying9 a9;obtain rfl:x=x':=encStr_inj ex;obtain ⟨s,rfl⟩:∃ s:ByteArray,x=s.data.toList:=⟨⟨x.toArray⟩,rfl⟩;have b5:encStr s.data.toList=.string s:=by cases s; simp [encStr]
    rw [b5] at bt ⊢;have b6:s.size≤maxLen:=by simpa using a5
    have a6:aW 1 iW w.heap.size 9 U (.slice Av xs.length cp) L2 xs []:=⟨HC.out.own.kept J (Or.inr (row_ne_iter HC.out.own a2.out).symm),HC.out.row.keep aJ fun b hb=>by simp at hb,fun b hb=>by simp at hb⟩;have ae:Below w.heap.size w U:=HB.out.grown J HB.out.size fun j hj=>by cases hj; exact bn
    have hA:Below U.heap.size U (U.alloc (.cells #[.string s] 9)):=ζ;have b7:Hid (some B ≠ (Value.slice Av xs.length cp).ownBlock∧some r ≠ (Value.slice Av xs.length cp).ownBlock):=η ⟨row_ne_low a6.own bj,row_ne_iter a6.own a3⟩;have b8:=η (a3.alloc (.cells #[.string s] 9));have bu:=η (a6.below aJ hA);have bc:=η (ae.trans (hA.mono ae.size));have bv:Hid (aQ 1 iW (U.alloc (.cells #[.string s] 9)) [.string s] [s] []):=η (aQ.cu iy ⟨rfl,b6,rfl⟩);have bw:Hid (Lies (U.alloc (.cells #[.string s] 9)) (some ⟨U.heap.size,0,none⟩) [.string s]):=η (by have:=aP (ω U (.cells #[.string s] 9)); simpa using this);have bx:=η (I.out.step b2 b3);have bf:=η b4;have HK:Hid (xs.length+1≤maxLen∧(xs.length+1) * 16≤140737488355328):=η (by have:=a4.out; unfold maxLen; omega);have bz:=η a2.out.left_eq;clear a6 ae hA a3 b2 b3 b4 J br a9 hv a5 b5 b6 a2 HC I HB
    go_wp2_with (first
     | (at_builtin; refine bJ rfl _ _ _ rfl w.heap.size 9 i0 (.string ⟨#[]⟩) 1 16 Tryz.underlying44 hi af ag am rfl (by omega) aJ (.slice Av xs.length cp) xs.length _ _ _ rfl bu.out rfl (some ⟨U.heap.size,0,none⟩) 1 1 _ [s] _ rfl bv.out rfl bw.out (fun b hb=>by simp at hb) HK.out.1 HK.out.2 w w.heap.size bc.out ν bc.out.size ?_; intro A2 bA w3 bg bh bB bi; (have bE:=η bg); (have bL:=η bh); (have aa:=η (b8.out.kept bi b7.out.1 b7.out.2)); clear bg bh bB bi; go_frame)
     | go_in)
    go_roundw
    case rel=>exact ⟨_,b1,xs ++ [s],A2,bA,_,aa.out,by have h1:=a4.out; have h2:=bf.out; simp; omega,by simp,by rw [χ]; exact bE.out,by rw [List.map_append]; exact bx.out,bL.out⟩
    case measure=>rw [aa.out.left_eq,bz.out]; exact bf.out
theorem DC (rs:List Ru) (v:Value) (bs:List Nat) (w:World) (h:dI w [v] rs bs) (hg:lY w):
  Calls Tryz.prog 20 #[v] w (Makes fU (if dJ rs=0 then lU ((aB rs).map (·.name)) else []) w.heap.size w):=by
 have c1:=qo rs v bs w h hg;have C2:=η fun w' (hb:Below w.heap.size w w') (hok:rs.all dM=true) (hf:rs.length≤8)=>qf rs v bs w' (bG.below h hb) hok hf
 clear h hg;by_cases J:dJ rs=0
 ·have I:=(lG rs).1 J
  have HF:=η I;have HL:Hid ((bZ (aB rs)).1.length≤1000000):=η (by have h1:=(ny (aB rs)).2.1; have h2:=(jc I.ok).2; have:=I.few; omega);have HE:Hid (lU (bZ (aB rs)).1=lU ((aB rs).map (·.name))):=η (Pv fun x=>by rw [(ny (aB rs)).1,List.mem_map]);rw [if_pos J];rw [decide_eq_true J] at c1;clear J I
  go_enter Tryz.func20,Tryz.ntmps20
  go_wp2_with fail
  refine c1.mono ?_;rintro e w1 ⟨rfl,y⟩;clear c1
  go_wp2_with fail
  refine (C2.out _ y HF.out.ok HF.out.few).mono ?_;rintro e w2 ⟨rfl,n,hM,U⟩;have B2:=y.trans (U.mono y.size);have c3:=nU _ n _ _ w2 hM HL.out;clear hM y U C2
  go_wp2_with fail
  refine c3.mono ?_;rintro e w3 ⟨a0,v3,a3,rfl,a1,a2⟩;have HZ:Hid (Makes fU (lU ((aB rs).map (·.name))) w.heap.size w (.returned v3) w3):=η ⟨B2.trans (a0.mono B2.size),v3,a3,rfl,by rw [← HE.out]; exact a1,a2.mono B2.size⟩;clear a1 a2 a0 B2 c3;go_wp2;go_ret;exact HZ.out
 ·rw [if_neg J]
  rw [decide_eq_false J] at c1;clear J C2
  go_enter Tryz.func20,Tryz.ntmps20
  go_wp2_with fail
  refine c1.mono ?_;rintro e w1 ⟨rfl,y⟩;go_wp2;go_ret;exact ⟨y,_,[],rfl,⟨_,_,rfl,ν,ε,fun _=>rfl,fun h=>absurd rfl h⟩,New.nil _ _⟩
end
namespace D
open Go.RowKit
inductive Reach (rs:List Ru) (s:ByteArray):ByteArray→Prop
 | self:Reach rs s s
 | step {r:Ru} {p:Pt}:Reach rs s r.head.name→r ∈ rs→p ∈ r.body→Reach rs s p.atom.name
def jE (rs:List Ru):List ByteArray:=(aB rs).map (·.name)
theorem Fp {rs:List Ru} {r:Ru} {p:Pt} (hr:r ∈ rs) (y:p ∈ r.body):p.atom.name ∈ jE rs:=
 List.mem_map.2 ⟨p.atom,List.mem_flatMap.2 ⟨r,hr,Δ _ (List.mem_map.2 ⟨p,y,rfl⟩)⟩,rfl⟩
theorem MV {rs:List Ru} {s x:ByteArray} (h:Reach rs s x):x=s∨x ∈ jE rs:=by
 cases h with
 | self=>exact .inl rfl
 | step _ hr hp=>exact .inr (Fp hr hp)
open Classical in
noncomputable def needs (rs:List Ru) (s:ByteArray):List ByteArray:=lU ((s :: jE rs).filter fun x=>decide (Reach rs s x))
theorem sQ {rs:List Ru} {s x:ByteArray}:x ∈ needs rs s ↔ Reach rs s x:=by
 unfold needs;rw [kY,List.mem_filter];simp only [decide_eq_true_eq];exact ⟨fun h=>h.2,fun h=>⟨(MV h).elim (fun e=>e ▸ Γ) (fun h=>Δ _ h),h⟩⟩
theorem Px (rs:List Ru) (s:ByteArray):mW (needs rs s):=oO _
theorem SG {rs:List Ru} {s:ByteArray} {L:List ByteArray} (h1:s ∈ L) (y:∀ x ∈ L,Reach rs s x) (I:∀ r ∈ rs,r.head.name ∈ L→∀ p ∈ r.body,p.atom.name ∈ L):∀ x,x ∈ L ↔ Reach rs s x:=fun x=>
 ⟨y x,fun h=>by
  induction h with
  | self=>exact h1
  | step _ hr hp ih=>exact I _ hr ih _ hp⟩
theorem J6 {rs:List Ru} {s:ByteArray} {L:List ByteArray} (h1:s ∈ L) (y:∀ x ∈ L,Reach rs s x) (I:∀ r ∈ rs,r.head.name ∈ L→∀ p ∈ r.body,p.atom.name ∈ L):lU L=needs rs s:=
 J5 (oO L) (Px rs s) fun x=>(kY L x).trans ((SG h1 y I x).trans sQ.symm)
end D
section
open Go.RowKit D
def D.tq (fs ps y:List A) (b:Bd) (left:Nat) (σ:Wo):Prop:=Qb b σ∧(∀ j (h:j < ps.length),left.testBit j=true→fP σ ps[j] ∈ fs)∧∀ n ∈ y,fP σ n ∉ fs
def D.rM (b:Bd):Prop:=∀ p ∈ b,gZ p.2=true
theorem D.rO {s:ByteArray} (h:gZ s=true):s ≠ ⟨#[]⟩:=by
 rintro rfl;revert h
 decide
theorem D.qw:∀ (y fs:List T) (b:Bd),∃ c,(bV y fs b).1=b ++ c
 | [],fs,b=>by cases fs <;> exact ⟨[],by simp [bV]⟩
 | t :: y,[],b=>⟨[],by simp [bV]⟩
 | t :: y,f :: fs,b=>by
  rw [bV]
  split
  ·split
   ·split
    ·exact qw y fs b
    ·exact ⟨[],by simp⟩
   ·obtain ⟨c,hc⟩:=qw y fs (b ++ [(t.name,f.name)])
    exact ⟨(t.name,f.name) :: c,by rw [hc]; simp⟩
  ·split
   ·exact qw y fs b
   ·exact ⟨[],by simp⟩
theorem D.uQ (a f:A) (b:Bd):(aF a f b).1.take b.length=b:=by
 unfold aF
 split
 ·obtain ⟨c,hc⟩:=qw a.args f.args b
  rw [hc]; simp
 ·simp
theorem D.tV (a f:A) (b:Bd):b.length≤(aF a f b).1.length:=by
 have:=congrArg List.length (uQ a f b);simp at this;omega
theorem D.qx:∀ (I fs:List T) (b:Bd),rM b→(∀ f ∈ fs,gZ f.name=true)→rM (bV I fs b).1
 | [],fs,b,h,_=>by cases fs <;> simpa [bV] using h
 | t :: I,[],b,h,_=>by simpa [bV] using h
 | t :: I,f :: fs,b,h,hf=>by
  have y:∀ g ∈ fs,gZ g.name=true:=fun g U=>hf g (Δ _ U)
  rw [bV]
  split
  ·split
   ·split
    ·exact qx I fs b h y
    ·exact h
   ·refine qx I fs _ (fun p J=>?_) y
    rcases μ.1 J with J | J
    ·exact h p J
    ·rw [List.mem_singleton.1 J]; exact hf f Γ
  ·split
   ·exact qx I fs b h y
   ·exact h
theorem D.DF {a f:A} {b:Bd} (h:rM b) (hf:∀ t ∈ f.args,gZ t.name=true):rM (aF a f b).1:=by
 unfold aF
 split
 ·exact qx _ _ _ h hf
 ·exact h
structure D.aT (f:A):Prop where
 ok:aX f=true
 gr:Gr f
theorem D.aT.names {f:A} (h:aT f):∀ t ∈ f.args,t.var=false∧gZ t.name=true:=fun t y=>by
 have h0:=h.ok;unfold aX at h0;simp only [ο,decide_eq_true_eq,List.all_eq_true] at h0;have h1:=h0.2 t y;have I:=h.gr t y;unfold iI at h1;rw [I] at h1;exact ⟨I,by simpa using h1⟩
theorem D.sS {a:A} (ha:aX a=true) {b:Bd} (J:rM b) (hc:vY b a.args):aT (bU a b):=by
 have h0:=ha;unfold aX at h0;simp only [ο,decide_eq_true_eq,List.all_eq_true] at h0;refine ⟨?_,pY (iO b) a⟩;unfold aX bU;simp only [ο,decide_eq_true_eq,List.all_eq_true,List.length_map];refine ⟨h0.1,fun t U=>?_⟩;obtain ⟨u,y,rfl⟩:=List.mem_map.1 U;have h1:=h0.2 u y;unfold iI at *;unfold dm;cases hv:u.var
 ·simpa [hv] using h1
 ·obtain ⟨v,I⟩:=Option.isSome_iff_exists.1 (hc u y hv)
  simp only [if_true,iO,I,Option.getD_some];exact J _ (wH I)
theorem D.wW {fs:List A} (hf:∀ f ∈ fs,aT f) {a:A} (ha:aT a):decide (dK a ∈ fs.map dK)=true ↔ a ∈ fs:=by
 rw [decide_eq_true_eq,List.mem_map];constructor
 ·rintro ⟨f,h1,y⟩
  rw [← yg (hf f h1).ok ha.ok y]; exact h1
 ·exact fun h=>⟨a,h,rfl⟩
theorem D.GU {vars:List ByteArray} (hv:jo vars) {b:Bd} (hb:jm vars b) {ts:List T} (hin:∀ t ∈ ts,t.var=true→t.name ∈ vars):
  vY b ts ↔ ∀ i,i < 12→fC vars ts i=true→Hf vars b i ≠ ⟨#[]⟩:=by
 constructor
 ·intro hc i _ hw
  unfold fC at hw;obtain ⟨t,y,h2⟩:=List.any_eq_true.1 hw;simp only [ο,beq_iff_eq] at h2;obtain ⟨h3,rfl⟩:=h2;have I:=List.idxOf_lt_length_of_mem (hin t y h3);obtain ⟨v,U⟩:=Option.isSome_iff_exists.1 (hc t y h3);unfold Hf;rw [dif_pos I];have e:vars[vars.idxOf t.name]=t.name:=List.getElem_idxOf I;rw [e];intro e2;rw [(hb.oN _).1 e2] at U;cases U
 ·intro h t y J
  have hm:=hin t y J;have I:=List.idxOf_lt_length_of_mem hm;have a0:=hv.few;have h1:=h (vars.idxOf t.name) (by omega) (List.any_eq_true.2 ⟨t,y,by simp [J]⟩);unfold Hf at h1;rw [dif_pos I] at h1;have e:vars[vars.idxOf t.name]=t.name:=List.getElem_idxOf I;rw [e] at h1
  cases U:eY b t.name with
  | some v=>rfl
  | none=>exact absurd ((hb.oN _).2 U) h1
def D.J7 (vars:List ByteArray) (head:A) (y:List A) (i:Nat):Bool:=fC vars head.args i || y.any fun n=>fC vars n.args i
theorem D.rP {vars:List ByteArray} (hv:jo vars) {b:Bd} (hb:jm vars b) {head:A} {ns:List A} {wt:Nat→Bool} (J:∀ i,i < 12→wt i=J7 vars head ns i) (hh:∀ t ∈ head.args,t.var=true→t.name ∈ vars) (hn:∀ n ∈ ns,∀ t ∈ n.args,t.var=true→t.name ∈ vars):
  setB vars b wt=true ↔ vY b head.args∧∀ n ∈ ns,vY b n.args:=by
 rw [Dq,GU hv hb hh];constructor
 ·intro h
  refine ⟨fun i I U=>h i I (by rw [J i I]; unfold J7; rw [U]; rfl),fun n y=>(GU hv hb (hn n y)).2 fun i I U=>h i I (by rw [J i I]; unfold J7; rw [List.any_eq_true.2 ⟨n,y,U⟩]; simp)⟩
 ·rintro ⟨h1,h2⟩ i I U
  rw [J i I] at U;unfold J7 at U
  rcases Bool.or_eq_true_iff.1 U with h | h
  ·exact h1 i I h
  ·obtain ⟨n,y,h3⟩:=List.any_eq_true.1 h
   exact (GU hv hb (hn n y)).1 (h2 n y) i I h3
theorem D.Fv (l i:Nat) (y:l < 16) (I:i < 4) (h:l.testBit i=true):bits .andNot .i64 (l:Int) (wrap64 (2 ^ i))=((l - 2 ^ i:Nat):Int):=by
 have H:∀ l:Nat,l < 16→∀ i:Nat,i < 4→l.testBit i=true→bits .andNot .i64 (l:Int) (wrap64 (2 ^ i))=((l - 2 ^ i:Nat):Int):=by decide +kernel
 exact H l y i I h
theorem D.wX (l i j:Nat) (y:l < 16) (I:i < 4) (J:j < 4) (h:l.testBit i=true):(l - 2 ^ i).testBit j=(l.testBit j && decide (j ≠ i)):=by
 have H:∀ l:Nat,l < 16→∀ i:Nat,i < 4→∀ j:Nat,j < 4→l.testBit i=true→(l - 2 ^ i).testBit j=(l.testBit j && decide (j ≠ i)):=by decide +kernel
 exact H l y i I j J h
theorem D.NR (l i:Nat) (y:l < 16) (I:i < 4) (h:l.testBit i=true):l - 2 ^ i < l:=by
 have H:∀ l:Nat,l < 16→∀ i:Nat,i < 4→l.testBit i=true→l - 2 ^ i < l:=by decide +kernel
 exact H l y i I h
theorem D.SH (l n:Nat) (y:l < 2 ^ n) (I:n≤4) (h:l ≠ 0):∃ j,j < n∧l.testBit j=true:=by
 have H:∀ n:Nat,n < 5→∀ l:Nat,l < 2 ^ n→l ≠ 0→∃ j,j < n∧l.testBit j=true:=by decide +kernel
 exact H n (by omega) l y h
theorem D.tq.step {fs ps I:List A} {b:Bd} {left m:Nat} {σ:Wo} {f:A} (U:left < 16) (a0:ps.length≤4) (hm:m < ps.length) (y:left.testBit m=true) (h:tq fs ps I b left σ) (he:fP σ ps[m]=f):
  (aF ps[m] f b).2=true∧tq fs ps I (aF ps[m] f b).1 (left - 2 ^ m) σ:=by
 obtain ⟨h1,h2,h3⟩:=h;obtain ⟨g1,g2⟩:=mD h1 he;refine ⟨g1,g2,fun j hj J=>h2 j hj ?_,h3⟩;rw [wX left m j U (by omega) (by omega) y] at J;exact (Bool.and_eq_true_iff.1 J).1
theorem D.tq.back {fs ps U:List A} {b:Bd} {left m:Nat} {σ:Wo} {f:A} (hl:left < 16) (a0:ps.length≤4) (hm:m < ps.length) (y:left.testBit m=true) (hf:f ∈ fs) (I:Gr f) (J:(aF ps[m] f b).2=true) (h:tq fs ps U (aF ps[m] f b).1 (left - 2 ^ m) σ):
  tq fs ps U b left σ:=by
 obtain ⟨h1,h2,h3⟩:=h;obtain ⟨g1,g2⟩:=lK I J;refine ⟨h1.of_le (mO _ _ _),fun j hj hb=>?_,h3⟩;by_cases e:j=m
 ·subst e
  rw [← jH g1 h1,g2]; exact hf
 ·refine h2 j hj ?_
  rw [wX left m j hl (by omega) (by omega) y,hb];simpa using e
def D.SI (y:List A):List ByteArray:=lU (y.map (·.name))
def D.yt (rs:List Ru):List ByteArray:=if dJ rs=0 then SI (aB rs) else []
theorem Au (rs:List Ru) (v:Value) (bs:List Nat) (w:World) (h:dI w [v] rs bs) (y:lY w):
 Calls Tryz.prog 20 #[v] w (Makes fU (yt rs) w.heap.size w):=DC rs v bs w h y
end
end Go.Proofs.YtkjinanbccloeaaGreatDoor
