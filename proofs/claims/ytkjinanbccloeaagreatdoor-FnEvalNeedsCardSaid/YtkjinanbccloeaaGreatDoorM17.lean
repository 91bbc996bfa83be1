/- Of the proof of FnEvalNeeds: TightS, RuleS, Grnd, DrawB, Draw2F, MapT, MapR. -/
import Derived.Test.YtkjinanbccloeaaGreatDoorM09
import Derived.Test.YtkjinanbccloeaaGreatDoorM12
import Derived.Test.YtkjinanbccloeaaGreatDoorM13
set_option linter.unusedVariables false
set_option maxHeartbeats 2000000
set_option maxRecDepth 100000
namespace Go.Proofs.YtkjinanbccloeaaGreatDoor
section
open Go.RowKit D
attribute [local go_sem ↓] Go.wp_at_zero Go.wp_at_succ
def D.kM (y:List T) (out:List ByteArray):List ByteArray:=y.foldl (fun o t=>if t.var then jk o t.name else o) out
theorem D.Jr (y:List T) (k:Nat) (h:k < y.length) (out:List ByteArray):kM (y.take (k+1)) out=if y[k].var then jk (kM (y.take k) out) y[k].name else kM (y.take k) out:=Ll ⟨ByteArray.empty,y⟩ k h out
theorem D.Df {w:World} {g:Nat}:fU w [.slice (some ⟨g,0,none⟩) 0 0] [] []:=⟨_,0,rfl,ν,ε,fun _=>rfl,fun h=>absurd rfl h⟩
theorem uK (a:A) (out:List ByteArray) (c0 c1 v:Value) (b1 b2:List Nat) (w:World) (h:aI w [c0,c1] a b1) (h2:fU w [v] out b2) (hn:out.length+a.args.length≤16777216):
  Calls Tryz.prog 213 #[.agg #[c0,c1],v] w (Q7 (jW a out) b2 w.heap.size w):=by
 have ht:=cZ h;obtain ⟨Aa,ca,rfl,rfl⟩:=bI h;obtain ⟨As,cs,rfl,_,_⟩:=ak h2;obtain ⟨_,_,a8,a5,a6⟩:=ak ht;have ac:=aA (τ a5 a6);obtain ⟨an,args⟩:=a;dsimp only at *;have hA:Below w.heap.size w (w.alloc (.cells #[.string an,.slice Aa args.length ca] 33)):=ζ;have x1:(w.alloc (.cells #[.string an,.slice Aa args.length ca] 33)).cell? ⟨w.heap.size,1,none⟩=some (.slice Aa args.length ca):=by go_simp
 have I:=η (ι (bH.below h2 hA) (ι hA x1));have HE:Hid (jW ⟨an,args⟩ out=kM args out):=η rfl;have HN:=η hn;clear h h2 a5 a6 a8 hA x1 hn
 go_enter Tryz.func213,Tryz.ntmps213
 go_wp2
 go_loopw [1,5] (fun v i wr=>∃ (k m:Nat) (Av:Option Addr) (cp:Nat) (b4:List Nat),k≤args.length∧i=.int .i64 k∧v=.slice Av m cp∧m=(kM (args.take k) out).length∧fU wr [.slice Av m cp] (kM (args.take k) out) b4∧(∀ c ∈ b4,w.heap.size≤c∨c ∈ b2)∧Below w.heap.size w wr∧wr.cell? ⟨w.heap.size,1,none⟩=some (.slice Aa args.length ca)) (fun _ i _=>args.length - (intOf i).toNat)
 case atStart=>exact ⟨0,out.length,As,cs,b2,ε,rfl,rfl,rfl,I.out.1,fun c hc=>.inr hc,I.out.2.1,I.out.2.2⟩
 case round=>
  obtain ⟨k,m,Av,cp,b4,hk,rfl,rfl,a1,hR,a0,hb,x1⟩:=hrel;have a2:=η a0;clear a0;clear I;have HM:=η a1;by_cases J:k < args.length
  ·obtain ⟨b,o,rfl,_,d0,d1,a9⟩:=dU (aN.below ht hb) J
   have ae:(0:Int)≤(k:Int):=by omega
   have aa:(k:Int) < (args.length:Int):=by omega
   have U:=η J
   have hlen:(kM (args.take k) out).length≤16777216:=by
    have h1:=uy (args.take k) out;rw [List.length_take] at h1;have:=HN.out;have h3:(kM (args.take k) out).length≤out.length+min k args.length:=h1;omega
   have hp:=OC (kM (args.take k) out) args[k].name _ b4 wr hR a9 hlen;have HT:=η (Jr args k J out);have HR:=η (ι hR hb);generalize args[k]=t at *;obtain ⟨tv,tn⟩:=t;dsimp only at *;clear a1 hR hb ht hlen J hk;cases tv
   ·have y:Hid (kM (args.take (k+1)) out=kM (args.take k) out):=η (by rw [HT.out]; rfl)
    clear HT hp;go_wp2;go_roundw
    case rel=>exact ⟨k+1,m,Av,cp,b4,U.out,by go_num,rfl,by rw [y.out]; exact HM.out,by rw [y.out]; exact HR.out.1,a2.out,HR.out.2,x1⟩
    case measure=>have:=U.out; simp [intOf]; omega
   ·have y:Hid (kM (args.take (k+1)) out=jk (kM (args.take k) out) tn):=η (by rw [HT.out]; rfl)
    clear HT
    go_wp2_with fail
    refine hp.mono ?_;rintro e w2 ⟨a3,v2,b5,rfl,a4,a7⟩;obtain ⟨A2,p2,rfl,_,_⟩:=ak a4;have HX:=η (ι a4 (ι (HR.out.2.trans (a3.mono HR.out.2.size)) (ξ a3 x1)));have ab:Hid (∀ c ∈ b5,w.heap.size≤c∨c ∈ b2):=η (fun c hc=>(a7 c hc).elim (fun h9=>.inl (τ HR.out.2.size h9)) (a2.out c));clear hp a4 a3 x1 a7;go_wp2;go_roundw
    case rel=>exact ⟨k+1,_,A2,p2,b5,U.out,by go_num,rfl,by rw [y.out],by rw [y.out]; exact HX.out.1,ab.out,HX.out.2.1,HX.out.2.2⟩
    case measure=>have:=U.out; simp [intOf]; omega
  ·have he:=η (show k=args.length by omega)
   have aa:¬ (k:Int) < (args.length:Int):=by omega
   have HX:Hid (fU wr [.slice Av m cp] (kM args out) b4):=η (by rw [he.out,ϕ ν] at hR; exact hR);have HB:=η hb;clear hR a1 hb ht;go_wp2;go_ret;exact ⟨HB.out,_,b4,rfl,by rw [HE.out]; exact HX.out,a2.out⟩
theorem D.Js {α:Type} (f:α→Nat) (q:α→Bool) (xs:List α):iq f (xs.filter q)≤iq f xs:=by
 induction xs with
 | nil=>simp [iq]
 | cons x xs ih=>
  rw [List.filter_cons];have e:iq f (x :: xs)=f x+iq f xs:=by simp [iq]
  split
  ·have y:iq f (x :: xs.filter q)=f x+iq f (xs.filter q):=by simp [iq]
   omega
  ·omega
theorem D.OU {ps:List Pt} {m:Nat} (y:iq (fun p=>p.atom.args.length) ps≤m) (k:Nat) (out:List ByteArray):(dQ (ps.take k) out).length≤out.length+m:=by
 have h1:=mY (ps.take k) out;have I:=rX (fun p:Pt=>p.atom.args.length) ps k;omega
theorem yY (r:Ru) (c0 c1 c2:Value) (bs:List Nat) (w:World) (h:fG w [c0,c1,c2] r bs) (hs:iq (fun p=>p.atom.args.length) r.body≤1000000) (hh:r.head.args.length≤1000000):
  Calls Tryz.prog 163 #[.agg #[c0,c1,c2]] w fun e w'=>e=.returned (.bool (dW r.head r.body))∧Below w.heap.size w w':=by
 obtain ⟨p1,p2,rfl,af,a1⟩:=gW h;obtain ⟨Ad,cap,Ae,y,rfl,rfl,rfl⟩:=nK h;obtain ⟨_,_,aD,ag,am⟩:=ak a1;have aR:=aA (τ ag am);obtain ⟨I,ps⟩:=r;dsimp only at *;have hA:Below w.heap.size w (w.alloc (.cells #[.string I.name,.slice Ad I.args.length cap,.slice Ae ps.length y] 40)):=ζ;have x2:(w.alloc (.cells #[.string I.name,.slice Ad I.args.length cap,.slice Ae ps.length y] 40)).cell? ⟨w.heap.size,2,none⟩=some (.slice Ae ps.length y):=by go_simp
 have ao:Below w.heap.size w (((w.alloc (.cells #[.string I.name,.slice Ad I.args.length cap,.slice Ae ps.length y] 40)).alloc (.cells #[] 9)).alloc (.cells #[] 9)):=(hA.alloc (by simp) _).alloc (by simp <;> omega) _;have ap:=uK I [] _ _ (.slice (some ⟨w.heap.size+1+1,0,none⟩) 0 0) p1 [] _ (aj.below af ao) Df (by simp; omega);have HE:Hid (dW I ps=decide ((dQ ps (jW I [])).length=(dQ (ps.filter fun p=>!p.no) []).length)):=η rfl;have HS:=η hs;have HH:=η hh;have aq:=η ao;have b1:=η x2;clear h ag am aD hA hs hh af;generalize dW I ps=G at *
 go_enter Tryz.func163,Tryz.ntmps163
 go_wp2_with fail
 refine ap.mono ?_;rintro e w1 ⟨a6,v1,b4,rfl,a7,_⟩;obtain ⟨A1,p9,rfl,_,_⟩:=ak a7;have a2:=η (ι a7 (ι (aq.out.trans (a6.mono aq.out.size)) (ξ a6 (show ((((w.alloc (.cells #[.string I.name,.slice Ad I.args.length cap,.slice Ae ps.length y] 40)).alloc (.cells #[] 9)).alloc (.cells #[] 9)).cell? ⟨w.heap.size,2,none⟩=some (.slice Ae ps.length y)) by go_simp))));clear ap a7 a6 x2;go_wp2
 go_loopw [3,4,5] (fun v3 v4 i wr=>∃ (k m q:Nat) (Av Bv:Option Addr) (cp cq:Nat) (b4 b5:List Nat),k≤ps.length∧i=.int .i64 k∧v3=.slice Bv q cq∧v4=.slice Av m cp∧m=(dQ (ps.take k) (jW I [])).length∧fU wr [.slice Av m cp] (dQ (ps.take k) (jW I [])) b4∧
  q=(dQ ((ps.take k).filter fun p=>!p.no) []).length∧fU wr [.slice Bv q cq] (dQ ((ps.take k).filter fun p=>!p.no) []) b5∧Below w.heap.size w wr∧wr.cell? ⟨w.heap.size,2,none⟩=some (.slice Ae ps.length y)) (fun _ _ i _=>ps.length - (intOf i).toNat)
 case atStart=>exact ⟨0,_,0,A1,_,p9,_,b4,[],ε,rfl,rfl,rfl,rfl,a2.out.1,rfl,Df,a2.out.2.1,a2.out.2.2⟩
 case round=>
  obtain ⟨k,m,q,Av,Bv,cp,cq,b4,b5,hk,rfl,rfl,rfl,a8,hR,a9,hQ,hb,x2⟩:=hrel;clear a2;have HM:=η (ι a8 a9);by_cases U:k < ps.length
  ·obtain ⟨b,o,Aa,ce,bk,rfl,_,d0,d1,d2,aa,_⟩:=gV (dh.below a1 hb) U
   have b2:(0:Int)≤(k:Int):=by omega
   have aE:(k:Int) < (ps.length:Int):=by omega
   have a3:=η U
   have ar:(dQ (ps.take k) (jW I [])).length+ps[k].atom.args.length≤16777216:=by
    have h1:=OU HS.out k (jW I []);have h2:=Ez I [];have h3:=Nv (fun p:Pt=>p.atom.args.length) ps k U;have:=HS.out;have:=HH.out;simp only [List.length_nil] at h2;omega
   have av:(dQ ((ps.take k).filter fun p=>!p.no) []).length+ps[k].atom.args.length≤16777216:=by
    have h1:=mY ((ps.take k).filter fun p=>!p.no) [];have h4:=Js (fun p:Pt=>p.atom.args.length) (fun p=>!p.no) (ps.take k);have h5:=rX (fun p:Pt=>p.atom.args.length) ps k;have h3:=Nv (fun p:Pt=>p.atom.args.length) ps k U;have:=HS.out;simp only [List.length_nil] at h1;omega
   have hp:=uK ps[k].atom _ _ _ _ bk b4 wr (iQ aa) hR ar;have aw:=fun w' (az:Below wr.heap.size wr w')=>uK ps[k].atom _ _ _ _ bk b5 w' (aj.below (iQ aa) az) (bH.below hQ az) av
   have HT:=η (IE ps k U (jW I []));have a4:=η (IG ps k U);have HB:=η hb;have HQ:=η hQ;generalize ps[k]=p at *;obtain ⟨no,pa⟩:=p;dsimp only at *;clear a8 a9 hR hQ hb a1 aa U hk ar av
   go_wp2_with fail
   refine hp.mono ?_;rintro e w2 ⟨J,v2,b6,rfl,ab,_⟩;obtain ⟨A2,p2,rfl,_,_⟩:=ak ab;have HX:=η (ι ab (HB.out.trans (J.mono HB.out.size)));replace HQ:=η (bH.below HQ.out J);have ac:=aw _ J;replace x2:=ξ J x2;replace d0:=ξ J d0;replace d1:=ξ J d1;replace d2:=ξ J d2;clear hp aw ab J;cases no
   ·have a0:Hid (dQ ((ps.take (k+1)).filter fun p=>!p.no) []=jW pa (dQ ((ps.take k).filter fun p=>!p.no) [])):=η (by rw [a4.out]; unfold dQ; rw [List.foldl_append]; rfl)
    clear a4
    go_wp2_with fail
    refine ac.mono ?_;rintro e w3 ⟨a5,v3,b7,rfl,ae,_⟩;obtain ⟨A3,p3,rfl,_,_⟩:=ak ae;have HY:=η (ι ae (ι (bH.below HX.out.1 a5) (ι (HX.out.2.trans (a5.mono HX.out.2.size)) (ξ a5 x2))));clear ac ae a5 x2 d0 d1 d2;go_wp2;go_roundw
    case rel=>exact ⟨k+1,_,_,A2,A3,p2,p3,b6,b7,a3.out,by go_num,rfl,rfl,by rw [HT.out],by rw [HT.out]; exact HY.out.2.1,by rw [a0.out],by rw [a0.out]; exact HY.out.1,HY.out.2.2.1,HY.out.2.2.2⟩
    case measure=>have:=a3.out; simp [intOf]; omega
   ·have a0:Hid (dQ ((ps.take (k+1)).filter fun p=>!p.no) []=dQ ((ps.take k).filter fun p=>!p.no) []):=η (by rw [a4.out]; simp)
    clear a4 ac d1 d2;go_wp2;go_roundw
    case rel=>exact ⟨k+1,_,q,A2,Bv,p2,cq,b6,b5,a3.out,by go_num,rfl,rfl,by rw [HT.out],by rw [HT.out]; exact HX.out.1,by rw [a0.out]; exact HM.out.2,by rw [a0.out]; exact HQ.out,HX.out.2,x2⟩
    case measure=>have:=a3.out; simp [intOf]; omega
  ·have he:=η (show k=ps.length by omega)
   have aE:¬ (k:Int) < (ps.length:Int):=by omega
   have aL:Hid (G=decide (m=q)):=η (by
    have h1:=HM.out.1;have h2:=HM.out.2;rw [he.out,ϕ ν] at h1 h2
    rw [HE.out,← h1,← h2])
   have HB:=η hb;clear hR hQ a8 a9 hb a1 HE;go_wp2;go_ret;exact ⟨aH (by rw [aL.out]; first | (simp; omega) | (by_cases aM:m=q <;> simp [aM] <;> omega)),HB.out⟩
theorem D.Dh {α:Type} (f:α→Nat) (c:Nat) (xs:List α) (h:∀ x ∈ xs,f x≤c):iq f xs≤c * xs.length:=by
 induction xs with
 | nil=>simp [iq]
 | cons x xs ih=>
  have e:iq f (x :: xs)=f x+iq f xs:=by simp [iq]
  have h1:=h x Γ;have J:=ih (fun y I=>h y (Δ _ I));rw [e,List.length_cons,Nat.mul_add];omega
theorem MF (r:Ru) (c0 c1 c2:Value) (bs:List Nat) (w:World) (h:fG w [c0,c1,c2] r bs):
  Calls Tryz.prog 166 #[.agg #[c0,c1,c2]] w fun e w'=>e=.returned (.bool (dM r))∧Below w.heap.size w w':=by
 obtain ⟨b1,b2,rfl,hp,hq⟩:=gW h;obtain ⟨Ad,cap,Ae,I,rfl,rfl,rfl⟩:=nK h;obtain ⟨_,_,hv,hl,hm⟩:=ak hq;have a4:=aA (τ hl hm);have hok:=fun w' (J:Below w.heap.size w w')=>qX r.head _ _ b1 w' (aj.below hp J)
 have hr:dM r=(decide (r.body.length≤4) && r.body.all (fun p=>aX p.atom) && aX r.head):=rfl;rw [hr];clear h hp hv hl hm hr;generalize aX r.head=b at *;have hA:=(Below.refl w.heap.size w).alloc ν (.cells #[.string r.head.name,.slice Ad r.head.args.length cap,.slice Ae r.body.length I] 40)
 go_enter Tryz.func166,Tryz.ntmps166
 go_wp2
 go_loopw [3] (fun i wr=>∃ k:Nat,k≤r.body.length∧i=.int .i64 k∧(r.body.take k).all (fun p=>aX p.atom)=true∧Below w.heap.size w wr∧wr.cell? ⟨w.heap.size,0,none⟩=some (.string r.head.name)∧wr.cell? ⟨w.heap.size,1,none⟩=some (.slice Ad r.head.args.length cap)∧wr.cell? ⟨w.heap.size,2,none⟩=some (.slice Ae r.body.length I)∧w.heap.size < wr.heap.size) (fun i _=>r.body.length - (intOf i).toNat)
 case atStart=>exact ⟨0,ε,rfl,rfl,hA,by go_simp,by go_simp,by go_simp,by simp⟩
 case round=>
  obtain ⟨k,hk,rfl,U,J,x0,x1,x2,a5⟩:=hrel;have HA:=η U;clear U hA;by_cases a0:k < r.body.length
  ·obtain ⟨bb,o,Af,cf,bk,rfl,_,d0,d1,d2,a1,_⟩:=gV (dh.below hq J) a0
   have a2:=iQ a1;clear hq a1
   go_wp2_with fail
   refine (qX r.body[k].atom _ _ bk _ a2).mono ?_;rintro e w' ⟨rfl,y⟩;have B':=J.trans (y.mono J.size);have y0:=ξ y x0;have y1:=ξ y x1;have y2:=ξ y x2;have S':w.heap.size < w'.heap.size:=by have:=y.size; omega
   clear a2 x0 x1 x2;by_cases hx:aX r.body[k].atom=true
   ·have a3:(!aX r.body[k].atom)=false:=by simp [hx]
    have HX:=η hx;clear hx;go_wp2;go_roundw
    case rel=>exact ⟨k+1,by omega,by go_num,by rw [iJ r.body k a0,HA.out]; exact HX.out,B',y0,y1,y2,S'⟩
    case measure=>simp [intOf]; omega
   ·have a3:(!aX r.body[k].atom)=true:=by simpa using hx
    have HX:=η hx;clear hx;go_wp2;go_ret;exact ⟨aH (by rw [rY r.body k a0 (by simpa using HX.out)]; simp),B'⟩
  ·have he:=η (show k=r.body.length by omega)
   have ha:Hid (r.body.all (fun p=>aX p.atom)=true):=by have:=HA.out; rw [he.out,ϕ ν] at this; exact this
   go_wp2_with fail
   refine (hok _ J).mono ?_;rintro e w' ⟨rfl,y⟩;have B':=J.trans (y.mono J.size);have y2:=ξ y x2;clear x0 x1 x2 hok;cases b
   all_goals
    go_wp2;go_ret;exact ⟨aH (by rw [ha.out]; first | (simp; done) | (rw [Bool.eq_iff_iff]; simp; omega)),B'⟩
theorem qg (a:A) (c0 c1:Value) (bs:List Nat) (w:World) (h:aI w [c0,c1] a bs):
  Calls Tryz.prog 146 #[.agg #[c0,c1]] w fun e w'=>e=.returned (.bool (dS a))∧Below w.heap.size w w':=by
 have U:=cZ h;obtain ⟨Ad,cap,rfl,rfl⟩:=bI h;obtain ⟨_,_,hv,hl,hm⟩:=ak U;have a1:=aA (τ hl hm);have k1:=fun w' (hb:Below w.heap.size w w')=>qX a _ _ bs w' (aj.below h hb)
 have hf:dS a=(aX a && !jT a.args):=rfl;have HF:=η hf;clear h hv hl hm hf;have J:=(Below.refl w.heap.size w).alloc ν (.cells #[.string a.name,.slice Ad a.args.length cap] 33)
 go_enter Tryz.func146,Tryz.ntmps146
 go_wp2
 go_loopw [3] (fun i wr=>∃ k:Nat,k≤a.args.length∧i=.int .i64 k∧jT (a.args.take k)=false∧wr=w.alloc (.cells #[.string a.name,.slice Ad a.args.length cap] 33)) (fun i _=>a.args.length - (intOf i).toNat)
 case atStart=>exact ⟨0,ε,rfl,rfl,rfl⟩
 case round=>
  obtain ⟨k,hk,rfl,y,rfl⟩:=hrel;have HA:=η y;clear y;by_cases I:k < a.args.length
  ·obtain ⟨b,o,rfl,_,d0,d1,_⟩:=dU (aN.below U (ϑ.alloc ν (.cells #[.string a.name,.slice Ad a.args.length cap] 33))) I
   clear U;cases hv:a.args[k].var
   ·have HV:=η hv
    rw [hv] at d0;clear hv;go_wp2;go_roundw
    case rel=>exact ⟨k+1,by omega,by go_num,by rw [yC a.args k I,HA.out,HV.out]; rfl,(by simp)⟩
    case measure=>simp [intOf]; omega
   ·have HV:=η (Ba a.args k I hv)
    rw [hv] at d0;clear hv;go_wp2;go_ret;exact ⟨aH (by rw [HF.out,HV.out]; simp),J⟩
  ·have he:=η (show k=a.args.length by omega)
   go_wp2_with fail
   refine (k1 _ J).mono ?_;rintro e w' ⟨rfl,a0⟩;go_wp2;go_ret;exact ⟨aH (by have:=HA.out; rw [he.out,ϕ ν] at this; rw [HF.out,this]; simp),J.trans (a0.mono J.size)⟩
theorem EX:(Tryz.prog.info? 42).map (fun i=>(i.zero,i.size,i.bytes))=some (some (.agg #[.bool false,.string ⟨#[]⟩,.slice none 0 0]),3,48):=by kernel_rfl
def D.Vj (p:Pt):Prop:=Sm p.atom.name∧p.atom.args.length≤4∧∀ t ∈ p.atom.args,Sm t.name
structure jJ (g p:Nat) (w:World) (xs:List Pt) (v:Value) (wr:World):Prop where
 coll:∃ L bs,aW 3 nJ w.heap.size 42 wr v L xs bs∧∀ b ∈ bs,w.heap.size≤b
 small:∀ x ∈ xs,Vj x
 rdr:kC g p wr
 kept:aG [g] w wr
 glt:g < w.heap.size
section
variable {g p:Nat} {w:World} {xs:List Pt} {v:Value} {wr:World}
theorem jJ.call {p2:Nat} {y:World} (h:jJ g p w xs v wr) (U:kC g p2 y) (hK:aG [g] wr y):jJ g p2 w xs v y:=by
 obtain ⟨L,bs,J,I⟩:=h.coll;exact ⟨⟨L,bs,J.NC iV hK h.glt (Gh h.rdr.Wi J.row),I⟩,h.small,U,h.kept.trans hK,h.glt⟩
theorem jJ.below {I:World} (h:jJ g p w xs v wr) (hB:Below wr.heap.size wr I):jJ g p w xs v I:=by
 obtain ⟨L,bs,J,y⟩:=h.coll;exact ⟨⟨L,bs,J.below iV hB,y⟩,h.small,h.rdr.below hB,h.kept.fJ hB h.kept.size,h.glt⟩
theorem jJ.parts (h:jJ g p w xs v wr):∃ bs,gU wr [v] xs bs∧∀ b ∈ bs,w.heap.size≤b:=by
 obtain ⟨L,bs,I,y⟩:=h.coll;obtain ⟨J,U,h2⟩:=I.slice;exact ⟨J,U,fun b hb=>(h2 b hb).elim id (y b)⟩
theorem jJ.shape (h:jJ g p w xs v wr):∃ A c,v=.slice A xs.length c:=by
 obtain ⟨L,bs,y,_⟩:=h.coll;exact fE y.own
theorem jJ.part {a:A} {y:Option Addr} {c2:Nat} {I:List Nat} {N pN:Nat} (h:jJ g p w xs v wr) {wN:World} (hN:jJ g pN w xs v wN) (a5:wN.heap.size=N) (a0:aI wr [.string a.name,.slice y a.args.length c2] a I) (hf:∀ b ∈ I,N≤b) (no:Bool):
  ∃ L bs,aW 3 nJ w.heap.size 42 (wr.alloc (.cells #[.bool no,.string a.name,.slice y a.args.length c2] 42)) v L xs bs∧(∀ b ∈ bs ++ I,w.heap.size≤b)∧aQ 3 nJ (wr.alloc (.cells #[.bool no,.string a.name,.slice y a.args.length c2] 42)) [.bool no,.string a.name,.slice y a.args.length c2] [⟨no,a⟩] I∧
   Lies (wr.alloc (.cells #[.bool no,.string a.name,.slice y a.args.length c2] 42)) (some ⟨wr.heap.size,0,none⟩) [.bool no,.string a.name,.slice y a.args.length c2]∧(∀ b ∈ I,v.ownBlock ≠ some b)∧Below w.heap.size wr (wr.alloc (.cells #[.bool no,.string a.name,.slice y a.args.length c2] 42)):=by
 obtain ⟨L,bs,hC,a1⟩:=h.coll;obtain ⟨L',bs',a2,_⟩:=hN.coll;have hA:Below wr.heap.size wr (wr.alloc (.cells #[.bool no,.string a.name,.slice y a.args.length c2] 42)):=ζ;obtain ⟨s,J,a3,a4⟩:=aj.below a0 hA;simp only [List.cons.injEq,and_true,true_and] at J;subst J;exact ⟨L,bs,hC.below iV hA,fun b U=>(μ.1 U).elim (a1 b) (fun U=>by have:=hf b U; have:=hN.kept.size; omega),aQ.cu Bh ⟨_,rfl,a3,a4⟩,aP (ω _ _),fun b U=>jG a2.own (by have:=hf b U; omega),ϑ.alloc h.kept.size _⟩
theorem jJ.app {J:World} {v4:Value} {L4:List Value} {I:List Nat} {y:Pt} (h:jJ g p w xs v wr) (hC:aW 3 nJ w.heap.size 42 J v4 L4 (xs ++ [y]) I) (U:∀ b ∈ I,w.heap.size≤b) (hB:Below w.heap.size wr J) (hy:Vj y):jJ g p w (xs ++ [y]) v4 J:=
 ⟨⟨L4,I,hC,U⟩,fun x hx=>(μ.1 hx).elim (h.small x) (fun hx=>by rw [List.mem_singleton.1 hx]; exact hy),h.rdr.fJ hB h.glt,h.kept.fJ hB ν,h.glt⟩
end
def Wl (k m g p q:Nat) (w:World) (e:Ending) (w':World):Prop:=
 ∃ (xs:List Pt) (v:Value) (y:Nat),e=.returned v∧k≤xs.length∧xs.length≤m∧y≤p+q∧jJ g y w xs v w'
theorem yZ (g p:Nat) (ws:List ByteArray) (n b:Nat) (w:World) (h:kC g p w) (hb:w.heap[b]? = some (.cells (ws.map Value.string).toArray 9 (0,0))) (aR:g ≠ b) (hp:p≤700000) (hn:ws.length=n) (h1:1≤n) (h2:n≤100) (hs:∀ s ∈ ws,Sm s):
  Calls Tryz.prog 158 #[.pointer (some ⟨g,0,none⟩),.slice (some ⟨b,0,none⟩) n n] w (Wl 1 3 g p 25 w):=by
 obtain ⟨i0,hi,b1,b2,b3⟩:=info_parts EX;have hA:Below w.heap.size w (w.alloc (.cells #[] 42)):=ζ;have HF:Hid (jJ g p w [] (.slice (some ⟨w.heap.size,0,none⟩) 0 0) (w.alloc (.cells #[] 42))):=η ⟨⟨_,_,aW.empty (ω w _) ν,fun b hb=>by simp at hb⟩,fun a ha=>by simp at ha,h.below hA,aG.of_below hA,h.lt⟩;have av:=pick_any g p 3 _ HF.out.rdr (by omega) (by omega) (by omega);have HP:=η hp;have b5:=η hb;have a0:=fun p' w' hR bl bn=>Ri g p' ws n b w' hR bl aR bn hn h1 h2 hs
 have b6:=η a0;have b7:=η aR;clear h hp hA hb aR hn h1 h2 hs a0
 go_enter Tryz.func158,Tryz.ntmps158
 go_wp2_with fail
 refine av.mono ?_;rintro e w1 ⟨m,rfl,hm,bc,bf⟩;have bg:=η (HF.out.call bc (aG.dV bf));have HN:Hid (m < 3):=η (by omega);have bo:(m:Int) < 3:=hm;clear av bc bf HF hm;go_wp2
 go_loopw [5,6] (fun v i wr=>∃ (k:Nat) (xs:List Pt) (Av:Option Addr) (cp p':Nat),i=.int .i64 k∧v=.slice Av xs.length cp∧xs.length+k=m+1∧p'+8 * k≤p+1+8 * (m+1)∧jJ g p' w xs (.slice Av xs.length cp) wr) (fun _ i _=>(intOf i).toNat)
 case atStart=>exact ⟨m+1,[],_,_,p+1,by congr 1; omega,rfl,by simp,by omega,bg.out⟩
 case round=>
  obtain ⟨k,xs,Av,cp,p',rfl,rfl,hk,hp,hF⟩:=hrel;have b8:=η hF;have HX:Hid (xs.length+k=m+1∧p'+8 * k≤p+1+8 * (m+1)):=η ⟨hk,hp⟩;have HQ:Hid (p'≤800000∧k≤3∧xs.length≤3):=η (by have:=HP.out; have:=HN.out; omega);clear hF bg hk hp bo;by_cases b9:0 < k
  ·have bq:(0:Int) < (k:Int):=by omega
   have br:(k:Int)≤3:=by have:=HQ.out.2.1; omega
   have HK:=η b9;have av:=pick_any g p' 6 wr b8.out.rdr (by have:=HQ.out; omega) (by omega) (by omega);clear b9
   go_wp2_with fail
   refine av.mono ?_;rintro e w2 ⟨m6,rfl,bp,bh,bi⟩;have a5:=η (b8.out.call bh (aG.dV bi));clear av bh bi bp;by_cases hz:m6=0
   ·subst hz
    by_cases bt:0 < xs.length
    ·have bj:(0:Int) < (xs.length:Int):=by omega
     have a0:=b6.out (p'+1) w2 a5.out.rdr (a5.out.kept.blk b5.out (by simp; exact fun e=>b7.out e.symm)) (by have:=HQ.out.1; omega)
     go_wp2_with fail
     refine a0.mono ?_;rintro e w3 ⟨s,rfl,hs,a1,a6⟩;have a7:=η (a5.out.call a1 a6);have a8:=mG s true g (p'+1+1) w3 a1 (by have:=HQ.out.1; omega) hs;clear a0 a1 a6 hs
     go_wp2_with fail
     refine a8.mono ?_;rintro e w4 ⟨a,v4,L4,p4,rfl,a2,a9,a3,aa,aw,ab,I⟩;obtain ⟨b4,J,y⟩:=a3.slice;obtain ⟨A4,c4,rfl⟩:=fE a3.own;have a4:=η (a7.out.call aa ab);have ac:Hid (Vj ⟨true,a⟩∧p4≤p'+8):=η ⟨⟨a2,Nat.le_succ_of_le a9,I⟩,by omega⟩;obtain ⟨L5,bk,ae,U,af,ag,am,ao⟩:=a4.out.part a7.out rfl ⟨_,rfl,Sm.max a2,J⟩ (fun b hb=>(y b hb).resolve_right (by simp)) (true);have HY:=η (ι ae (ι U (ι af (ι ag (ι am ao)))));have ap:Hid (xs.length+1≤maxLen∧(xs.length+1) * 48≤140737488355328):=η (by have:=HQ.out; unfold maxLen; omega);clear a8 a2 a9 a3 aa aw ab I J y ae U af ag am ao;have az:Hid (w.heap.size≤(w4.alloc (.cells #[.bool true,.string a.name,.slice A4 a.args.length c4] 42)).heap.size):=η (by have:=a4.out.kept.size; simp; omega)
     go_wp2_with (at_builtin; refine bJ rfl _ _ _ rfl w.heap.size 42 i0 (.agg #[.bool false,.string ⟨#[]⟩,.slice none 0 0]) 3 48 Tryz.underlying38 hi b1 b2 b3 rfl (by omega) iV (.slice Av xs.length cp) xs.length _ _ _ rfl HY.out.1 rfl (some ⟨w4.heap.size,0,none⟩) 1 1 _ [⟨true,a⟩] _ rfl HY.out.2.2.1 rfl HY.out.2.2.2.1 HY.out.2.2.2.2.1 ap.out.1 ap.out.2 w4 w.heap.size HY.out.2.2.2.2.2 ν az.out ?_; intro A6 aD w6 aq ar aE aL)
     have aM:=η (a4.out.app aq HY.out.2.1 ar ac.out.1);clear aq ar aE aL HY;go_wp2;go_roundw
     case rel=>exact ⟨k - 1,xs ++ [⟨true,a⟩],A6,aD,p4,by have:=HK.out; first | (unfold wrap64; congr 1; omega) | go_num,by rw [χ]; rfl,by rw [χ]; have:=HX.out; have:=HK.out; simp; omega,by have:=HX.out; have:=HK.out; have:=ac.out.2; omega,by rw [χ]; exact aM.out⟩
     case measure=>have:=HK.out; simp [intOf]; omega
    ·have bj:¬ (0:Int) < (xs.length:Int):=by omega
     have a0:=b6.out (p'+1) w2 a5.out.rdr (a5.out.kept.blk b5.out (by simp; exact fun e=>b7.out e.symm)) (by have:=HQ.out.1; omega)
     go_wp2_with fail
     refine a0.mono ?_;rintro e w3 ⟨s,rfl,hs,a1,a6⟩;have a7:=η (a5.out.call a1 a6);have a8:=mG s true g (p'+1+1) w3 a1 (by have:=HQ.out.1; omega) hs;clear a0 a1 a6 hs
     go_wp2_with fail
     refine a8.mono ?_;rintro e w4 ⟨a,v4,L4,p4,rfl,a2,a9,a3,aa,aw,ab,I⟩;obtain ⟨b4,J,y⟩:=a3.slice;obtain ⟨A4,c4,rfl⟩:=fE a3.own;have a4:=η (a7.out.call aa ab);have ac:Hid (Vj ⟨false,a⟩∧p4≤p'+8):=η ⟨⟨a2,Nat.le_succ_of_le a9,I⟩,by omega⟩;obtain ⟨L5,bk,ae,U,af,ag,am,ao⟩:=a4.out.part a7.out rfl ⟨_,rfl,Sm.max a2,J⟩ (fun b hb=>(y b hb).resolve_right (by simp)) (false);have HY:=η (ι ae (ι U (ι af (ι ag (ι am ao)))));have ap:Hid (xs.length+1≤maxLen∧(xs.length+1) * 48≤140737488355328):=η (by have:=HQ.out; unfold maxLen; omega);clear a8 a2 a9 a3 aa aw ab I J y ae U af ag am ao;have az:Hid (w.heap.size≤(w4.alloc (.cells #[.bool false,.string a.name,.slice A4 a.args.length c4] 42)).heap.size):=η (by have:=a4.out.kept.size; simp; omega)
     go_wp2_with (at_builtin; refine bJ rfl _ _ _ rfl w.heap.size 42 i0 (.agg #[.bool false,.string ⟨#[]⟩,.slice none 0 0]) 3 48 Tryz.underlying38 hi b1 b2 b3 rfl (by omega) iV (.slice Av xs.length cp) xs.length _ _ _ rfl HY.out.1 rfl (some ⟨w4.heap.size,0,none⟩) 1 1 _ [⟨false,a⟩] _ rfl HY.out.2.2.1 rfl HY.out.2.2.2.1 HY.out.2.2.2.2.1 ap.out.1 ap.out.2 w4 w.heap.size HY.out.2.2.2.2.2 ν az.out ?_; intro A6 aD w6 aq ar aE aL)
     have aM:=η (a4.out.app aq HY.out.2.1 ar ac.out.1);clear aq ar aE aL HY;go_wp2;go_roundw
     case rel=>exact ⟨k - 1,xs ++ [⟨false,a⟩],A6,aD,p4,by have:=HK.out; first | (unfold wrap64; congr 1; omega) | go_num,by rw [χ]; rfl,by rw [χ]; have:=HX.out; have:=HK.out; simp; omega,by have:=HX.out; have:=HK.out; have:=ac.out.2; omega,by rw [χ]; exact aM.out⟩
     case measure=>have:=HK.out; simp [intOf]; omega
   ·have bu:¬ (m6:Int)=0:=by omega
    have a0:=b6.out (p'+1) w2 a5.out.rdr (a5.out.kept.blk b5.out (by simp; exact fun e=>b7.out e.symm)) (by have:=HQ.out.1; omega)
    go_wp2_with fail
    refine a0.mono ?_;rintro e w3 ⟨s,rfl,hs,a1,a6⟩;have a7:=η (a5.out.call a1 a6);have a8:=mG s true g (p'+1+1) w3 a1 (by have:=HQ.out.1; omega) hs;clear a0 a1 a6 hs
    go_wp2_with fail
    refine a8.mono ?_;rintro e w4 ⟨a,v4,L4,p4,rfl,a2,a9,a3,aa,aw,ab,I⟩;obtain ⟨b4,J,y⟩:=a3.slice;obtain ⟨A4,c4,rfl⟩:=fE a3.own;have a4:=η (a7.out.call aa ab);have ac:Hid (Vj ⟨false,a⟩∧p4≤p'+8):=η ⟨⟨a2,Nat.le_succ_of_le a9,I⟩,by omega⟩;obtain ⟨L5,bk,ae,U,af,ag,am,ao⟩:=a4.out.part a7.out rfl ⟨_,rfl,Sm.max a2,J⟩ (fun b hb=>(y b hb).resolve_right (by simp)) (false);have HY:=η (ι ae (ι U (ι af (ι ag (ι am ao)))));have ap:Hid (xs.length+1≤maxLen∧(xs.length+1) * 48≤140737488355328):=η (by have:=HQ.out; unfold maxLen; omega);clear a8 a2 a9 a3 aa aw ab I J y ae U af ag am ao;have az:Hid (w.heap.size≤(w4.alloc (.cells #[.bool false,.string a.name,.slice A4 a.args.length c4] 42)).heap.size):=η (by have:=a4.out.kept.size; simp; omega)
    go_wp2_with (at_builtin; refine bJ rfl _ _ _ rfl w.heap.size 42 i0 (.agg #[.bool false,.string ⟨#[]⟩,.slice none 0 0]) 3 48 Tryz.underlying38 hi b1 b2 b3 rfl (by omega) iV (.slice Av xs.length cp) xs.length _ _ _ rfl HY.out.1 rfl (some ⟨w4.heap.size,0,none⟩) 1 1 _ [⟨false,a⟩] _ rfl HY.out.2.2.1 rfl HY.out.2.2.2.1 HY.out.2.2.2.2.1 ap.out.1 ap.out.2 w4 w.heap.size HY.out.2.2.2.2.2 ν az.out ?_; intro A6 aD w6 aq ar aE aL)
    have aM:=η (a4.out.app aq HY.out.2.1 ar ac.out.1);clear aq ar aE aL HY;go_wp2;go_roundw
    case rel=>exact ⟨k - 1,xs ++ [⟨false,a⟩],A6,aD,p4,by have:=HK.out; first | (unfold wrap64; congr 1; omega) | go_num,by rw [χ]; rfl,by rw [χ]; have:=HX.out; have:=HK.out; simp; omega,by have:=HX.out; have:=HK.out; have:=ac.out.2; omega,by rw [χ]; exact aM.out⟩
    case measure=>have:=HK.out; simp [intOf]; omega
  ·obtain rfl:k=0:=by omega
   clear b9;go_wp2;go_ret;exact ⟨xs,_,p',rfl,by have:=HX.out; omega,by have:=HX.out; have:=HN.out; omega,by have:=HX.out; have:=HN.out; omega,b8.out⟩
theorem y8 (g p:Nat) (w:World) (h:kC g p w) (hp:p≤800000):
  Calls Tryz.prog 160 #[.pointer (some ⟨g,0,none⟩)] w (IW 3 g p 7 w):=by
 have hA:Below w.heap.size w (w.alloc (.cells #[.string ⟨#[]⟩,.slice none 0 0] 33)):=ζ;have ho:=pV g p [⟨#[101]⟩,⟨#[101]⟩,⟨#[101]⟩,⟨#[112]⟩,⟨#[112]⟩,⟨#[113]⟩,⟨#[122]⟩,⟨#[104]⟩] 8 (w.alloc (.cells #[.string ⟨#[]⟩,.slice none 0 0] 33)) (h.below hA) (by omega) rfl (by decide) (by decide) (by decide);rw [World.size_alloc] at ho;have hg:=h.lt;have y:=η (ω w (.cells #[.string ⟨#[]⟩,.slice none 0 0] 33));have a1:=η hp;clear h hp
 go_enter Tryz.func160,Tryz.ntmps160
 go_wp2_with fail
 refine ho.mono ?_;rintro e w1 ⟨s,rfl,hs,hR,hK⟩;replace y:=η (hK.blk y.out (by simp; omega));have HK:=η ((aG.of_below hA (bs:=[g])).trans hK);have J:=IZ s false g (p+1) w1 hR (by have:=a1.out; omega) hs;clear ho hK hR hA
 go_wp2_with fail
 refine J.mono ?_;rintro e w2 ⟨a,v,L,p',rfl,U,hx,hC,a0,a2,I⟩;replace y:=η (I.blk y.out (by simp; omega));have z0:=ai (o:=0) y.out;have z1:=ai (o:=1) y.out;have f0:=ax (o:=0) y.out;have f1:=ax (o:=1) y.out;simp only [List.getElem?_toArray,List.getElem?_cons_zero,List.getElem?_cons_succ] at z0 z1;obtain ⟨Av,cv,rfl⟩:=fE hC.own;have HD:=η (Jd (k:=3) (p0:=p) (q:=7) y.out ν hC HK.out.size a0 (HK.out.trans I) hg U hx (by omega));clear J hC a0 I U hx a2 hs;go_wp2;refine bodyPost_ret (v:=.agg #[.string a.name,.slice Av a.args.length cv]) (by simp [results,Tryz.results160,go_sem,z0,z1]) rfl HD.out
end
section
open Go.RowKit Go.ChangeMaps Go.MapKept D
def D.EY (b:Nat) (w:World):Prop:=∃ es y,w.heap[b]? = some (.map es y)∧(∀ x ∈ es.toList,x.born < y)∧(es.toList.map (·.born)).Nodup
theorem D.EY.push {b J:Nat} {es:Array MapEntry} {w:World} (U:w.heap[b]? = some (.map es J)) (k v:Value) (h:EY b w):EY b (setBlock w b (.map (es.push ⟨k,v,J⟩) (J+1))):=by
 obtain ⟨a0,a1,h1,h2,h3⟩:=h;rw [U] at h1;cases h1;refine ⟨_,_,heap_setBlock_same U _,fun x I=>?_,?_⟩
 ·rw [Array.toList_push] at I
  rcases μ.1 I with I | I
  ·exact Nat.lt_succ_of_lt (h2 x I)
  ·rw [List.mem_singleton.1 I]; exact Nat.lt_succ_self _
 ·rw [Array.toList_push,List.map_append]
  refine List.nodup_append.2 ⟨h3,by simp,fun x I y hy e=>?_⟩;obtain ⟨z,hz,rfl⟩:=List.mem_map.1 I;simp at hy;have:=h2 z hz;omega
theorem wG {P:Program} {kt:TypeId} {W:World→Prop} {S:Value→Prop} (hK:Iz P kt W S) {w:World} (hW:W w) {t e:TypeId} (ht:P.underlying t=some (.map kt e)) {b:Nat} {L:List (Value × Value)} {k:Value} (v:Value) (h:l9 S b L w) (J:S k) (hk:∀ p ∈ L,p.1 ≠ k):
  ∃ w',(Instr.mapUpdate t (.map (some b)) k v).run P w=.ok () w'∧l9 S b (L ++ [(k,v)]) w'∧w.grownBy w' (some b)∧(EY b w→EY b w'):=by
 obtain ⟨⟨es,ck,I,rfl⟩,h2,h3⟩:=h;have U:∀ e ∈ es.toList,S e.key:=fun e he=>h2 (e.key,e.val) (List.mem_map.2 ⟨e,he,rfl⟩)
 rcases kV hK hW J es.toList U with ⟨h5,h6⟩ | ⟨i,e1,h5,h6,h7⟩
 ·refine ⟨setBlock w b (.map (es.push ⟨k,v,ck⟩) (ck+1)),?_,⟨⟨_,_,heap_setBlock_same I _,by simp⟩,?_,?_⟩,kL I _,EY.push I k v⟩
  ·simp [Instr.mapUpdate,run_underlying ht,MapKept.run_getObj_map I,hK.check w false J,h5,MapKept.run_setObj_map _ I,Result.andThen,setBlock]
  ·intro p y
   rcases μ.1 y with y | y
   ·exact h2 p y
   ·rw [List.mem_singleton.1 y]
    exact J
  ·refine List.pairwise_append.2 ⟨h3,List.pairwise_singleton _ _,fun p y q hq=>?_⟩
   rw [List.mem_singleton.1 hq];exact hk p y
 ·exact absurd h7 (hk (e1.key,e1.val) (List.mem_map.2 ⟨e1,List.mem_of_getElem? h6,rfl⟩))
end
section
open Go.RowKit Go.Maps D
theorem D.eU.Jt {b n:Nat} {L:List ByteArray} {f:ByteArray→Int} {w:World} (h:eU b n L f w) {s:ByteArray} (J:s.size≤maxLen) {v:Int} (hv:(if s ∈ L then f s else 0)=v):
  (Instr.lookup 116 (.map (some b)) (.string s) false).run Tryz.prog w=.ok (.int .i64 v) w:=by
 obtain ⟨⟨M,h1,h2,U,h4⟩,h5,h6⟩:=h;obtain ⟨d,y,I,hw⟩:=h1.lookup_int xQ Tryz.underlying116 Tryz.underlying3 (Rj w) (mg J);rw [y]
 have:d=v:=by
  rw [← hv]
  split
  ·rename_i hmem
   have:=h4 s hmem;rw [this] at I;exact xU I.symm
  ·rename_i hmem
   have h7:has M (xR s)=false:=by rw [U s]; simpa using hmem
   rw [atKey_of_not_has h7] at I;exact xU I.symm
 rw [this]
end
end Go.Proofs.YtkjinanbccloeaaGreatDoor
