/- Of the proof of FnExactProofOk: TightS, RuleS, Grnd, Body, HeadsI. -/
import Derived.Test.YtlmngncogomgeaaGreatDoorM09
import Derived.Test.YtlmngncogomgeaaGreatDoorM12
import Derived.Test.YtlmngncogomgeaaGreatDoorM13
set_option linter.unusedVariables false
set_option maxHeartbeats 2000000
set_option maxRecDepth 100000
namespace Go.Proofs.YtlmngncogomgeaaGreatDoor
open Go.RowKit D
attribute [local go_sem ↓] Go.wp_at_zero Go.wp_at_succ
def D.kL (y:List T) (out:List ByteArray):List ByteArray:=y.foldl (fun o t=>if t.var then jM o t.name else o) out
theorem D.I9 (y:List T) (k:Nat) (h:k < y.length) (out:List ByteArray):kL (y.take (k+1)) out=if y[k].var then jM (kL (y.take k) out) y[k].name else kL (y.take k) out:=KO ⟨ByteArray.empty,y⟩ k h out
theorem D.CP {w:World} {g:Nat}:jA w [.slice (some ⟨g,0,none⟩) 0 0] [] []:=⟨_,0,rfl,ν,ε,fun _=>rfl,fun h=>absurd rfl h⟩
theorem vJ (a:A) (out:List ByteArray) (c0 c1 v:Value) (b1 b2:List Nat) (w:World) (h:aP w [c0,c1] a b1) (h2:jA w [v] out b2) (hn:out.length+a.args.length≤16777216):
  Calls Tryz.prog 202 #[.agg #[c0,c1],v] w (QN (jV a out) b2 w.heap.size w):=by
 have ht:=dK h;obtain ⟨Aa,ca,rfl,rfl⟩:=bK h;obtain ⟨As,cs,rfl,_,_⟩:=ai h2;obtain ⟨_,_,a8,a5,a6⟩:=ai ht;have ac:=ay (τ a5 a6);obtain ⟨an,args⟩:=a;dsimp only at *;have hA:Below w.heap.size w (w.alloc (.cells #[.string an,.slice Aa args.length ca] 40)):=ζ;have x1:(w.alloc (.cells #[.string an,.slice Aa args.length ca] 40)).cell? ⟨w.heap.size,1,none⟩=some (.slice Aa args.length ca):=by go_simp
 have I:=η (ι (bV.below h2 hA) (ι hA x1));have HE:Hid (jV ⟨an,args⟩ out=kL args out):=η rfl;have HN:=η hn;clear h h2 a5 a6 a8 hA x1 hn
 go_enter Tryz.func202,Tryz.ntmps202
 go_wp2
 go_loopw [1,5] (fun v i wr=>∃ (k m:Nat) (Av:Option Addr) (cp:Nat) (b4:List Nat),k≤args.length∧i=.int .i64 k∧v=.slice Av m cp∧m=(kL (args.take k) out).length∧jA wr [.slice Av m cp] (kL (args.take k) out) b4∧(∀ c ∈ b4,w.heap.size≤c∨c ∈ b2)∧Below w.heap.size w wr∧wr.cell? ⟨w.heap.size,1,none⟩=some (.slice Aa args.length ca)) (fun _ i _=>args.length - (intOf i).toNat)
 case atStart=>exact ⟨0,out.length,As,cs,b2,ε,rfl,rfl,rfl,I.out.1,fun c hc=>.inr hc,I.out.2.1,I.out.2.2⟩
 case round=>
  obtain ⟨k,m,Av,cp,b4,hk,rfl,rfl,a1,hR,a0,hb,x1⟩:=hrel;have a2:=η a0;clear a0;clear I;have HM:=η a1;by_cases J:k < args.length
  ·obtain ⟨b,o,rfl,_,d0,d1,a9⟩:=dN (aG.below ht hb) J
   have ae:(0:Int)≤(k:Int):=by omega
   have aa:(k:Int) < (args.length:Int):=by omega
   have U:=η J
   have hlen:(kL (args.take k) out).length≤16777216:=by
    have h1:=uZ (args.take k) out;rw [List.length_take] at h1;have:=HN.out;have h3:(kL (args.take k) out).length≤out.length+min k args.length:=h1;omega
   have hp:=Oq (kL (args.take k) out) args[k].name _ b4 wr hR a9 hlen;have HT:=η (I9 args k J out);have HR:=η (ι hR hb);generalize args[k]=t at *;obtain ⟨tv,tn⟩:=t;dsimp only at *;clear a1 hR hb ht hlen J hk;cases tv
   ·have y:Hid (kL (args.take (k+1)) out=kL (args.take k) out):=η (by rw [HT.out]; rfl)
    clear HT hp;go_wp2;go_roundw
    case rel=>exact ⟨k+1,m,Av,cp,b4,U.out,by go_num,rfl,by rw [y.out]; exact HM.out,by rw [y.out]; exact HR.out.1,a2.out,HR.out.2,x1⟩
    case measure=>have:=U.out; simp [intOf]; omega
   ·have y:Hid (kL (args.take (k+1)) out=jM (kL (args.take k) out) tn):=η (by rw [HT.out]; rfl)
    clear HT
    go_wp2_with fail
    refine hp.mono ?_;rintro e w2 ⟨a3,v2,b5,rfl,a4,a7⟩;obtain ⟨A2,p2,rfl,_,_⟩:=ai a4;have HX:=η (ι a4 (ι (HR.out.2.trans (a3.mono HR.out.2.size)) (ξ a3 x1)));have ab:Hid (∀ c ∈ b5,w.heap.size≤c∨c ∈ b2):=η (fun c hc=>(a7 c hc).elim (fun h9=>.inl (τ HR.out.2.size h9)) (a2.out c));clear hp a4 a3 x1 a7;go_wp2;go_roundw
    case rel=>exact ⟨k+1,_,A2,p2,b5,U.out,by go_num,rfl,by rw [y.out],by rw [y.out]; exact HX.out.1,ab.out,HX.out.2.1,HX.out.2.2⟩
    case measure=>have:=U.out; simp [intOf]; omega
  ·have he:=η (show k=args.length by omega)
   have aa:¬ (k:Int) < (args.length:Int):=by omega
   have HX:Hid (jA wr [.slice Av m cp] (kL args out) b4):=η (by rw [he.out,ϕ ν] at hR; exact hR);have HB:=η hb;clear hR a1 hb ht;go_wp2;go_ret;exact ⟨HB.out,_,b4,rfl,by rw [HE.out]; exact HX.out,a2.out⟩
theorem D.Ja {α:Type} (f:α→Nat) (q:α→Bool) (xs:List α):dh f (xs.filter q)≤dh f xs:=by
 induction xs with
 | nil=>simp [dh]
 | cons x xs ih=>
  rw [List.filter_cons];have e:dh f (x :: xs)=f x+dh f xs:=by simp [dh]
  split
  ·have y:dh f (x :: xs.filter q)=f x+dh f (xs.filter q):=by simp [dh]
   omega
  ·omega
theorem D.OL {ps:List Pt} {m:Nat} (y:dh (fun p=>p.atom.args.length) ps≤m) (k:Nat) (out:List ByteArray):(dU (ps.take k) out).length≤out.length+m:=by
 have h1:=mO (ps.take k) out;have I:=oJ (fun p:Pt=>p.atom.args.length) ps k;omega
theorem Jb (r:Ru) (c0 c1 c2:Value) (bs:List Nat) (w:World) (h:jk w [c0,c1,c2] r bs) (hs:dh (fun p=>p.atom.args.length) r.body≤1000000) (hh:r.head.args.length≤1000000):
  Calls Tryz.prog 163 #[.agg #[c0,c1,c2]] w fun e w'=>e=.returned (.bool (eG r.head r.body))∧Below w.heap.size w w':=by
 obtain ⟨p1,p2,rfl,af,a1⟩:=dX h;obtain ⟨Ad,cap,Ae,y,rfl,rfl,rfl⟩:=iK h;obtain ⟨_,_,aD,ag,am⟩:=ai a1;have aR:=ay (τ ag am);obtain ⟨I,ps⟩:=r;dsimp only at *;have hA:Below w.heap.size w (w.alloc (.cells #[.string I.name,.slice Ad I.args.length cap,.slice Ae ps.length y] 77)):=ζ;have x2:(w.alloc (.cells #[.string I.name,.slice Ad I.args.length cap,.slice Ae ps.length y] 77)).cell? ⟨w.heap.size,2,none⟩=some (.slice Ae ps.length y):=by go_simp
 have ao:Below w.heap.size w (((w.alloc (.cells #[.string I.name,.slice Ad I.args.length cap,.slice Ae ps.length y] 77)).alloc (.cells #[] 9)).alloc (.cells #[] 9)):=(hA.alloc (by simp) _).alloc (by simp <;> omega) _;have ap:=vJ I [] _ _ (.slice (some ⟨w.heap.size+1+1,0,none⟩) 0 0) p1 [] _ (ak.below af ao) CP (by simp; omega);have HE:Hid (eG I ps=decide ((dU ps (jV I [])).length=(dU (ps.filter fun p=>!p.no) []).length)):=η rfl;have HS:=η hs;have HH:=η hh;have aq:=η ao;have b1:=η x2;clear h ag am aD hA hs hh af;generalize eG I ps=G at *
 go_enter Tryz.func163,Tryz.ntmps163
 go_wp2_with fail
 refine ap.mono ?_;rintro e w1 ⟨a6,v1,b4,rfl,a7,_⟩;obtain ⟨A1,p9,rfl,_,_⟩:=ai a7;have a2:=η (ι a7 (ι (aq.out.trans (a6.mono aq.out.size)) (ξ a6 (show ((((w.alloc (.cells #[.string I.name,.slice Ad I.args.length cap,.slice Ae ps.length y] 77)).alloc (.cells #[] 9)).alloc (.cells #[] 9)).cell? ⟨w.heap.size,2,none⟩=some (.slice Ae ps.length y)) by go_simp))));clear ap a7 a6 x2;go_wp2
 go_loopw [3,4,5] (fun v3 v4 i wr=>∃ (k m q:Nat) (Av Bv:Option Addr) (cp cq:Nat) (b4 b5:List Nat),k≤ps.length∧i=.int .i64 k∧v3=.slice Bv q cq∧v4=.slice Av m cp∧m=(dU (ps.take k) (jV I [])).length∧jA wr [.slice Av m cp] (dU (ps.take k) (jV I [])) b4∧
  q=(dU ((ps.take k).filter fun p=>!p.no) []).length∧jA wr [.slice Bv q cq] (dU ((ps.take k).filter fun p=>!p.no) []) b5∧Below w.heap.size w wr∧wr.cell? ⟨w.heap.size,2,none⟩=some (.slice Ae ps.length y)) (fun _ _ i _=>ps.length - (intOf i).toNat)
 case atStart=>exact ⟨0,_,0,A1,_,p9,_,b4,[],ε,rfl,rfl,rfl,rfl,a2.out.1,rfl,CP,a2.out.2.1,a2.out.2.2⟩
 case round=>
  obtain ⟨k,m,q,Av,Bv,cp,cq,b4,b5,hk,rfl,rfl,rfl,a8,hR,a9,hQ,hb,x2⟩:=hrel;clear a2;have HM:=η (ι a8 a9);by_cases U:k < ps.length
  ·obtain ⟨b,o,Aa,ce,bk,rfl,_,d0,d1,d2,aa,_⟩:=eU (aU.below a1 hb) U
   have b3:(0:Int)≤(k:Int):=by omega
   have aE:(k:Int) < (ps.length:Int):=by omega
   have a3:=η U
   have ar:(dU (ps.take k) (jV I [])).length+ps[k].atom.args.length≤16777216:=by
    have h1:=OL HS.out k (jV I []);have h2:=Ec I [];have h3:=rX (fun p:Pt=>p.atom.args.length) ps k U;have:=HS.out;have:=HH.out;simp only [List.length_nil] at h2;omega
   have av:(dU ((ps.take k).filter fun p=>!p.no) []).length+ps[k].atom.args.length≤16777216:=by
    have h1:=mO ((ps.take k).filter fun p=>!p.no) [];have h4:=Ja (fun p:Pt=>p.atom.args.length) (fun p=>!p.no) (ps.take k);have h5:=oJ (fun p:Pt=>p.atom.args.length) ps k;have h3:=rX (fun p:Pt=>p.atom.args.length) ps k U;have:=HS.out;simp only [List.length_nil] at h1;omega
   have hp:=vJ ps[k].atom _ _ _ _ bk b4 wr (eX aa) hR ar;have aw:=fun w' (az:Below wr.heap.size wr w')=>vJ ps[k].atom _ _ _ _ bk b5 w' (ak.below (eX aa) az) (bV.below hQ az) av
   have HT:=η (Ig ps k U (jV I []));have a4:=η (Ih ps k U);have HB:=η hb;have HQ:=η hQ;generalize ps[k]=p at *;obtain ⟨no,pa⟩:=p;dsimp only at *;clear a8 a9 hR hQ hb a1 aa U hk ar av
   go_wp2_with fail
   refine hp.mono ?_;rintro e w2 ⟨J,v2,b6,rfl,ab,_⟩;obtain ⟨A2,p2,rfl,_,_⟩:=ai ab;have HX:=η (ι ab (HB.out.trans (J.mono HB.out.size)));replace HQ:=η (bV.below HQ.out J);have ac:=aw _ J;replace x2:=ξ J x2;replace d0:=ξ J d0;replace d1:=ξ J d1;replace d2:=ξ J d2;clear hp aw ab J;cases no
   ·have a0:Hid (dU ((ps.take (k+1)).filter fun p=>!p.no) []=jV pa (dU ((ps.take k).filter fun p=>!p.no) [])):=η (by rw [a4.out]; unfold dU; rw [List.foldl_append]; rfl)
    clear a4
    go_wp2_with fail
    refine ac.mono ?_;rintro e w3 ⟨a5,v3,b7,rfl,ae,_⟩;obtain ⟨A3,p3,rfl,_,_⟩:=ai ae;have HY:=η (ι ae (ι (bV.below HX.out.1 a5) (ι (HX.out.2.trans (a5.mono HX.out.2.size)) (ξ a5 x2))));clear ac ae a5 x2 d0 d1 d2;go_wp2;go_roundw
    case rel=>exact ⟨k+1,_,_,A2,A3,p2,p3,b6,b7,a3.out,by go_num,rfl,rfl,by rw [HT.out],by rw [HT.out]; exact HY.out.2.1,by rw [a0.out],by rw [a0.out]; exact HY.out.1,HY.out.2.2.1,HY.out.2.2.2⟩
    case measure=>have:=a3.out; simp [intOf]; omega
   ·have a0:Hid (dU ((ps.take (k+1)).filter fun p=>!p.no) []=dU ((ps.take k).filter fun p=>!p.no) []):=η (by rw [a4.out]; simp)
    clear a4 ac d1 d2;go_wp2;go_roundw
    case rel=>exact ⟨k+1,_,q,A2,Bv,p2,cq,b6,b5,a3.out,by go_num,rfl,rfl,by rw [HT.out],by rw [HT.out]; exact HX.out.1,by rw [a0.out]; exact HM.out.2,by rw [a0.out]; exact HQ.out,HX.out.2,x2⟩
    case measure=>have:=a3.out; simp [intOf]; omega
  ·have he:=η (show k=ps.length by omega)
   have aE:¬ (k:Int) < (ps.length:Int):=by omega
   have aL:Hid (G=decide (m=q)):=η (by
    have h1:=HM.out.1;have h2:=HM.out.2;rw [he.out,ϕ ν] at h1 h2
    rw [HE.out,← h1,← h2])
   have HB:=η hb;clear hR hQ a8 a9 hb a1 HE;go_wp2;go_ret;exact ⟨aA (by rw [aL.out]; first | (simp; omega) | (by_cases aM:m=q <;> simp [aM] <;> omega)),HB.out⟩
theorem D.L8 {α:Type} (f:α→Nat) (c:Nat) (xs:List α) (h:∀ x ∈ xs,f x≤c):dh f xs≤c * xs.length:=by
 induction xs with
 | nil=>simp [dh]
 | cons x xs ih=>
  have e:dh f (x :: xs)=f x+dh f xs:=by simp [dh]
  have h1:=h x Γ;have J:=ih (fun y I=>h y (Δ _ I));rw [e,List.length_cons,Nat.mul_add];omega
theorem L9 (r:Ru) (c0 c1 c2:Value) (bs:List Nat) (w:World) (h:jk w [c0,c1,c2] r bs):
  Calls Tryz.prog 173 #[.agg #[c0,c1,c2]] w fun e w'=>e=.returned (.bool (dS r))∧Below w.heap.size w w':=by
 obtain ⟨b1,b2,rfl,hp,hq⟩:=dX h;obtain ⟨Ad,cap,Ae,I,rfl,rfl,rfl⟩:=iK h;obtain ⟨_,_,hv,hl,hm⟩:=ai hq;have a4:=ay (τ hl hm);have hok:=fun w' (J:Below w.heap.size w w')=>qZ r.head _ _ b1 w' (ak.below hp J)
 have hr:dS r=(decide (r.body.length≤4) && r.body.all (fun p=>aZ p.atom) && aZ r.head):=rfl;rw [hr];clear h hp hv hl hm hr;generalize aZ r.head=b at *;have hA:=(Below.refl w.heap.size w).alloc ν (.cells #[.string r.head.name,.slice Ad r.head.args.length cap,.slice Ae r.body.length I] 77)
 go_enter Tryz.func173,Tryz.ntmps173
 go_wp2
 go_loopw [3] (fun i wr=>∃ k:Nat,k≤r.body.length∧i=.int .i64 k∧(r.body.take k).all (fun p=>aZ p.atom)=true∧Below w.heap.size w wr∧wr.cell? ⟨w.heap.size,0,none⟩=some (.string r.head.name)∧wr.cell? ⟨w.heap.size,1,none⟩=some (.slice Ad r.head.args.length cap)∧wr.cell? ⟨w.heap.size,2,none⟩=some (.slice Ae r.body.length I)∧w.heap.size < wr.heap.size) (fun i _=>r.body.length - (intOf i).toNat)
 case atStart=>exact ⟨0,ε,rfl,rfl,hA,by go_simp,by go_simp,by go_simp,by simp⟩
 case round=>
  obtain ⟨k,hk,rfl,U,J,x0,x1,x2,a5⟩:=hrel;have HA:=η U;clear U hA;by_cases a0:k < r.body.length
  ·obtain ⟨bb,o,Af,cf,bk,rfl,_,d0,d1,d2,a1,_⟩:=eU (aU.below hq J) a0
   have a2:=eX a1;clear hq a1
   go_wp2_with fail
   refine (qZ r.body[k].atom _ _ bk _ a2).mono ?_;rintro e w' ⟨rfl,y⟩;have B':=J.trans (y.mono J.size);have y0:=ξ y x0;have y1:=ξ y x1;have y2:=ξ y x2;have S':w.heap.size < w'.heap.size:=by have:=y.size; omega
   clear a2 x0 x1 x2;by_cases hx:aZ r.body[k].atom=true
   ·have a3:(!aZ r.body[k].atom)=false:=by simp [hx]
    have HX:=η hx;clear hx;go_wp2;go_roundw
    case rel=>exact ⟨k+1,by omega,by go_num,by rw [iQ r.body k a0,HA.out]; exact HX.out,B',y0,y1,y2,S'⟩
    case measure=>simp [intOf]; omega
   ·have a3:(!aZ r.body[k].atom)=true:=by simpa using hx
    have HX:=η hx;clear hx;go_wp2;go_ret;exact ⟨aA (by rw [rZ r.body k a0 (by simpa using HX.out)]; simp),B'⟩
  ·have he:=η (show k=r.body.length by omega)
   have ha:Hid (r.body.all (fun p=>aZ p.atom)=true):=by have:=HA.out; rw [he.out,ϕ ν] at this; exact this
   go_wp2_with fail
   refine (hok _ J).mono ?_;rintro e w' ⟨rfl,y⟩;have B':=J.trans (y.mono J.size);have y2:=ξ y x2;clear x0 x1 x2 hok;cases b
   all_goals
    go_wp2;go_ret;exact ⟨aA (by rw [ha.out]; first | (simp; done) | (rw [Bool.eq_iff_iff]; simp; omega)),B'⟩
theorem lW (a:A) (c0 c1:Value) (bs:List Nat) (w:World) (h:aP w [c0,c1] a bs):
  Calls Tryz.prog 70 #[.agg #[c0,c1]] w fun e w'=>e=.returned (.bool (aW a))∧Below w.heap.size w w':=by
 have U:=dK h;obtain ⟨Ad,cap,rfl,rfl⟩:=bK h;obtain ⟨_,_,hv,hl,hm⟩:=ai U;have a1:=ay (τ hl hm);have k1:=fun w' (hb:Below w.heap.size w w')=>qZ a _ _ bs w' (ak.below h hb)
 have hf:aW a=(aZ a && !jU a.args):=rfl;have HF:=η hf;clear h hv hl hm hf;have J:=(Below.refl w.heap.size w).alloc ν (.cells #[.string a.name,.slice Ad a.args.length cap] 40)
 go_enter Tryz.func70,Tryz.ntmps70
 go_wp2
 go_loopw [3] (fun i wr=>∃ k:Nat,k≤a.args.length∧i=.int .i64 k∧jU (a.args.take k)=false∧wr=w.alloc (.cells #[.string a.name,.slice Ad a.args.length cap] 40)) (fun i _=>a.args.length - (intOf i).toNat)
 case atStart=>exact ⟨0,ε,rfl,rfl,rfl⟩
 case round=>
  obtain ⟨k,hk,rfl,y,rfl⟩:=hrel;have HA:=η y;clear y;by_cases I:k < a.args.length
  ·obtain ⟨b,o,rfl,_,d0,d1,_⟩:=dN (aG.below U (ϑ.alloc ν (.cells #[.string a.name,.slice Ad a.args.length cap] 40))) I
   clear U;cases hv:a.args[k].var
   ·have HV:=η hv
    rw [hv] at d0;clear hv;go_wp2;go_roundw
    case rel=>exact ⟨k+1,by omega,by go_num,by rw [zf a.args k I,HA.out,HV.out]; rfl,(by simp)⟩
    case measure=>simp [intOf]; omega
   ·have HV:=η (AQ a.args k I hv)
    rw [hv] at d0;clear hv;go_wp2;go_ret;exact ⟨aA (by rw [HF.out,HV.out]; simp),J⟩
  ·have he:=η (show k=a.args.length by omega)
   go_wp2_with fail
   refine (k1 _ J).mono ?_;rintro e w' ⟨rfl,a0⟩;go_wp2;go_ret;exact ⟨aA (by have:=HA.out; rw [he.out,ϕ ν] at this; rw [HF.out,this]; simp),J.trans (a0.mono J.size)⟩
theorem Mc (ps:List Pt) (v:Value) (bs:List Nat) (w:World) (h:gJ w [v] ps bs):
  Calls Tryz.prog 254 #[v] w fun e w'=>e=.returned (.bool (nJ ps))∧Below w.heap.size w w':=by
 obtain ⟨Ad,cap,rfl,hl,hm⟩:=ai h;have a4:=ay (τ hl hm);clear hm;unfold nJ;by_cases h4:ps.length≤4
 ·go_enter Tryz.func254,Tryz.ntmps254
  go_wp2
  go_loopw [10] (fun i wr=>∃ k:Nat,k≤ps.length∧i=.int .i64 k∧(ps.take k).all (fun p=>aZ p.atom)=true∧Below w.heap.size w wr) (fun i _=>ps.length - (intOf i).toNat)
  case atStart=>exact ⟨0,ε,rfl,rfl,ϑ⟩
  case round=>
   obtain ⟨k,hk,rfl,y,U⟩:=hrel;have HA:=η y;clear y;by_cases I:k < ps.length
   ·obtain ⟨b0,o,Ae,ce,bk,rfl,_,d0,d1,d2,a0,_⟩:=eU (aU.below h U) I
    have hA:=(Below.refl wr.heap.size wr).alloc ν (.cells #[.bool ps[k].no,.string ps[k].atom.name,.slice Ae ps[k].atom.args.length ce] 209);have a1:=ak.below (eX a0) hA;clear h a0
    go_wp2_with fail
    refine (rq ps[k].atom _ _ bk _ a1).mono ?_;rintro e w' ⟨rfl,a2⟩;have B':=(U.trans (hA.mono U.size)).trans (a2.mono (by have:=hA.size; have:=U.size; omega));clear a1 hA;by_cases J:aZ ps[k].atom=true
    ·have a3:(!aZ ps[k].atom)=false:=by simp [J]
     have HX:=η J;clear J;go_wp2;go_roundw
     case rel=>exact ⟨k+1,by omega,by go_num,by rw [iQ ps k I,HA.out]; exact HX.out,B'⟩
     case measure=>simp [intOf]; omega
    ·have a3:(!aZ ps[k].atom)=true:=by simpa using J
     have HX:=η J;clear J;go_wp2;go_ret;exact ⟨aA (by rw [rZ ps k I (by simpa using HX.out)]; simp),B'⟩
   ·have he:=η (show k=ps.length by omega)
    go_wp2;go_ret;exact ⟨aA (by have:=HA.out; rw [he.out,ϕ ν] at this; rw [this]; simp; omega),U⟩
 ·go_enter Tryz.func254,Tryz.ntmps254
  go_wp2;go_ret;exact ⟨aA (by simp; omega),ϑ⟩
def D.xw (L:List ByteArray) (s:ByteArray):Int:=(L.idxOf s:Nat)
theorem D.Jc (rs:List Ru) (k:Nat) (h:k < rs.length):aJ (rs.take (k+1))=fO (aJ (rs.take k)) rs[k].head.name:=by
 unfold aJ bI;rw [ρ h,List.map_append,List.foldl_append];rfl
theorem D.Ut {L:List ByteArray} {s:ByteArray} (h:s ∉ L):∀ t ∈ fO L s,(if t=s then (L.length:Int) else xw L t)=xw (fO L s) t:=fun t y=>by
 unfold xw fO at *;rw [if_neg h] at *;by_cases e:t=s
 ·subst e
  rw [if_pos rfl,List.idxOf_append,if_neg h];simp
 ·rw [if_neg e]
  have:t ∈ L:=by simpa [e] using y
  rw [List.idxOf_append,if_pos this]
theorem CQ (rs:List Ru) (v:Value) (bs:List Nat) (w:World) (h:dD w [v] rs bs) (hf:rs.length≤1000000):
  Calls Tryz.prog 165 #[v] w fun e w'=>e=.returned (.map (some w.heap.size))∧(∃ n,gQ w.heap.size n (aJ rs) (xw (aJ rs)) w')∧Below w.heap.size w w':=by
 obtain ⟨Ad,cap,rfl,hl,hm⟩:=ai h;have af:=ay (τ hl hm);have a8:=@run_makeMap Tryz.prog;have a2:=η (gQ.made w (xw []));have a3:Below w.heap.size w (w.alloc (.map #[] 0)):=ζ;have a4:=η a3;clear hl hm a3
 go_enter Tryz.func165,Tryz.ntmps165
 go_wp2;generalize w.alloc (.map #[] 0)=w0 at *
 go_loopw [11] (fun i wr=>∃ k:Nat,k≤rs.length∧i=.int .i64 k∧gQ w.heap.size k (aJ (rs.take k)) (xw (aJ (rs.take k))) wr∧Below w.heap.size w wr) (fun i _=>rs.length - (intOf i).toNat)
 case atStart=>exact ⟨0,ε,rfl,a2.out,a4.out⟩
 case round=>
  obtain ⟨k,hk,rfl,U,hB⟩:=hrel;clear a2 a4 a8;by_cases y:k < rs.length
  ·obtain ⟨b,o,Ae,ce,Af,cf,bk,rfl,_,d0,d1,d2,a5,_⟩:=eF h y
   replace d0:=ξ hB d0;replace d1:=ξ hB d1;replace d2:=ξ hB d2;have ag:(0:Int)≤(k:Int):=by omega
   have a9:(k:Int) < (rs.length:Int):=by omega
   have hA:Below wr.heap.size wr (wr.alloc (.cells #[.string rs[k].head.name,.slice Ae rs[k].head.args.length ce,.slice Af rs[k].body.length cf] 77)):=ζ;have I:=η y;have a0:=η (Jc rs k y);have a1:Hid (rs[k].head.name.size≤maxLen):=η (by obtain ⟨_,_,_,_,_,hs,_⟩:=a5; exact hs);have HM:=η (U.below hA U.lt);have HB:=η (hB.trans (hA.mono hB.size));have aa:Hid ((aJ (rs.take k)).length≤1000000):=η (by have:=U.Vq; omega);have ab:k < maxLen:=by unfold maxLen; omega
   clear h a5 hA U hB;generalize rs[k]=r at *;generalize aJ (rs.take k)=L at *;clear y;obtain ⟨⟨nm,args⟩,body⟩:=r;dsimp only at *;by_cases J:nm ∈ L
   ·have HD:Hid (decide (nm ∈ L)=true):=η (decide_eq_true J)
    have HV:Hid ((if nm ∈ L then xw L nm else 0)=xw L nm):=η (if_pos J);have HP:Hid (aJ (rs.take (k+1))=L):=η (by rw [a0.out]; unfold fO; rw [if_pos J]);clear J a0
    go_wp2_with (first | (at_lookup; refine dA _ rfl _ _ _ rfl Tryz.underlying112 _ _ L _ rfl HM.out nm rfl a1.out true HD.out _ HV.out ?_) | go_in)
    go_roundw
    case rel=>exact ⟨k+1,I.out,by go_num,by rw [HP.out]; exact HM.out.mono (Nat.le_succ k),HB.out⟩
    case measure=>have:=I.out; simp [intOf]; omega
   ·have HD:Hid (decide (nm ∈ L)=false):=η (decide_eq_false J)
    have HV:Hid ((if nm ∈ L then xw L nm else 0)=0):=η (if_neg J);have HI:=η (Ut J);have am:=aa.out;clear J
    go_wp2_with (first | (at_lookup; refine dA _ rfl _ _ _ rfl Tryz.underlying112 _ _ L _ rfl HM.out nm rfl a1.out false HD.out _ HV.out ?_) | (at_len; refine gy _ rfl _ _ rfl Tryz.underlying112 _ _ L _ rfl HM.out ?_) | (at_mapUpdate; refine jT _ rfl _ _ _ _ rfl Tryz.underlying112 _ _ L _ rfl HM.out nm rfl a1.out _ rfl ab (by omega) ?_; intro w1 a6 a7) | go_in)
    have ac:=η (a6.congr HI.out);have ae:=η (HB.out.grown a7 (by have:=HB.out.size; exact this) fun j hj=>by cases hj; exact ν);clear a6 a7;go_roundw
    case rel=>exact ⟨k+1,I.out,by go_num,by rw [a0.out]; exact ac.out,ae.out⟩
    case measure=>have:=I.out; simp [intOf]; omega
  ·have he:k=rs.length:=by omega
   have a9:¬ (k:Int) < (rs.length:Int):=by omega
   subst he;rw [ϕ ν] at U;have HM:=η U;clear U h;go_wp2;go_ret;exact ⟨rfl,⟨_,HM.out⟩,hB⟩
end Go.Proofs.YtlmngncogomgeaaGreatDoor
