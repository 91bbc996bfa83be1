/- Of the proof of FnExactProofOk: FitS, Bound, PatI. -/
import Derived.Test.YtlmngncogomgeaaGreatDoorM17
import Derived.Test.YtlmngncogomgeaaGreatDoorM18
import Derived.Deep.RegionHeldLaw
import Derived.Test.YtlmngncogomgeaaGreatDoorM15
set_option linter.unusedVariables false
set_option maxHeartbeats 2000000
set_option maxRecDepth 100000
namespace Go.Proofs.YtlmngncogomgeaaGreatDoor
open Go.RowKit D
attribute [local go_sem ↓] Go.wp_at_zero Go.wp_at_succ
def D.OT (y:List A) (x:A):Bool:=y.all fun a=>!clash a x
def D.rE (y:List A) (xs:List A):Bool:=xs.all (OT y)
def D.jg (rs:List Ru) (xs:List A):Bool:=decide (eH rs=0) && lT xs && rE (aH rs) xs
theorem D.Jj (y xs:List A) (k:Nat) (h:k < xs.length) (h0:rE y (xs.take k)=true):rE y (xs.take (k+1))=OT y xs[k]:=by
 unfold rE at *;rw [ρ h,List.all_append,h0]; simp
theorem D.NC (y xs:List A) (k:Nat) (h:k < xs.length) (h0:OT y xs[k]=false):rE y xs=false:=List.all_eq_false.2 ⟨_,δ h,by simp [h0]⟩
theorem OU (rs:List Ru) (ys:List A) (v v2:Value) (bs b9:List Nat) (w:World) (h:dD w [v] rs bs) (h2:aQ w [v2] ys b9) (hn:(aH rs).length≤1000000):
  Calls Tryz.prog 120 #[v,v2] w fun e w'=>e=.returned (.bool (rE (aH rs) ys))∧Below w.heap.size w w':=by
 obtain ⟨Ad,cap,rfl,hl,hm⟩:=ai h;obtain ⟨Ay,cy,rfl,a4,a5⟩:=ai h2;have af:=ay (τ hl hm);have ab:=ay (τ a4 a5);have c1:=zH rs _ bs w h hn;generalize aH rs=xs at *;clear hl hm h a4 a5
 go_enter Tryz.func120,Tryz.ntmps120
 go_wp2_with fail
 refine c1.mono ?_;rintro e w1 ⟨hB,v1,b2,rfl,hx⟩;obtain ⟨A1,ac,rfl,a6,a7⟩:=ai hx;have ae:=ay (τ a6 a7);have h3:=au.below h2 hB;clear c1 a6 a7 h2;go_wp2
 go_loopw [6] (fun i wr=>∃ k:Nat,k≤ys.length∧i=.int .i64 k∧rE xs (ys.take k)=true∧Below w1.heap.size w1 wr) (fun i _=>ys.length - (intOf i).toNat)
 case atStart=>exact ⟨0,ε,rfl,rfl,ϑ⟩
 case round=>
  obtain ⟨k,hk,rfl,a3,hb⟩:=hrel;have HA:=η a3;have HB:=η hb;clear a3 hb;by_cases a0:k < ys.length
  ·have ag:(0:Int)≤(k:Int):=by omega
   have aa:(k:Int) < (ys.length:Int):=by omega
   have HS:=η (Jj xs ys k a0 HA.out);have U:=η (NC xs ys k a0);go_wp2
   go_loopw [7] (fun i wr=>∃ j:Nat,j≤xs.length∧i=.int .i64 j∧(∀ i,(hi:i < xs.length)→i < j→clash xs[i] ys[k]=false)∧Below w1.heap.size w1 wr) (fun i _=>xs.length - (intOf i).toNat)
   case atStart=>exact ⟨0,ε,rfl,fun i _ h=>by omega,HB.out⟩
   case round=>
    obtain ⟨j,hj,rfl,hin,hb⟩:=hrel;have HI:=η hin;have a1:=η hb;clear hin;by_cases a2:j < xs.length
    ·have am:(0:Int)≤(j:Int):=by omega
     have ao:(j:Int) < (xs.length:Int):=by omega
     obtain ⟨b,o,Ae,ce,_,rfl,_,d0,d1,_,_⟩:=dQ (au.below h3 hb) a0;obtain ⟨b',o',Af,cf,_,rfl,_,f0,f1,_,_⟩:=dQ (au.below hx hb) a2;have I:Hid (clash xs[j] ys[k]=true→rE xs ys=false):=η fun h=>U.out (List.all_eq_false.2 ⟨_,δ a2,by simp [h]⟩)
     have J:Hid (clash xs[j] ys[k]=false→∀ i,(hi:i < xs.length)→i < j+1→clash xs[i] ys[k]=false):=η fun h i h9 hi=>by
      by_cases e:i=j
      ·subst e; exact h
      ·exact HI.out i h9 (by omega)
     have HC:Hid (clash xs[j] ys[k]=(decide (xs[j].name=ys[k].name) && decide (xs[j].args.length ≠ ys[k].args.length))):=η rfl;clear hx hb h3 U HS;generalize ys[k]=y at *;generalize xs[j]=x at *;obtain ⟨xn,xa⟩:=x;obtain ⟨yn,ya⟩:=y;dsimp only at *;cases hs:(xn.toList == yn.toList)
     ·have HZ:=η (J.out (by rw [HC.out,← nU,hs]; rfl))
      clear J I HC HI HA HB;go_wp2
      go_quiet (fail)
      go_wp2;go_roundw
      case rel=>exact ⟨j+1,a2,by go_num,HZ.out,below_drewN a1.out _⟩
      case measure=>simp [intOf]; omega
     ·by_cases a8:xa.length=ya.length
      ·have HZ:=η (J.out (by rw [HC.out,a8]; simp))
       have hd:(xa.length:Int)=(ya.length:Int):=by omega
       clear J I HC HI HA HB;go_wp2
       go_quiet (fail)
       go_wp2;go_roundw
       case rel=>exact ⟨j+1,a2,by go_num,HZ.out,below_drewN a1.out _⟩
       case measure=>simp [intOf]; omega
      ·have HZ:=η (I.out (by rw [HC.out,← nU,hs]; simpa using a8))
       have hd:¬ (xa.length:Int)=(ya.length:Int):=by omega
       have a9:=η hB;clear J I HC HI HA HB;go_wp2
       go_quiet (fail)
       go_wp2;go_ret;exact ⟨aA HZ.out.symm,a9.out.trans ((below_drewN a1.out _).mono a9.out.size)⟩
    ·have he:j=xs.length:=by omega
     have ap:¬ (j:Int) < (xs.length:Int):=by omega
     have HZ:Hid (rE xs (ys.take (k+1))=true):=η (HS.out.trans (ό.2 fun a ha=>by
      obtain ⟨i,hi,rfl⟩:=List.mem_iff_getElem.1 ha
      rw [HI.out i hi (by omega)]; rfl))
     clear HI HA HB he HS U;go_wp2;go_roundw
     case rel=>exact ⟨k+1,a0,by go_num,HZ.out,a1.out⟩
     case measure=>simp [intOf]; omega
  ·have he:k=ys.length:=by omega
   have aa:¬ (k:Int) < (ys.length:Int):=by omega
   have HZ:Hid (rE xs ys=true):=η (by have:=HA.out; rw [he,ϕ ν] at this; exact this);clear HA hx h3;go_wp2;go_ret;exact ⟨aA HZ.out.symm,hB.trans (HB.out.mono hB.size)⟩
theorem rF {B:Nat} {a w:World} (h:Below B a w) (n:Nat):Below B a (w.drewN n):=⟨h.os,h.tape,h.output,h.size,h.block⟩
theorem DJ (y:List T) (s:ByteArray) (v:Value) (bs:List Nat) (w:World) (h:fD w [v] y bs):
  Calls Tryz.prog 282 #[v,.agg #[.bool true,.string s]] w fun e w'=>∃ r:Int,e=.returned (.int .i64 r)∧(0≤r ↔ jL s y)∧Below w.heap.size w w':=by
 obtain ⟨Ad,cap,rfl,hl,hm⟩:=ai h;have a6:=ay (τ hl hm);have hA:Below w.heap.size w (w.alloc (.cells #[.bool true,.string s] 154)):=ζ;have x0:(w.alloc (.cells #[.bool true,.string s] 154)).cell? ⟨w.heap.size,0,none⟩=some (.bool true):=by go_simp
 have x1:(w.alloc (.cells #[.bool true,.string s] 154)).cell? ⟨w.heap.size,1,none⟩=some (.string s):=by go_simp
 have I:=η (ι hA (ι x0 x1));clear hl hm hA x0 x1
 go_enter Tryz.func282,Tryz.ntmps282
 go_wp2
 go_loopw [5,8] (fun a i wr=>∃ k:Nat,k≤y.length∧i=.int .i64 k∧(∀ j (h1:j < y.length),j < k→¬ (y[j].var=true∧y[j].name=s))∧Below w.heap.size w wr∧wr.cell? ⟨w.heap.size,0,none⟩=some (.bool true)∧wr.cell? ⟨w.heap.size,1,none⟩=some (.string s)) (fun _ i _=>y.length - (intOf i).toNat)
 case atStart=>exact ⟨0,ε,rfl,fun j _ h=>by omega,I.out.1,I.out.2.1,I.out.2.2⟩
 case round=>
  obtain ⟨k,hk,rfl,a0,hb,x0,x1⟩:=hrel;have HA:=η a0;have HB:=η hb;clear a0 I;by_cases J:k < y.length
  ·obtain ⟨b,o,rfl,_,e0,e1,_⟩:=dN (aG.below h hb) J
   have a2:(0:Int)≤(k:Int):=by omega
   have a3:(k:Int) < (y.length:Int):=by omega
   have U:=η J;have HI:Hid (∀ (_:y[k].var=true∧y[k].name=s),jL s y):=η (fun e=>⟨_,δ J,e⟩)
   have HN:Hid (¬ (y[k].var=true∧y[k].name=s)→∀ j (h1:j < y.length),j < k+1→¬ (y[j].var=true∧y[j].name=s)):=η (fun e j h1 hj=>by
    by_cases a4:j=k
    ·subst a4; exact e
    ·exact HA.out j h1 (by omega))
   generalize y[k]=t at *;obtain ⟨tv,tn⟩:=t;dsimp only at *;clear hb J h;cases tv
   ·have a1:=η (HN.out (by simp))
    clear HI HN;go_wp2
    go_quiet (fail)
    go_wp2;go_roundw
    case rel=>exact ⟨k+1,U.out,by go_num,a1.out,rF HB.out _,x0,x1⟩
    case measure=>have:=U.out; simp [intOf]; omega
   ·cases hs:(s.toList == tn.toList)
    ·have a1:=η (HN.out (fun e=>by rw [e.2] at hs; simp at hs))
     clear HI HN;go_wp2
     go_quiet (fail)
     go_wp2;go_roundw
     case rel=>exact ⟨k+1,U.out,by go_num,a1.out,rF HB.out _,x0,x1⟩
     case measure=>have:=U.out; simp [intOf]; omega
    ·have a5:=η (HI.out ⟨rfl,by have:=(gK.eq s tn).1 (by have h9:=Aj s tn; rw [hs] at h9; simpa using h9.symm); exact this.symm⟩)
     clear HI HN;go_wp2
     go_quiet (fail)
     go_wp2;go_ret;exact ⟨k,rfl,⟨fun _=>a5.out,fun _=>a2⟩,rF HB.out _⟩
  ·have he:=η (show k=y.length by omega)
   have a3:¬ (k:Int) < (y.length:Int):=by omega
   clear h hb;go_wp2;go_ret
   exact ⟨-1,rfl,⟨fun h0=>absurd h0 (by decide),fun ⟨t,ht,h1⟩=>by
    obtain ⟨j,hj,rfl⟩:=List.mem_iff_getElem.1 ht
    exact absurd h1 (HA.out j hj (by rw [he.out]; exact hj))⟩,HB.out⟩
theorem yO (I:List T) (s:ByteArray) (v:Value) (U:List Nat) (w:World) (h:fD w [v] I U):
  Calls Tryz.prog 281 #[v,.agg #[.bool true,.string s]] w fun e w'=>∃ r:Bool,e=.returned (.bool r)∧(r=true ↔ jL s I)∧Below w.heap.size w w':=by
 obtain ⟨Ad,cap,rfl,hl,hm⟩:=ai h;have y:Below w.heap.size w (w.alloc (.cells #[.bool true,.string s] 154)):=ζ;have hk:=DJ I s _ U _ (aG.below h y);clear h hl hm
 go_enter Tryz.func281,Tryz.ntmps281
 go_wp2_with fail
 refine hk.mono ?_;rintro e w1 ⟨r,rfl,hr,J⟩;have HR:=η hr;have B1:=η (y.trans (J.mono y.size));clear hk hr y;go_wp2;go_ret;exact ⟨decide (0≤r),rfl,by rw [decide_eq_true_iff]; exact HR.out,B1.out⟩
namespace D
def qH (x:ByteArray) (p:Pt):Bool:=!p.no && p.atom.args.any fun t=>t.var && decide (fA t.name x=0)
theorem OV (p:Pt) (x:ByteArray):qH x p=true ↔ p.no=false∧jL x p.atom.args:=by
 unfold qH jL;simp only [ο,Bool.not_eq_true',List.any_eq_true,decide_eq_true_eq,gK.eq]
theorem MF {ps:List Pt} {x:ByteArray} {k:Nat} (hk:k < ps.length) (h:qH x ps[k]=true):iH ps x=true:=by
 unfold iH; rw [List.any_eq_true]; exact ⟨_,δ hk,h⟩
theorem OW {ps:List Pt} {x:ByteArray} (h:ps.all (fun p=>!qH x p)=true):iH ps x=false:=by
 unfold iH;rw [List.any_eq_false];intro p y I;have:=ό.1 h p y;rw [show qH x p=true from I] at this; cases this
end D
theorem Jk (ps:List Pt) (x:ByteArray) (v:Value) (bs:List Nat) (w:World) (h:gJ w [v] ps bs):
  Calls Tryz.prog 277 #[v,.string x] w fun e w'=>e=.returned (.bool (iH ps x))∧Below w.heap.size w w':=by
 obtain ⟨Ad,cap,rfl,hl,hm⟩:=ai h;have a5:=ay (τ hl hm);clear hl hm
 go_enter Tryz.func277,Tryz.ntmps277
 go_wp2
 go_loopw [9] (fun i wr=>∃ k:Nat,k≤ps.length∧i=.int .i64 k∧(ps.take k).all (fun p=>!qH x p)=true∧Below w.heap.size w wr) (fun i _=>ps.length - (intOf i).toNat)
 case atStart=>exact ⟨0,ε,rfl,rfl,ϑ⟩
 case round=>
  obtain ⟨k,hk,rfl,J,hb⟩:=hrel;have HA:=η J;clear J;by_cases y:k < ps.length
  ·obtain ⟨b,o,Ae,ce,bk,rfl,_,d0,d1,d2,a0,_⟩:=eU (aU.below h hb) y
   have a6:(0:Int)≤(k:Int):=by omega
   have a3:(k:Int) < (ps.length:Int):=by omega
   have I:=η y;have hA:Below wr.heap.size wr (wr.alloc (.cells #[.bool ps[k].no,.string ps[k].atom.name,.slice Ae ps[k].atom.args.length ce] 209)):=ζ;have hc:=yO ps[k].atom.args x _ bk _ (aG.below (dK (eX a0)) hA);have HY:Hid (qH x ps[k]=true→iH ps x=true):=η (MF y);have HN:Hid (qH x ps[k]=false→(ps.take (k+1)).all (fun p=>!qH x p)=true):=η (fun e=>by rw [iQ ps k y,HA.out]; show (true && !qH x ps[k])=true; rw [e]; rfl);have HB:=η (hb.trans (hA.mono hb.size));have HI:=η (OV ps[k] x);generalize ps[k]=p at *;obtain ⟨no,nm,args⟩:=p;dsimp only at *;clear h a0 hA hb y;cases no
   ·go_wp2_with fail
    refine hc.mono ?_;rintro e w1 ⟨r,rfl,hr,a1⟩;have HR:=η hr;have a2:=η (HB.out.trans (a1.mono HB.out.size));clear hc hr a1;cases r
    ·have U:=η (HN.out (by cases hx:qH x ⟨false,nm,args⟩; rfl; exact absurd (HR.out.2 (HI.out.1 hx).2) (by simp)))
     clear HN HY HR;go_wp2;go_roundw
     case rel=>exact ⟨k+1,I.out,by go_num,U.out,a2.out⟩
     case measure=>have:=I.out; simp [intOf]; omega
    ·have a4:=η (HY.out (HI.out.2 ⟨by simp,HR.out.1 rfl⟩))
     clear HN HY HR;go_wp2;go_ret;exact ⟨aA a4.out.symm,a2.out⟩
   ·have U:=η (HN.out (by cases hx:qH x ⟨true,nm,args⟩; rfl; exact absurd (HI.out.1 hx).1 (by simp)))
    clear HN HY hc;go_wp2;go_roundw
    case rel=>exact ⟨k+1,I.out,by go_num,U.out,HB.out⟩
    case measure=>have:=I.out; simp [intOf]; omega
  ·have he:=η (show k=ps.length by omega)
   have a3:¬ (k:Int) < (ps.length:Int):=by omega
   have HE:=η (OW (ps:=ps) (x:=x) (by have:=HA.out; rw [he.out,ϕ ν] at this; exact this));have HB:=η hb;clear h hb;go_wp2;go_ret;exact ⟨aA HE.out.symm,HB.out⟩
theorem Ro (s:ByteArray) (w:World):(Instr.typeAssert (.iface 232 (.string s)) 228 230 true).run Tryz.prog w=.ok (.tuple #[.string ⟨#[]⟩,.bool false]) w:=by kernel_rfl
theorem xG (ps:List Pt) (a:A) (v c0 c1:Value) (bs b2:List Nat) (w:World) (h:gJ w [v] ps bs) (h2:aP w [c0,c1] a b2):
  Calls Tryz.prog 269 #[v,.agg #[c0,c1]] w fun e w'=>e=.returned (.bool (fJ ps a))∧Below w.heap.size w w':=by
 obtain ⟨Ad,cap,rfl,hl,hm⟩:=ai h;have ht:=dK h2;obtain ⟨Aa,ca,rfl,rfl⟩:=bK h2;have am:=ay (τ hl hm);obtain ⟨_,_,ac,a7,a8⟩:=ai ht;have ao:=ay (τ a7 a8);have hA:Below w.heap.size w (w.alloc (.cells #[.string a.name,.slice Aa a.args.length ca] 40)):=ζ;clear hl hm a7 a8 ac h2;unfold fJ;obtain ⟨an,args⟩:=a;dsimp only at *
 go_enter Tryz.func269,Tryz.ntmps269
 have a1:=BJ;have a2:=Ro;go_wp2
 go_loopw [12] (fun i wr=>∃ k:Nat,k≤args.length∧i=.int .i64 k∧(args.take k).all (fun t=>!t.var || iH ps t.name)=true∧Below w.heap.size w wr) (fun i _=>args.length - (intOf i).toNat)
 case atStart=>exact ⟨0,ε,rfl,rfl,hA⟩
 case round=>
  obtain ⟨k,hk,rfl,a3,hb⟩:=hrel;have HA:=η a3;clear a3 hA;by_cases I:k < args.length
  ·obtain ⟨b,o,rfl,_,d0,d1,_⟩:=dN (aG.below ht hb) I
   have ap:(0:Int)≤(k:Int):=by omega
   have ae:(k:Int) < (args.length:Int):=by omega
   have a0:=η I;have hA:Below wr.heap.size wr (wr.alloc (.cells #[.bool args[k].var,.string args[k].name] 154)):=ζ;have a9:=hb.trans (hA.mono hb.size);have y:=vk args[k] (wr.alloc (.cells #[.bool args[k].var,.string args[k].name] 154));have a5:=fun w' (af:Below w.heap.size w w')=>Jk ps args[k].name _ bs w' (aU.below h af)
   have HY:Hid ((!args[k].var || iH ps args[k].name)=true→(args.take (k+1)).all (fun t=>!t.var || iH ps t.name)=true):=η (fun e=>by rw [iQ args k I,HA.out]; show (true && (!args[k].var || iH ps args[k].name))=true; rw [e]; rfl);have HN:Hid ((!args[k].var || iH ps args[k].name)=false→args.all (fun t=>!t.var || iH ps t.name)=false):=η (fun e=>rZ args k I e);have HB:=η a9;generalize args[k]=t at *;obtain ⟨tv,tn⟩:=t;dsimp only at *;clear h ht hA hb a9 I;cases tv
   ·simp only [Bool.false_eq_true,if_false] at y
    have a6:=η (HY.out rfl);clear HY HN a5
    go_wp2_with fail
    refine y.mono ?_;rintro e w1 ⟨rfl,J⟩;have U:=η (HB.out.trans (J.mono HB.out.size));clear y J;go_wp2;go_roundw
    case rel=>exact ⟨k+1,a0.out,by go_num,a6.out,U.out⟩
    case measure=>have:=a0.out; simp [intOf]; omega
   ·simp only [if_true] at y
    go_wp2_with fail
    refine y.mono ?_;rintro e w1 ⟨rfl,J⟩;have U:=η (HB.out.trans (J.mono HB.out.size));have hv:=qW tn w1;have a4:=a5 w1 U.out;have HG:Hid ((!true || iH ps tn)=iH ps tn):=η rfl;rw [HG.out] at HY HN;generalize iH ps tn=r at *;clear y a5 J
    go_wp2_with fail
    refine hv.mono ?_;rintro e w2 ⟨rfl,rfl⟩
    go_wp2_with fail
    refine a4.mono ?_;rintro e w3 ⟨rfl,aa⟩;have ab:=η (U.out.trans (aa.mono U.out.size));clear hv a4 aa;cases r
    ·have ag:=η (HN.out rfl)
     clear HN HY;go_wp2;go_ret;exact ⟨aA ag.out.symm,ab.out⟩
    ·have a6:=η (HY.out rfl)
     clear HN HY;go_wp2;go_roundw
     case rel=>exact ⟨k+1,a0.out,by go_num,a6.out,ab.out⟩
     case measure=>have:=a0.out; simp [intOf]; omega
  ·have he:=η (show k=args.length by omega)
   have ae:¬ (k:Int) < (args.length:Int):=by omega
   have HE:Hid (args.all (fun t=>!t.var || iH ps t.name)=true):=η (by have:=HA.out; rw [he.out,ϕ ν] at this; exact this);have HB:=η hb;clear h ht hb;go_wp2;go_ret;exact ⟨aA HE.out.symm,HB.out⟩
theorem DK (ps:List Pt) (v:Value) (bs:List Nat) (w:World) (h:gJ w [v] ps bs):
  Calls Tryz.prog 270 #[v] w fun e w'=>e=.returned (.bool (qV ps))∧Below w.heap.size w w':=by
 obtain ⟨Ad,cap,rfl,hl,hm⟩:=ai h;have a7:=ay (τ hl hm);clear hl hm;unfold qV
 go_enter Tryz.func270,Tryz.ntmps270
 go_wp2
 go_loopw [7] (fun i wr=>∃ k:Nat,k≤ps.length∧i=.int .i64 k∧(ps.take k).all (fun p=>fJ ps p.atom)=true∧Below w.heap.size w wr) (fun i _=>ps.length - (intOf i).toNat)
 case atStart=>exact ⟨0,ε,rfl,rfl,ϑ⟩
 case round=>
  obtain ⟨k,hk,rfl,I,U⟩:=hrel;have HA:=η I;clear I;by_cases y:k < ps.length
  ·obtain ⟨b,o,Ae,ce,bk,rfl,_,d0,d1,d2,a0,_⟩:=eU (aU.below h U) y
   have a8:(0:Int)≤(k:Int):=by omega
   have a4:(k:Int) < (ps.length:Int):=by omega
   have a1:=η y;have hA:Below wr.heap.size wr (wr.alloc (.cells #[.bool ps[k].no,.string ps[k].atom.name,.slice Ae ps[k].atom.args.length ce] 209)):=ζ;have J:=U.trans (hA.mono U.size);have hc:=xG ps ps[k].atom _ _ _ bs bk _ (aU.below h J) (ak.below (eX a0) hA);have HY:Hid (fJ ps ps[k].atom=true→(ps.take (k+1)).all (fun p=>fJ ps p.atom)=true):=η (fun e=>by rw [iQ ps k y,HA.out]; show (true && fJ ps ps[k].atom)=true; rw [e]; rfl);have HN:Hid (fJ ps ps[k].atom=false→ps.all (fun p=>fJ ps p.atom)=false):=η (fun e=>rZ ps k y e);have HB:=η J;generalize fJ ps ps[k].atom=r at *;generalize ps[k]=p at *;clear h a0 hA U J y
   go_wp2_with fail
   refine hc.mono ?_;rintro e w1 ⟨rfl,a2⟩;have a3:=η (HB.out.trans (a2.mono HB.out.size));clear hc a2;cases r
   ·have a5:=η (HN.out rfl)
    clear HN HY;go_wp2;go_ret;exact ⟨aA (by rw [a5.out]; rfl),a3.out⟩
   ·have a6:=η (HY.out rfl)
    clear HN HY;go_wp2;go_roundw
    case rel=>exact ⟨k+1,a1.out,by go_num,a6.out,a3.out⟩
    case measure=>have:=a1.out; simp [intOf]; omega
  ·have he:=η (show k=ps.length by omega)
   have a4:¬ (k:Int) < (ps.length:Int):=by omega
   have HE:Hid (ps.all (fun p=>fJ ps p.atom)=true):=η (by have:=HA.out; rw [he.out,ϕ ν] at this; exact this);have HB:=η U;clear h U;go_wp2;go_ret;exact ⟨aA (by rw [HE.out]; rfl),HB.out⟩
theorem Rq:(Tryz.prog.info? 225).map (fun i=>(i.zero,i.size,i.bytes))=some (some (.agg #[.int .i64 0,.string ⟨#[]⟩]),2,24):=by kernel_rfl
theorem OX (s:ByteArray) (w:World):(Instr.typeAssert (.iface 232 (.string s)) 228 230 true).run Tryz.prog w=.ok (.tuple #[.string ⟨#[]⟩,.bool false]) w:=by kernel_rfl
theorem D.OY:(⟨#[]⟩:ByteArray).size≤maxLen:=by decide
theorem rG (vars:List ByteArray) (a:A) (A1 A2:Option Addr) (n1 I n2 J:Nat) (v3 c0 c1:Value) (b3 b1:List Nat) (w:World) (hv:jA w [v3] vars b3) (hs:qR vars) (aL:vars.length≤1000000) (h:aP w [c0,c1] a b1) (hin:∀ t ∈ a.args,t.var=true→t.name ∈ vars) (bt:a.args.length≤1000000):
  Calls Tryz.prog 86 #[.agg #[.slice A1 n1 I,.slice A2 n2 J,v3],.agg #[c0,c1]] w fun e w'=>∃ v bs,e=.returned (.agg #[.string a.name,v])∧Below w.heap.size w w'∧a.name.size≤maxLen∧jG vars w' [v] a.args bs∧New w.heap.size w' bs:=by
 obtain ⟨i0,hi,aM,aR,b4⟩:=info_parts Rq;obtain ⟨nm,args⟩:=a;obtain ⟨Ae,ce,rfl,rfl⟩:=bK h;obtain ⟨A3,y,rfl,_⟩:=ai hv;have ao:nm.size≤maxLen:=by obtain ⟨_,_,h1,_⟩:=h; exact h1
 have ht:=dK h;dsimp only at ht hin bt ao ⊢;have bu:=η hin;have bv:=η ao;have HS:=η (ι hs aL);have HT:=η ht;have HV:=η hv;clear h hs aL hin ao ht hv
 go_enter Tryz.func86,Tryz.ntmps86
 have hA:Below w.heap.size w ((((w.alloc (.cells #[.slice A1 n1 I,.slice A2 n2 J,.slice A3 vars.length y] 134)).alloc (.cells #[.string nm,.slice Ae args.length ce] 40)).alloc (.cells #[.string ⟨#[]⟩,.slice none 0 0] 143)).alloc (.cells #[.string nm,.slice none 0 0] 143)):=(((ζ).alloc (by simp) _).alloc (by simp; omega) _).alloc (by simp; omega) _
 have hq:((((w.alloc (.cells #[.slice A1 n1 I,.slice A2 n2 J,.slice A3 vars.length y] 134)).alloc (.cells #[.string nm,.slice Ae args.length ce] 40)).alloc (.cells #[.string ⟨#[]⟩,.slice none 0 0] 143)).alloc (.cells #[.string nm,.slice none 0 0] 143)).heap[w.heap.size]? = some (.cells #[.slice A1 n1 I,.slice A2 n2 J,.slice A3 vars.length y] 134 (0,0)):=by
  rw [Below.heap_alloc _ _ _ (by simp; omega),Below.heap_alloc _ _ _ (by simp; omega),Below.heap_alloc _ _ _ (by simp)]; exact ω _ _
 have b5:((((w.alloc (.cells #[.slice A1 n1 I,.slice A2 n2 J,.slice A3 vars.length y] 134)).alloc (.cells #[.string nm,.slice Ae args.length ce] 40)).alloc (.cells #[.string ⟨#[]⟩,.slice none 0 0] 143)).alloc (.cells #[.string nm,.slice none 0 0] 143)).heap[w.heap.size+2]? = some (.cells #[.string ⟨#[]⟩,.slice none 0 0] 143 (0,0)):=by
  rw [Below.heap_alloc _ _ _ (by simp)];have:=ω ((w.alloc (.cells #[.slice A1 n1 I,.slice A2 n2 J,.slice A3 vars.length y] 134)).alloc (.cells #[.string nm,.slice Ae args.length ce] 40)) (.cells #[.string ⟨#[]⟩,.slice none 0 0] 143);simpa using this
 have b6:((((w.alloc (.cells #[.slice A1 n1 I,.slice A2 n2 J,.slice A3 vars.length y] 134)).alloc (.cells #[.string nm,.slice Ae args.length ce] 40)).alloc (.cells #[.string ⟨#[]⟩,.slice none 0 0] 143)).alloc (.cells #[.string nm,.slice none 0 0] 143)).heap[w.heap.size+3]? = some (.cells #[.string nm,.slice none 0 0] 143 (0,0)):=by
  have:=ω (((w.alloc (.cells #[.slice A1 n1 I,.slice A2 n2 J,.slice A3 vars.length y] 134)).alloc (.cells #[.string nm,.slice Ae args.length ce] 40)).alloc (.cells #[.string ⟨#[]⟩,.slice none 0 0] 143)) (.cells #[.string nm,.slice none 0 0] 143);simpa using this
 have b7:Hid (xu 2 (CB vars) 225 143 w (w.heap.size+2) (w.heap.size+3) (w.heap.size+4) nm (.slice none 0 0) [] [] ((((w.alloc (.cells #[.slice A1 n1 I,.slice A2 n2 J,.slice A3 vars.length y] 134)).alloc (.cells #[.string nm,.slice Ae args.length ce] 40)).alloc (.cells #[.string ⟨#[]⟩,.slice none 0 0] 143)).alloc (.cells #[.string nm,.slice none 0 0] 143))):=
  η ⟨b5,b6,by omega,by omega,by omega,cu.nil _,hA,by simp⟩
 have HQ:=η hq;clear hA hq b5 b6;go_wp2;generalize ((((w.alloc (.cells #[.slice A1 n1 I,.slice A2 n2 J,.slice A3 vars.length y] 134)).alloc (.cells #[.string nm,.slice Ae args.length ce] 40)).alloc (.cells #[.string ⟨#[]⟩,.slice none 0 0] 143)).alloc (.cells #[.string nm,.slice none 0 0] 143))=W at *
 go_loopw [18] (fun i wr=>∃ (k:Nat) (Av:Option Addr) (cv:Nat) (L:List Value),k≤args.length∧i=.int .i64 k∧xu 2 (CB vars) 225 143 w (w.heap.size+2) (w.heap.size+3) (w.heap.size+4) nm (.slice Av k cv) L (args.take k) wr∧wr.heap[w.heap.size]? = some (.cells #[.slice A1 n1 I,.slice A2 n2 J,.slice A3 vars.length y] 134 (0,0))) (fun i _=>args.length - (intOf i).toNat)
 case atStart=>exact ⟨0,none,0,[],ε,rfl,b7.out,HQ.out⟩
 case round=>
  obtain ⟨k,Av,cv,L,hk,rfl,hI,hq⟩:=hrel;clear b7 HQ;by_cases aa:k < args.length
  ·obtain ⟨b,o,rfl,_,f0,f1,b8⟩:=dN (aG.below HT.out (hI.bel.mono ν)) aa
   have bB:(0:Int)≤(k:Int):=by omega
   have bw:(k:Int) < (args.length:Int):=by omega
   have ag:=η aa;have bc:=η (ρ aa);have ap:Below wr.heap.size wr (wr.alloc (.cells #[.bool args[k].var,.string args[k].name] 154)):=ζ;have ab:=η (hI.later (fP vars) ap);have a4:=η ((ap.block _ (ψ hq)).trans hq);have bf:=η (bu.out args[k] (δ aa));have a5:=fun w=>vk args[k] w
   have bx:=η b8;have bg:Hid (((args.take k).length)=k):=η (by simp; omega);have bh:Hid (k+1≤maxLen):=η (by unfold maxLen; omega);have bi:Hid ((k+1) * 24≤140737488355328):=η (by omega);have a1:=BJ;have a2:=OX;have a3:=Ii;clear hI hq ap b8 hk;generalize args[k]=t at *;clear aa;obtain ⟨tv,tn⟩:=t;dsimp only at *;cases tv
   ·have am:=fun w=>wO tn w
    have HR:Hid (∀ w,CB vars w [.int .i64 (-1),.string tn] ⟨false,tn⟩ []):=η fun w=>⟨rfl,bx.out,rfl⟩
    simp only [Bool.false_eq_true,if_false] at a5
    go_wp2_with fail
    refine (a5 _).mono ?_;rintro e w2 ⟨rfl,a0⟩;have a6:=η (ab.out.later (fP vars) (a0.trans ϑ.drew));have U:=ab.out.later (fP vars) a0;have a7:=(a0.block _ (ψ a4.out)).trans a4.out;have a8:=η a7;have I:w2.cell? ⟨w.heap.size+3,1,none⟩=some (.slice Av k cv):=aj U.r1;have J:w2.frozen? ⟨w.heap.size+3,1,none⟩=false:=aB U.r1;have q3:w.heap.size+3 < w2.heap.size:=ψ U.r1;have HL:=η (a6.out.lit (fP vars) (CG vars) HR.out);have ET:(vars.idxOf tn:Nat)=(vars.idxOf tn:Nat):=rfl;clear a5 ab a4 U a7 HR ET;go_wp2
    go_region_law
     (first
      | (go_simp; go_at_call 150; refine (am _).mono ?_; rintro e w5 ⟨rfl,rfl⟩)
      | (refine bG (by rfl) (.tmp 46) (.tmp 50) _ (by rfl) (w.heap.size+4) 225 i0 (.agg #[.int .i64 0,.string ⟨#[]⟩]) 2 24 Tryz.underlying141 hi aM aR b4 rfl (Θ 1) (fP vars) (.slice Av k cv) k L _ [] (by rfl) HL.out.1 bg.out (some ⟨w2.heap.size,0,none⟩) 1 1 _ [⟨false,tn⟩] _ (by rfl) HL.out.2.1 rfl HL.out.2.2.1 (fun b hb=>by simp at hb) bh.out bi.out w2.drew (w.heap.size+4) HL.out.2.2.2.1 ν HL.out.2.2.2.2 ?_; intro A5 c5 w5 ac ae aq ar; have HZ:=η (a6.out.app (fP vars) ac ae); replace I:=HZ.out.1; replace J:=HZ.out.2.1; clear ac ae aq ar))
    all_goals
     have av:=η HZ.out.2.2.1;have aw:=η ((HZ.out.2.2.2 w.heap.size (by omega) (by omega)).trans a8.out);clear a6 HL HZ a8 I J q3;go_wp2;go_roundw
     case rel=>exact ⟨k+1,A5,c5,_,ag.out,by go_num,by rw [bc.out]; exact av.out,aw.out⟩
     case measure=>have:=ag.out; simp [intOf]; omega
   ·simp only [if_true] at a5
    have am:=fun w=>qW tn w
    have az:Hid (∀ w',Below w.heap.size w w'→Calls Tryz.prog 148 #[.slice A3 vars.length y,.string tn] w' fun e bz=>e=.returned (.tuple #[.int .i64 (vars.idxOf tn:Nat),.bool true])∧Below w'.heap.size w' bz):=
     η fun w' hb=>Il vars tn _ b3 w' (bV.below HV.out hb) HS.out.1 (bf.out rfl) HS.out.2
    have HR:Hid (∀ w,CB vars w [.int .i64 (vars.idxOf tn:Nat),.string ⟨#[]⟩] ⟨true,tn⟩ []):=η fun w=>⟨rfl,OY,rfl⟩
    obtain ⟨x,hx⟩:∃ x,x=vars.idxOf tn:=⟨_,rfl⟩;rw [← hx] at HR az;clear hx
    go_wp2_with fail
    refine (a5 _).mono ?_;rintro e w2 ⟨rfl,a0⟩;have U:=ab.out.later (fP vars) a0;have a7:=(a0.block _ (ψ a4.out)).trans a4.out;have bj:=η U.bel;have a6:=η U;have a8:=η a7;have I:w2.cell? ⟨w.heap.size,2,none⟩=some (.slice A3 vars.length y):=aj a7;have bk:=az.out w2.drew bj.out.drew;clear a5 ab a4 U a7 az a0;go_wp2
    go_region_held3 (fun w'=>w'.cell? ⟨w.heap.size,2,none⟩=some (.slice A3 vars.length y))
     (first | go_keep | exact y0)
     (first
      | (go_at_call 149; refine (am _).mono ?_; rintro e w5 ⟨rfl,rfl⟩; have y0:=I)
      | (go_at_call 148; refine bk.mono ?_; rintro e w3 ⟨rfl,aD⟩; have y0:=ξ aD I))
    have af:Below w2.heap.size w2 w3:=ϑ.drew.trans aD;have a9:=a6.out.later (fP vars) af;have bl:=η a9;have bn:=η ((af.block _ (ψ a8.out)).trans a8.out);have HL:=η (a9.lit (fP vars) (CG vars) HR.out);have I:w3.cell? ⟨w.heap.size+3,1,none⟩=some (.slice Av k cv):=aj a9.r1;have J:w3.frozen? ⟨w.heap.size+3,1,none⟩=false:=aB a9.r1;have q3:w.heap.size+3 < w3.heap.size:=ψ a9.r1;clear af a9 a6 a8 bk bj am HR aD
    go_wp2_with (first | (at_builtin; refine gU (by rfl) (.tmp 36) (.tmp 39) _ (by rfl) (w.heap.size+4) 225 i0 (.agg #[.int .i64 0,.string ⟨#[]⟩]) 2 24 Tryz.underlying141 hi aM aR b4 rfl (Θ 1) (fP vars) (.slice Av k cv) k L _ [] (by rfl) HL.out.1 bg.out (some ⟨w3.heap.size,0,none⟩) 1 1 _ [⟨true,tn⟩] _ (by rfl) HL.out.2.1 rfl HL.out.2.2.1 (fun b hb=>by simp at hb) bh.out bi.out w3 (w.heap.size+4) HL.out.2.2.2.1 ν HL.out.2.2.2.2 ?_; intro A5 c5 w5 ac ae aq ar; have HZ:=η (bl.out.app (fP vars) ac ae); replace I:=HZ.out.1; replace J:=HZ.out.2.1; clear ac ae aq ar) | go_in)
    have av:=η HZ.out.2.2.1;have aw:=η ((HZ.out.2.2.2 w.heap.size (by omega) (by omega)).trans bn.out);clear bl HL HZ bn I J q3;go_wp2;go_roundw
    case rel=>exact ⟨k+1,A5,c5,_,ag.out,by go_num,by rw [bc.out]; exact av.out,aw.out⟩
    case measure=>have:=ag.out; simp [intOf]; omega
  ·have he:k=args.length:=by omega
   have bw:¬ (k:Int) < (args.length:Int):=by omega
   obtain ⟨W9,bo,bp,aE,b9,bq,br⟩:=hI.done (fP vars);have y0:wr.cell? ⟨w.heap.size+3,0,none⟩=some (.string nm):=aj hI.r1;have y1:wr.cell? ⟨w.heap.size+3,1,none⟩=some (.slice Av k cv):=aj hI.r1;have f0:wr.frozen? ⟨w.heap.size+2,0,none⟩=false:=aB hI.r0;have f1:wr.frozen? ⟨w.heap.size+2,1,none⟩=false:=aB hI.r0;have z0:wr.cell? ⟨w.heap.size+2,0,none⟩=some (.string ⟨#[]⟩):=aj hI.r0;have z1:wr.cell? ⟨w.heap.size+2,1,none⟩=some (.slice none 0 0):=aj hI.r0;have u0:W9.cell? ⟨w.heap.size+2,0,none⟩=some (.string nm):=aj aE;have u1:W9.cell? ⟨w.heap.size+2,1,none⟩=some (.slice Av k cv):=aj aE
   have HD:Hid (∃ v bs,Ending.returned (.agg #[.string nm,.slice Av k cv])=.returned (.agg #[.string nm,v])∧Below w.heap.size w W9∧nm.size≤maxLen∧jG vars W9 [v] args bs∧New w.heap.size W9 bs):=
    η ⟨_,b9,rfl,bp,bv.out,by rw [← ϕ (Nat.le_of_eq he.symm) (l:=args)]; exact bq,br.mono (by omega)⟩
   have bA:=η bo;have HU:=η (ι u0 u1);clear hI hq bp aE bq br bo he u0 u1;go_wp2;rw [← bA.out];refine bodyPost_ret (v:=.agg #[.string nm,.slice Av k cv]) (by simp [results,Tryz.results86,go_sem,HU.out.1,HU.out.2]) rfl (by obtain ⟨v,bs,I,J,q3,q4,q5⟩:=HD.out; exact ⟨v,I,J,q3,bs,q4,q5⟩)
end Go.Proofs.YtlmngncogomgeaaGreatDoor
