/- Of the proof of FnEvalNeeds: Bound, PatI. -/
import Derived.Test.YtkjinanbccloeaaGreatDoorM15
import Derived.Deep.RegionHeldLaw
set_option linter.unusedVariables false
set_option maxHeartbeats 2000000
set_option maxRecDepth 100000
namespace Go.Proofs.YtkjinanbccloeaaGreatDoor
open Go.RowKit D
attribute [local go_sem ↓] Go.wp_at_zero Go.wp_at_succ
theorem rC {B:Nat} {a w:World} (h:Below B a w) (n:Nat):Below B a (w.drewN n):=⟨h.os,h.tape,h.output,h.size,h.block⟩
theorem D7 (y:List T) (s:ByteArray) (v:Value) (bs:List Nat) (w:World) (h:eH w [v] y bs):
  Calls Tryz.prog 289 #[v,.agg #[.bool true,.string s]] w fun e w'=>∃ r:Int,e=.returned (.int .i64 r)∧(0≤r ↔ jI s y)∧Below w.heap.size w w':=by
 obtain ⟨Ad,cap,rfl,hl,hm⟩:=ak h;have a6:=aA (τ hl hm);have hA:Below w.heap.size w (w.alloc (.cells #[.bool true,.string s] 91)):=ζ;have x0:(w.alloc (.cells #[.bool true,.string s] 91)).cell? ⟨w.heap.size,0,none⟩=some (.bool true):=by go_simp
 have x1:(w.alloc (.cells #[.bool true,.string s] 91)).cell? ⟨w.heap.size,1,none⟩=some (.string s):=by go_simp
 have I:=η (ι hA (ι x0 x1));clear hl hm hA x0 x1
 go_enter Tryz.func289,Tryz.ntmps289
 go_wp2
 go_loopw [5,8] (fun a i wr=>∃ k:Nat,k≤y.length∧i=.int .i64 k∧(∀ j (h1:j < y.length),j < k→¬ (y[j].var=true∧y[j].name=s))∧Below w.heap.size w wr∧wr.cell? ⟨w.heap.size,0,none⟩=some (.bool true)∧wr.cell? ⟨w.heap.size,1,none⟩=some (.string s)) (fun _ i _=>y.length - (intOf i).toNat)
 case atStart=>exact ⟨0,ε,rfl,fun j _ h=>by omega,I.out.1,I.out.2.1,I.out.2.2⟩
 case round=>
  obtain ⟨k,hk,rfl,a0,hb,x0,x1⟩:=hrel;have HA:=η a0;have HB:=η hb;clear a0 I;by_cases J:k < y.length
  ·obtain ⟨b,o,rfl,_,e0,e1,_⟩:=dU (aN.below h hb) J
   have a2:(0:Int)≤(k:Int):=by omega
   have a3:(k:Int) < (y.length:Int):=by omega
   have U:=η J;have HI:Hid (∀ (_:y[k].var=true∧y[k].name=s),jI s y):=η (fun e=>⟨_,δ J,e⟩)
   have HN:Hid (¬ (y[k].var=true∧y[k].name=s)→∀ j (h1:j < y.length),j < k+1→¬ (y[j].var=true∧y[j].name=s)):=η (fun e j h1 hj=>by
    by_cases a4:j=k
    ·subst a4; exact e
    ·exact HA.out j h1 (by omega))
   generalize y[k]=t at *;obtain ⟨tv,tn⟩:=t;dsimp only at *;clear hb J h;cases tv
   ·have a1:=η (HN.out (by simp))
    clear HI HN;go_wp2
    go_quiet (fail)
    go_wp2;go_roundw
    case rel=>exact ⟨k+1,U.out,by go_num,a1.out,rC HB.out _,x0,x1⟩
    case measure=>have:=U.out; simp [intOf]; omega
   ·cases hs:(s.toList == tn.toList)
    ·have a1:=η (HN.out (fun e=>by rw [e.2] at hs; simp at hs))
     clear HI HN;go_wp2
     go_quiet (fail)
     go_wp2;go_roundw
     case rel=>exact ⟨k+1,U.out,by go_num,a1.out,rC HB.out _,x0,x1⟩
     case measure=>have:=U.out; simp [intOf]; omega
    ·have a5:=η (HI.out ⟨rfl,by have:=(gy.eq s tn).1 (by have h9:=AO s tn; rw [hs] at h9; simpa using h9.symm); exact this.symm⟩)
     clear HI HN;go_wp2
     go_quiet (fail)
     go_wp2;go_ret;exact ⟨k,rfl,⟨fun _=>a5.out,fun _=>a2⟩,rC HB.out _⟩
  ·have he:=η (show k=y.length by omega)
   have a3:¬ (k:Int) < (y.length:Int):=by omega
   clear h hb;go_wp2;go_ret
   exact ⟨-1,rfl,⟨fun h0=>absurd h0 (by decide),fun ⟨t,ht,h1⟩=>by
    obtain ⟨j,hj,rfl⟩:=List.mem_iff_getElem.1 ht
    exact absurd h1 (HA.out j hj (by rw [he.out]; exact hj))⟩,HB.out⟩
theorem xZ (I:List T) (s:ByteArray) (v:Value) (bs:List Nat) (w:World) (h:eH w [v] I bs):
  Calls Tryz.prog 286 #[v,.agg #[.bool true,.string s]] w fun e w'=>∃ r:Bool,e=.returned (.bool r)∧(r=true ↔ jI s I)∧Below w.heap.size w w':=by
 obtain ⟨Ad,cap,rfl,hl,hm⟩:=ak h;have y:Below w.heap.size w (w.alloc (.cells #[.bool true,.string s] 91)):=ζ;have U:=D7 I s _ bs _ (aN.below h y);clear h hl hm
 go_enter Tryz.func286,Tryz.ntmps286
 go_wp2_with fail
 refine U.mono ?_;rintro e w1 ⟨r,rfl,hr,J⟩;have HR:=η hr;have B1:=η (y.trans (J.mono y.size));clear U hr y;go_wp2;go_ret;exact ⟨decide (0≤r),rfl,by rw [decide_eq_true_iff]; exact HR.out,B1.out⟩
namespace D
def qE (x:ByteArray) (p:Pt):Bool:=!p.no && p.atom.args.any fun t=>t.var && decide (fA t.name x=0)
theorem OZ (p:Pt) (x:ByteArray):qE x p=true ↔ p.no=false∧jI x p.atom.args:=by
 unfold qE jI;simp only [ο,Bool.not_eq_true',List.any_eq_true,decide_eq_true_eq,gy.eq]
theorem MH {ps:List Pt} {x:ByteArray} {k:Nat} (y:k < ps.length) (h:qE x ps[k]=true):iw ps x=true:=by
 unfold iw; rw [List.any_eq_true]; exact ⟨_,δ y,h⟩
theorem O0 {ps:List Pt} {x:ByteArray} (h:ps.all (fun p=>!qE x p)=true):iw ps x=false:=by
 unfold iw;rw [List.any_eq_false];intro p y I;have:=List.all_eq_true.1 h p y;rw [show qE x p=true from I] at this; cases this
end D
theorem Jw (ps:List Pt) (x:ByteArray) (v:Value) (bs:List Nat) (w:World) (h:gU w [v] ps bs):
  Calls Tryz.prog 274 #[v,.string x] w fun e w'=>e=.returned (.bool (iw ps x))∧Below w.heap.size w w':=by
 obtain ⟨Ad,cap,rfl,hl,hm⟩:=ak h;have a5:=aA (τ hl hm);clear hl hm
 go_enter Tryz.func274,Tryz.ntmps274
 go_wp2
 go_loopw [9] (fun i wr=>∃ k:Nat,k≤ps.length∧i=.int .i64 k∧(ps.take k).all (fun p=>!qE x p)=true∧Below w.heap.size w wr) (fun i _=>ps.length - (intOf i).toNat)
 case atStart=>exact ⟨0,ε,rfl,rfl,ϑ⟩
 case round=>
  obtain ⟨k,hk,rfl,J,hb⟩:=hrel;have HA:=η J;clear J;by_cases y:k < ps.length
  ·obtain ⟨b,o,Ae,ce,bk,rfl,_,d0,d1,d2,a0,_⟩:=gV (dh.below h hb) y
   have a6:(0:Int)≤(k:Int):=by omega
   have a3:(k:Int) < (ps.length:Int):=by omega
   have I:=η y;have hA:Below wr.heap.size wr (wr.alloc (.cells #[.bool ps[k].no,.string ps[k].atom.name,.slice Ae ps[k].atom.args.length ce] 42)):=ζ;have hc:=xZ ps[k].atom.args x _ bk _ (aN.below (cZ (iQ a0)) hA);have HY:Hid (qE x ps[k]=true→iw ps x=true):=η (MH y);have HN:Hid (qE x ps[k]=false→(ps.take (k+1)).all (fun p=>!qE x p)=true):=η (fun e=>by rw [iJ ps k y,HA.out]; show (true && !qE x ps[k])=true; rw [e]; rfl);have HB:=η (hb.trans (hA.mono hb.size));have HI:=η (OZ ps[k] x);generalize ps[k]=p at *;obtain ⟨no,nm,args⟩:=p;dsimp only at *;clear h a0 hA hb y;cases no
   ·go_wp2_with fail
    refine hc.mono ?_;rintro e w1 ⟨r,rfl,hr,a1⟩;have HR:=η hr;have a2:=η (HB.out.trans (a1.mono HB.out.size));clear hc hr a1;cases r
    ·have U:=η (HN.out (by cases hx:qE x ⟨false,nm,args⟩; rfl; exact absurd (HR.out.2 (HI.out.1 hx).2) (by simp)))
     clear HN HY HR;go_wp2;go_roundw
     case rel=>exact ⟨k+1,I.out,by go_num,U.out,a2.out⟩
     case measure=>have:=I.out; simp [intOf]; omega
    ·have a4:=η (HY.out (HI.out.2 ⟨by simp,HR.out.1 rfl⟩))
     clear HN HY HR;go_wp2;go_ret;exact ⟨aH a4.out.symm,a2.out⟩
   ·have U:=η (HN.out (by cases hx:qE x ⟨true,nm,args⟩; rfl; exact absurd (HI.out.1 hx).1 (by simp)))
    clear HN HY hc;go_wp2;go_roundw
    case rel=>exact ⟨k+1,I.out,by go_num,U.out,HB.out⟩
    case measure=>have:=I.out; simp [intOf]; omega
  ·have he:=η (show k=ps.length by omega)
   have a3:¬ (k:Int) < (ps.length:Int):=by omega
   have HE:=η (O0 (ps:=ps) (x:=x) (by have:=HA.out; rw [he.out,ϕ ν] at this; exact this));have HB:=η hb;clear h hb;go_wp2;go_ret;exact ⟨aH HE.out.symm,HB.out⟩
theorem Rx (s:ByteArray) (w:World):(Instr.typeAssert (.iface 245 (.string s)) 239 241 true).run Tryz.prog w=.ok (.tuple #[.string ⟨#[]⟩,.bool false]) w:=by kernel_rfl
theorem wI (ps:List Pt) (a:A) (v c0 c1:Value) (bs b2:List Nat) (w:World) (h:gU w [v] ps bs) (h2:aI w [c0,c1] a b2):
  Calls Tryz.prog 238 #[v,.agg #[c0,c1]] w fun e w'=>e=.returned (.bool (fF ps a))∧Below w.heap.size w w':=by
 obtain ⟨Ad,cap,rfl,hl,hm⟩:=ak h;have ht:=cZ h2;obtain ⟨Aa,ca,rfl,rfl⟩:=bI h2;have am:=aA (τ hl hm);obtain ⟨_,_,ac,a7,a8⟩:=ak ht;have ao:=aA (τ a7 a8);have hA:Below w.heap.size w (w.alloc (.cells #[.string a.name,.slice Aa a.args.length ca] 33)):=ζ;clear hl hm a7 a8 ac h2;unfold fF;obtain ⟨an,args⟩:=a;dsimp only at *
 go_enter Tryz.func238,Tryz.ntmps238
 have a1:=BX;have a2:=Rx;go_wp2
 go_loopw [12] (fun i wr=>∃ k:Nat,k≤args.length∧i=.int .i64 k∧(args.take k).all (fun t=>!t.var || iw ps t.name)=true∧Below w.heap.size w wr) (fun i _=>args.length - (intOf i).toNat)
 case atStart=>exact ⟨0,ε,rfl,rfl,hA⟩
 case round=>
  obtain ⟨k,hk,rfl,a3,hb⟩:=hrel;have HA:=η a3;clear a3 hA;by_cases I:k < args.length
  ·obtain ⟨b,o,rfl,_,d0,d1,_⟩:=dU (aN.below ht hb) I
   have ap:(0:Int)≤(k:Int):=by omega
   have ae:(k:Int) < (args.length:Int):=by omega
   have a0:=η I;have hA:Below wr.heap.size wr (wr.alloc (.cells #[.bool args[k].var,.string args[k].name] 91)):=ζ;have a9:=hb.trans (hA.mono hb.size);have y:=uz args[k] (wr.alloc (.cells #[.bool args[k].var,.string args[k].name] 91));have a5:=fun w' (af:Below w.heap.size w w')=>Jw ps args[k].name _ bs w' (dh.below h af)
   have HY:Hid ((!args[k].var || iw ps args[k].name)=true→(args.take (k+1)).all (fun t=>!t.var || iw ps t.name)=true):=η (fun e=>by rw [iJ args k I,HA.out]; show (true && (!args[k].var || iw ps args[k].name))=true; rw [e]; rfl);have HN:Hid ((!args[k].var || iw ps args[k].name)=false→args.all (fun t=>!t.var || iw ps t.name)=false):=η (fun e=>rY args k I e);have HB:=η a9;generalize args[k]=t at *;obtain ⟨tv,tn⟩:=t;dsimp only at *;clear h ht hA hb a9 I;cases tv
   ·simp only [Bool.false_eq_true,if_false] at y
    have a6:=η (HY.out rfl);clear HY HN a5
    go_wp2_with fail
    refine y.mono ?_;rintro e w1 ⟨rfl,J⟩;have U:=η (HB.out.trans (J.mono HB.out.size));clear y J;go_wp2;go_roundw
    case rel=>exact ⟨k+1,a0.out,by go_num,a6.out,U.out⟩
    case measure=>have:=a0.out; simp [intOf]; omega
   ·simp only [if_true] at y
    go_wp2_with fail
    refine y.mono ?_;rintro e w1 ⟨rfl,J⟩;have U:=η (HB.out.trans (J.mono HB.out.size));have hv:=qU tn w1;have a4:=a5 w1 U.out;have HG:Hid ((!true || iw ps tn)=iw ps tn):=η rfl;rw [HG.out] at HY HN;generalize iw ps tn=r at *;clear y a5 J
    go_wp2_with fail
    refine hv.mono ?_;rintro e w2 ⟨rfl,rfl⟩
    go_wp2_with fail
    refine a4.mono ?_;rintro e w3 ⟨rfl,aa⟩;have ab:=η (U.out.trans (aa.mono U.out.size));clear hv a4 aa;cases r
    ·have ag:=η (HN.out rfl)
     clear HN HY;go_wp2;go_ret;exact ⟨aH ag.out.symm,ab.out⟩
    ·have a6:=η (HY.out rfl)
     clear HN HY;go_wp2;go_roundw
     case rel=>exact ⟨k+1,a0.out,by go_num,a6.out,ab.out⟩
     case measure=>have:=a0.out; simp [intOf]; omega
  ·have he:=η (show k=args.length by omega)
   have ae:¬ (k:Int) < (args.length:Int):=by omega
   have HE:Hid (args.all (fun t=>!t.var || iw ps t.name)=true):=η (by have:=HA.out; rw [he.out,ϕ ν] at this; exact this);have HB:=η hb;clear h ht hb;go_wp2;go_ret;exact ⟨aH HE.out.symm,HB.out⟩
theorem D8 (ps:List Pt) (v:Value) (bs:List Nat) (w:World) (h:gU w [v] ps bs):
  Calls Tryz.prog 239 #[v] w fun e w'=>e=.returned (.bool (qP ps))∧Below w.heap.size w w':=by
 obtain ⟨Ad,cap,rfl,hl,hm⟩:=ak h;have a7:=aA (τ hl hm);clear hl hm;unfold qP
 go_enter Tryz.func239,Tryz.ntmps239
 go_wp2
 go_loopw [7] (fun i wr=>∃ k:Nat,k≤ps.length∧i=.int .i64 k∧(ps.take k).all (fun p=>fF ps p.atom)=true∧Below w.heap.size w wr) (fun i _=>ps.length - (intOf i).toNat)
 case atStart=>exact ⟨0,ε,rfl,rfl,ϑ⟩
 case round=>
  obtain ⟨k,hk,rfl,I,U⟩:=hrel;have HA:=η I;clear I;by_cases y:k < ps.length
  ·obtain ⟨b,o,Ae,ce,bk,rfl,_,d0,d1,d2,a0,_⟩:=gV (dh.below h U) y
   have a8:(0:Int)≤(k:Int):=by omega
   have a4:(k:Int) < (ps.length:Int):=by omega
   have a1:=η y;have hA:Below wr.heap.size wr (wr.alloc (.cells #[.bool ps[k].no,.string ps[k].atom.name,.slice Ae ps[k].atom.args.length ce] 42)):=ζ;have J:=U.trans (hA.mono U.size);have hc:=wI ps ps[k].atom _ _ _ bs bk _ (dh.below h J) (aj.below (iQ a0) hA);have HY:Hid (fF ps ps[k].atom=true→(ps.take (k+1)).all (fun p=>fF ps p.atom)=true):=η (fun e=>by rw [iJ ps k y,HA.out]; show (true && fF ps ps[k].atom)=true; rw [e]; rfl);have HN:Hid (fF ps ps[k].atom=false→ps.all (fun p=>fF ps p.atom)=false):=η (fun e=>rY ps k y e);have HB:=η J;generalize fF ps ps[k].atom=r at *;generalize ps[k]=p at *;clear h a0 hA U J y
   go_wp2_with fail
   refine hc.mono ?_;rintro e w1 ⟨rfl,a2⟩;have a3:=η (HB.out.trans (a2.mono HB.out.size));clear hc a2;cases r
   ·have a5:=η (HN.out rfl)
    clear HN HY;go_wp2;go_ret;exact ⟨aH (by rw [a5.out]; rfl),a3.out⟩
   ·have a6:=η (HY.out rfl)
    clear HN HY;go_wp2;go_roundw
    case rel=>exact ⟨k+1,a1.out,by go_num,a6.out,a3.out⟩
    case measure=>have:=a1.out; simp [intOf]; omega
  ·have he:=η (show k=ps.length by omega)
   have a4:¬ (k:Int) < (ps.length:Int):=by omega
   have HE:Hid (ps.all (fun p=>fF ps p.atom)=true):=η (by have:=HA.out; rw [he.out,ϕ ν] at this; exact this);have HB:=η U;clear h U;go_wp2;go_ret;exact ⟨aH (by rw [HE.out]; rfl),HB.out⟩
theorem Ry:(Tryz.prog.info? 244).map (fun i=>(i.zero,i.size,i.bytes))=some (some (.agg #[.int .i64 0,.string ⟨#[]⟩]),2,24):=by kernel_rfl
theorem O1 (s:ByteArray) (w:World):(Instr.typeAssert (.iface 245 (.string s)) 239 241 true).run Tryz.prog w=.ok (.tuple #[.string ⟨#[]⟩,.bool false]) w:=by kernel_rfl
theorem D.O3:(⟨#[]⟩:ByteArray).size≤maxLen:=by decide
theorem y9 (vars:List ByteArray) (a:A) (A1 A2:Option Addr) (n1 q1 n2 q2:Nat) (v3 c0 c1:Value) (b3 b1:List Nat) (w:World) (hv:fU w [v3] vars b3) (hs:mW vars) (aE:vars.length≤1000000) (h:aI w [c0,c1] a b1) (hin:∀ t ∈ a.args,t.var=true→t.name ∈ vars) (bq:a.args.length≤1000000):
  Calls Tryz.prog 114 #[.agg #[.slice A1 n1 q1,.slice A2 n2 q2,v3],.agg #[c0,c1]] w fun e w'=>∃ v bs,e=.returned (.agg #[.string a.name,v])∧Below w.heap.size w w'∧a.name.size≤maxLen∧jK vars w' [v] a.args bs∧New w.heap.size w' bs:=by
 obtain ⟨i0,hi,aL,aM,aR⟩:=info_parts Ry;obtain ⟨nm,args⟩:=a;obtain ⟨Ae,ce,rfl,rfl⟩:=bI h;obtain ⟨A3,y,rfl,_⟩:=ak hv;have am:nm.size≤maxLen:=by obtain ⟨_,_,h1,_⟩:=h; exact h1
 have ht:=cZ h;dsimp only at ht hin bq am ⊢;have br:=η hin;have bt:=η am;have HS:=η (ι hs aE);have HT:=η ht;have HV:=η hv;clear h hs aE hin am ht hv
 go_enter Tryz.func114,Tryz.ntmps114
 have hA:Below w.heap.size w ((((w.alloc (.cells #[.slice A1 n1 q1,.slice A2 n2 q2,.slice A3 vars.length y] 164)).alloc (.cells #[.string nm,.slice Ae args.length ce] 33)).alloc (.cells #[.string ⟨#[]⟩,.slice none 0 0] 168)).alloc (.cells #[.string nm,.slice none 0 0] 168)):=(((ζ).alloc (by simp) _).alloc (by simp; omega) _).alloc (by simp; omega) _
 have hq:((((w.alloc (.cells #[.slice A1 n1 q1,.slice A2 n2 q2,.slice A3 vars.length y] 164)).alloc (.cells #[.string nm,.slice Ae args.length ce] 33)).alloc (.cells #[.string ⟨#[]⟩,.slice none 0 0] 168)).alloc (.cells #[.string nm,.slice none 0 0] 168)).heap[w.heap.size]? = some (.cells #[.slice A1 n1 q1,.slice A2 n2 q2,.slice A3 vars.length y] 164 (0,0)):=by
  rw [Below.heap_alloc _ _ _ (by simp; omega),Below.heap_alloc _ _ _ (by simp; omega),Below.heap_alloc _ _ _ (by simp)]; exact ω _ _
 have b2:((((w.alloc (.cells #[.slice A1 n1 q1,.slice A2 n2 q2,.slice A3 vars.length y] 164)).alloc (.cells #[.string nm,.slice Ae args.length ce] 33)).alloc (.cells #[.string ⟨#[]⟩,.slice none 0 0] 168)).alloc (.cells #[.string nm,.slice none 0 0] 168)).heap[w.heap.size+2]? = some (.cells #[.string ⟨#[]⟩,.slice none 0 0] 168 (0,0)):=by
  rw [Below.heap_alloc _ _ _ (by simp)];have:=ω ((w.alloc (.cells #[.slice A1 n1 q1,.slice A2 n2 q2,.slice A3 vars.length y] 164)).alloc (.cells #[.string nm,.slice Ae args.length ce] 33)) (.cells #[.string ⟨#[]⟩,.slice none 0 0] 168);simpa using this
 have b4:((((w.alloc (.cells #[.slice A1 n1 q1,.slice A2 n2 q2,.slice A3 vars.length y] 164)).alloc (.cells #[.string nm,.slice Ae args.length ce] 33)).alloc (.cells #[.string ⟨#[]⟩,.slice none 0 0] 168)).alloc (.cells #[.string nm,.slice none 0 0] 168)).heap[w.heap.size+3]? = some (.cells #[.string nm,.slice none 0 0] 168 (0,0)):=by
  have:=ω (((w.alloc (.cells #[.slice A1 n1 q1,.slice A2 n2 q2,.slice A3 vars.length y] 164)).alloc (.cells #[.string nm,.slice Ae args.length ce] 33)).alloc (.cells #[.string ⟨#[]⟩,.slice none 0 0] 168)) (.cells #[.string nm,.slice none 0 0] 168);simpa using this
 have b5:Hid (wC 2 (CX vars) 244 168 w (w.heap.size+2) (w.heap.size+3) (w.heap.size+4) nm (.slice none 0 0) [] [] ((((w.alloc (.cells #[.slice A1 n1 q1,.slice A2 n2 q2,.slice A3 vars.length y] 164)).alloc (.cells #[.string nm,.slice Ae args.length ce] 33)).alloc (.cells #[.string ⟨#[]⟩,.slice none 0 0] 168)).alloc (.cells #[.string nm,.slice none 0 0] 168))):=
  η ⟨b2,b4,by omega,by omega,by omega,aW.nil _,hA,by simp⟩
 have HQ:=η hq;clear hA hq b2 b4;go_wp2;generalize ((((w.alloc (.cells #[.slice A1 n1 q1,.slice A2 n2 q2,.slice A3 vars.length y] 164)).alloc (.cells #[.string nm,.slice Ae args.length ce] 33)).alloc (.cells #[.string ⟨#[]⟩,.slice none 0 0] 168)).alloc (.cells #[.string nm,.slice none 0 0] 168))=W at *
 go_loopw [18] (fun i wr=>∃ (k:Nat) (Av:Option Addr) (cv:Nat) (L:List Value),k≤args.length∧i=.int .i64 k∧wC 2 (CX vars) 244 168 w (w.heap.size+2) (w.heap.size+3) (w.heap.size+4) nm (.slice Av k cv) L (args.take k) wr∧wr.heap[w.heap.size]? = some (.cells #[.slice A1 n1 q1,.slice A2 n2 q2,.slice A3 vars.length y] 164 (0,0))) (fun i _=>args.length - (intOf i).toNat)
 case atStart=>exact ⟨0,none,0,[],ε,rfl,b5.out,HQ.out⟩
 case round=>
  obtain ⟨k,Av,cv,L,hk,rfl,hI,hq⟩:=hrel;clear b5 HQ;by_cases a9:k < args.length
  ·obtain ⟨b,o,rfl,_,f0,f1,b6⟩:=dU (aN.below HT.out (hI.bel.mono ν)) a9
   have bz:(0:Int)≤(k:Int):=by omega
   have bu:(k:Int) < (args.length:Int):=by omega
   have af:=η a9;have b7:=η (ρ a9);have ao:Below wr.heap.size wr (wr.alloc (.cells #[.bool args[k].var,.string args[k].name] 91)):=ζ;have aa:=η (hI.later (fK vars) ao);have a0:=η ((ao.block _ (ψ hq)).trans hq);have b8:=η (br.out args[k] (δ a9));have a4:=fun w=>uz args[k] w
   have bv:=η b6;have bc:Hid (((args.take k).length)=k):=η (by simp; omega);have bf:Hid (k+1≤maxLen):=η (by unfold maxLen; omega);have bg:Hid ((k+1) * 24≤140737488355328):=η (by omega);have a1:=BX;have a2:=O1;have a3:=IQ;clear hI hq ao b6 hk;generalize args[k]=t at *;clear a9;obtain ⟨tv,U⟩:=t;dsimp only at *;cases tv
   ·have ag:=fun w=>vJ U w
    have HR:Hid (∀ w,CX vars w [.int .i64 (-1),.string U] ⟨false,U⟩ []):=η fun w=>⟨rfl,bv.out,rfl⟩
    simp only [Bool.false_eq_true,if_false] at a4
    go_wp2_with fail
    refine (a4 _).mono ?_;rintro e w2 ⟨rfl,J⟩;have a5:=η (aa.out.later (fK vars) (J.trans ϑ.drew));have I:=aa.out.later (fK vars) J;have a6:=(J.block _ (ψ a0.out)).trans a0.out;have a7:=η a6;have q1:w2.cell? ⟨w.heap.size+3,1,none⟩=some (.slice Av k cv):=ai I.r1;have q2:w2.frozen? ⟨w.heap.size+3,1,none⟩=false:=ax I.r1;have q3:w.heap.size+3 < w2.heap.size:=ψ I.r1;have HL:=η (a5.out.lit (fK vars) (CY vars) HR.out);have ET:(vars.idxOf U:Nat)=(vars.idxOf U:Nat):=rfl;clear a4 aa a0 I a6 HR ET;go_wp2
    go_region_law
     (first
      | (go_simp; go_at_call 177; refine (ag _).mono ?_; rintro e w5 ⟨rfl,rfl⟩)
      | (refine aS (by rfl) (.tmp 46) (.tmp 50) _ (by rfl) (w.heap.size+4) 244 i0 (.agg #[.int .i64 0,.string ⟨#[]⟩]) 2 24 Tryz.underlying166 hi aL aM aR rfl (Θ 1) (fK vars) (.slice Av k cv) k L _ [] (by rfl) HL.out.1 bc.out (some ⟨w2.heap.size,0,none⟩) 1 1 _ [⟨false,U⟩] _ (by rfl) HL.out.2.1 rfl HL.out.2.2.1 (fun b hb=>by simp at hb) bf.out bg.out w2.drew (w.heap.size+4) HL.out.2.2.2.1 ν HL.out.2.2.2.2 ?_; intro A5 c5 w5 ab ac ap aq; have HZ:=η (a5.out.app (fK vars) ab ac); replace q1:=HZ.out.1; replace q2:=HZ.out.2.1; clear ab ac ap aq))
    all_goals
     have ar:=η HZ.out.2.2.1;have av:=η ((HZ.out.2.2.2 w.heap.size (by omega) (by omega)).trans a7.out);clear a5 HL HZ a7 q1 q2 q3;go_wp2;go_roundw
     case rel=>exact ⟨k+1,A5,c5,_,af.out,by go_num,by rw [b7.out]; exact ar.out,av.out⟩
     case measure=>have:=af.out; simp [intOf]; omega
   ·simp only [if_true] at a4
    have ag:=fun w=>qU U w
    have aw:Hid (∀ w',Below w.heap.size w w'→Calls Tryz.prog 175 #[.slice A3 vars.length y,.string U] w' fun e bw=>e=.returned (.tuple #[.int .i64 (vars.idxOf U:Nat),.bool true])∧Below w'.heap.size w' bw):=
     η fun w' hb=>IV vars U _ b3 w' (bH.below HV.out hb) HS.out.1 (b8.out rfl) HS.out.2
    have HR:Hid (∀ w,CX vars w [.int .i64 (vars.idxOf U:Nat),.string ⟨#[]⟩] ⟨true,U⟩ []):=η fun w=>⟨rfl,O3,rfl⟩
    obtain ⟨x,hx⟩:∃ x,x=vars.idxOf U:=⟨_,rfl⟩;rw [← hx] at HR aw;clear hx
    go_wp2_with fail
    refine (a4 _).mono ?_;rintro e w2 ⟨rfl,J⟩;have I:=aa.out.later (fK vars) J;have a6:=(J.block _ (ψ a0.out)).trans a0.out;have bh:=η I.bel;have a5:=η I;have a7:=η a6;have q1:w2.cell? ⟨w.heap.size,2,none⟩=some (.slice A3 vars.length y):=ai a6;have bi:=aw.out w2.drew bh.out.drew;clear a4 aa a0 I a6 aw J;go_wp2
    go_region_held3 (fun w'=>w'.cell? ⟨w.heap.size,2,none⟩=some (.slice A3 vars.length y))
     (first | go_keep | exact y0)
     (first
      | (go_at_call 176; refine (ag _).mono ?_; rintro e w5 ⟨rfl,rfl⟩; have y0:=q1)
      | (go_at_call 175; refine bi.mono ?_; rintro e w3 ⟨rfl,az⟩; have y0:=ξ az q1))
    have ae:Below w2.heap.size w2 w3:=ϑ.drew.trans az;have a8:=a5.out.later (fK vars) ae;have bj:=η a8;have bk:=η ((ae.block _ (ψ a7.out)).trans a7.out);have HL:=η (a8.lit (fK vars) (CY vars) HR.out);have q1:w3.cell? ⟨w.heap.size+3,1,none⟩=some (.slice Av k cv):=ai a8.r1;have q2:w3.frozen? ⟨w.heap.size+3,1,none⟩=false:=ax a8.r1;have q3:w.heap.size+3 < w3.heap.size:=ψ a8.r1;clear ae a8 a5 a7 bi bh ag HR az
    go_wp2_with (first | (at_builtin; refine bJ (by rfl) (.tmp 36) (.tmp 39) _ (by rfl) (w.heap.size+4) 244 i0 (.agg #[.int .i64 0,.string ⟨#[]⟩]) 2 24 Tryz.underlying166 hi aL aM aR rfl (Θ 1) (fK vars) (.slice Av k cv) k L _ [] (by rfl) HL.out.1 bc.out (some ⟨w3.heap.size,0,none⟩) 1 1 _ [⟨true,U⟩] _ (by rfl) HL.out.2.1 rfl HL.out.2.2.1 (fun b hb=>by simp at hb) bf.out bg.out w3 (w.heap.size+4) HL.out.2.2.2.1 ν HL.out.2.2.2.2 ?_; intro A5 c5 w5 ab ac ap aq; have HZ:=η (bj.out.app (fK vars) ab ac); replace q1:=HZ.out.1; replace q2:=HZ.out.2.1; clear ab ac ap aq) | go_in)
    have ar:=η HZ.out.2.2.1;have av:=η ((HZ.out.2.2.2 w.heap.size (by omega) (by omega)).trans bk.out);clear bj HL HZ bk q1 q2 q3;go_wp2;go_roundw
    case rel=>exact ⟨k+1,A5,c5,_,af.out,by go_num,by rw [b7.out]; exact ar.out,av.out⟩
    case measure=>have:=af.out; simp [intOf]; omega
  ·have he:k=args.length:=by omega
   have bu:¬ (k:Int) < (args.length:Int):=by omega
   obtain ⟨W9,bl,bn,aD,b9,bo,bp⟩:=hI.done (fK vars);have y0:wr.cell? ⟨w.heap.size+3,0,none⟩=some (.string nm):=ai hI.r1;have y1:wr.cell? ⟨w.heap.size+3,1,none⟩=some (.slice Av k cv):=ai hI.r1;have f0:wr.frozen? ⟨w.heap.size+2,0,none⟩=false:=ax hI.r0;have f1:wr.frozen? ⟨w.heap.size+2,1,none⟩=false:=ax hI.r0;have z0:wr.cell? ⟨w.heap.size+2,0,none⟩=some (.string ⟨#[]⟩):=ai hI.r0;have z1:wr.cell? ⟨w.heap.size+2,1,none⟩=some (.slice none 0 0):=ai hI.r0;have u0:W9.cell? ⟨w.heap.size+2,0,none⟩=some (.string nm):=ai aD;have u1:W9.cell? ⟨w.heap.size+2,1,none⟩=some (.slice Av k cv):=ai aD
   have HD:Hid (∃ v bs,Ending.returned (.agg #[.string nm,.slice Av k cv])=.returned (.agg #[.string nm,v])∧Below w.heap.size w W9∧nm.size≤maxLen∧jK vars W9 [v] args bs∧New w.heap.size W9 bs):=
    η ⟨_,b9,rfl,bn,bt.out,by rw [← ϕ (Nat.le_of_eq he.symm) (l:=args)]; exact bo,bp.mono (by omega)⟩
   have bx:=η bl;have HU:=η (ι u0 u1);clear hI hq bn aD bo bp bl he u0 u1;go_wp2;rw [← bx.out];refine bodyPost_ret (v:=.agg #[.string nm,.slice Av k cv]) (by simp [results,Tryz.results114,go_sem,HU.out.1,HU.out.2]) rfl (by obtain ⟨v,bs,q1,q2,q3,q4,q5⟩:=HD.out; exact ⟨v,q1,q2,q3,bs,q4,q5⟩)
end Go.Proofs.YtkjinanbccloeaaGreatDoor
