/- Of the proof of FnExactDelta: Bound, PatI. -/
import Derived.Test.YtiidmgchadagbaaGreatDoorM14
import Derived.Deep.RegionHeldLaw
set_option linter.unusedVariables false
set_option maxHeartbeats 2000000
set_option maxRecDepth 100000
namespace Go.Proofs.YtiidmgchadagbaaGreatDoor
open Go.RowKit D
attribute [local go_sem ↓] Go.wp_at_zero Go.wp_at_succ
theorem tY {B:Nat} {a w:World} (h:Below B a w) (n:Nat):Below B a (w.drewN n):=⟨h.os,h.tape,h.output,h.size,h.block⟩
theorem D8 (ts:List T) (s:ByteArray) (v:Value) (bs:List Nat) (w:World) (h:eY w [v] ts bs):
  Calls Tryz.prog 234 #[v,.agg #[.bool true,.string s]] w fun e w'=>∃ r:Int,e=.returned (.int .i64 r)∧(0≤r ↔ jZ s ts)∧Below w.heap.size w w':=by
 obtain ⟨Ad,cap,rfl,hl,hm⟩:=af h;have hlm:=au (Nat.le_trans hl hm);have hA:Below w.heap.size w (w.alloc (.cells #[.bool true,.string s] 109)):=(Below.refl _ _).alloc (Nat.le_refl _) _;have x0:(w.alloc (.cells #[.bool true,.string s] 109)).cell? ⟨w.heap.size,0,none⟩=some (.bool true):=by go_simp
 have x1:(w.alloc (.cells #[.bool true,.string s] 109)).cell? ⟨w.heap.size,1,none⟩=some (.string s):=by go_simp
 have hst:=η (And.intro hA (And.intro x0 x1));clear hl hm hA x0 x1
 go_enter Tryz.func234,Tryz.ntmps234
 go_wp2
 go_loopw [5,8] (fun a i wr=>∃ k:Nat,k≤ts.length∧i=.int .i64 k∧(∀ j (h1:j < ts.length),j < k→¬ (ts[j].var=true∧ts[j].name=s))∧Below w.heap.size w wr∧wr.cell? ⟨w.heap.size,0,none⟩=some (.bool true)∧wr.cell? ⟨w.heap.size,1,none⟩=some (.string s)) (fun _ i _=>ts.length - (intOf i).toNat)
 case atStart=>exact ⟨0,Nat.zero_le _,rfl,fun j _ h=>by omega,hst.out.1,hst.out.2.1,hst.out.2.2⟩
 case round=>
  obtain ⟨k,hk,rfl,hall,hb,x0,x1⟩:=hrel;have HA:=η hall;have HB:=η hb;clear hall hst;by_cases hlt:k < ts.length
  ·obtain ⟨b,o,rfl,_,e0,e1,_⟩:=dV (aH.below h hb) hlt
   have hk0:(0:Int)≤(k:Int):=by omega
   have hk1:(k:Int) < (ts.length:Int):=by omega
   have HLT:=η hlt;have HI:Hid (∀ (_:ts[k].var=true∧ts[k].name=s),jZ s ts):=η (fun e=>⟨_,List.getElem_mem hlt,e⟩)
   have HN:Hid (¬ (ts[k].var=true∧ts[k].name=s)→∀ j (h1:j < ts.length),j < k+1→¬ (ts[j].var=true∧ts[j].name=s)):=η (fun e j h1 hj=>by
    by_cases hjk:j=k
    ·subst hjk; exact e
    ·exact HA.out j h1 (by omega))
   generalize ts[k]=t at *;obtain ⟨tv,tn⟩:=t;dsimp only at *;clear hb hlt h;cases tv
   ·have HN2:=η (HN.out (by simp))
    clear HI HN;go_wp2
    go_quiet (fail)
    go_wp2;go_roundw
    case rel=>exact ⟨k+1,HLT.out,by go_num,HN2.out,tY HB.out _,x0,x1⟩
    case measure=>have:=HLT.out; simp [intOf]; omega
   ·cases hs:(s.toList == tn.toList)
    ·have HN2:=η (HN.out (fun e=>by rw [e.2] at hs; simp at hs))
     clear HI HN;go_wp2
     go_quiet (fail)
     go_wp2;go_roundw
     case rel=>exact ⟨k+1,HLT.out,by go_num,HN2.out,tY HB.out _,x0,x1⟩
     case measure=>have:=HLT.out; simp [intOf]; omega
    ·have HI2:=η (HI.out ⟨rfl,by have:=(iE.eq s tn).1 (by have h9:=AB s tn; rw [hs] at h9; simpa using h9.symm); exact this.symm⟩)
     clear HI HN;go_wp2
     go_quiet (fail)
     go_wp2;go_ret;exact ⟨k,rfl,⟨fun _=>HI2.out,fun _=>hk0⟩,tY HB.out _⟩
  ·have he:=η (show k=ts.length by omega)
   have hk1:¬ (k:Int) < (ts.length:Int):=by omega
   clear h hb;go_wp2;go_ret
   exact ⟨-1,rfl,⟨fun h0=>absurd h0 (by decide),fun ⟨t,ht,h1⟩=>by
    obtain ⟨j,hj,rfl⟩:=List.mem_iff_getElem.1 ht
    exact absurd h1 (HA.out j hj (by rw [he.out]; exact hj))⟩,HB.out⟩
theorem yX (ts:List T) (s:ByteArray) (v:Value) (bs:List Nat) (w:World) (h:eY w [v] ts bs):
  Calls Tryz.prog 230 #[v,.agg #[.bool true,.string s]] w fun e w'=>∃ r:Bool,e=.returned (.bool r)∧(r=true ↔ jZ s ts)∧Below w.heap.size w w':=by
 obtain ⟨Ad,cap,rfl,hl,hm⟩:=af h;have hA:Below w.heap.size w (w.alloc (.cells #[.bool true,.string s] 109)):=(Below.refl _ _).alloc (Nat.le_refl _) _;have hk:=D8 ts s _ bs _ (aH.below h hA);clear h hl hm
 go_enter Tryz.func230,Tryz.ntmps230
 go_wp2_with fail
 refine hk.mono ?_;rintro e w1 ⟨r,rfl,hr,hb1⟩;have HR:=η hr;have B1:=η (hA.trans (hb1.mono hA.size));clear hk hr hA;go_wp2;go_ret;exact ⟨decide (0≤r),rfl,by rw [decide_eq_true_iff]; exact HR.out,B1.out⟩
namespace D
def rQ (x:ByteArray) (p:Pt):Bool:=!p.no && p.atom.args.any fun t=>t.var && decide (fZ t.name x=0)
theorem P5 (p:Pt) (x:ByteArray):rQ x p=true ↔ p.no=false∧jZ x p.atom.args:=by
 unfold rQ jZ;simp only [Bool.and_eq_true,Bool.not_eq_true',List.any_eq_true,decide_eq_true_eq,iE.eq]
theorem Ny {ps:List Pt} {x:ByteArray} {k:Nat} (hk:k < ps.length) (h:rQ x ps[k]=true):iU ps x=true:=by
 unfold iU; rw [List.any_eq_true]; exact ⟨_,List.getElem_mem hk,h⟩
theorem P6 {ps:List Pt} {x:ByteArray} (h:ps.all (fun p=>!rQ x p)=true):iU ps x=false:=by
 unfold iU;rw [List.any_eq_false];intro p hp hb;have:=List.all_eq_true.1 h p hp;rw [show rQ x p=true from hb] at this; cases this
end D
theorem JL (ps:List Pt) (x:ByteArray) (v:Value) (bs:List Nat) (w:World) (h:gm w [v] ps bs):
  Calls Tryz.prog 217 #[v,.string x] w fun e w'=>e=.returned (.bool (iU ps x))∧Below w.heap.size w w':=by
 obtain ⟨Ad,cap,rfl,hl,hm⟩:=af h;have hlm:=au (Nat.le_trans hl hm);clear hl hm
 go_enter Tryz.func217,Tryz.ntmps217
 go_wp2
 go_loopw [9] (fun i wr=>∃ k:Nat,k≤ps.length∧i=.int .i64 k∧(ps.take k).all (fun p=>!rQ x p)=true∧Below w.heap.size w wr) (fun i _=>ps.length - (intOf i).toNat)
 case atStart=>exact ⟨0,Nat.zero_le _,rfl,rfl,Below.refl _ _⟩
 case round=>
  obtain ⟨k,hk,rfl,hall,hb⟩:=hrel;have HA:=η hall;clear hall;by_cases hlt:k < ps.length
  ·obtain ⟨b,o,Ae,ce,bk,rfl,_,d0,d1,d2,hel,_⟩:=gJ (aY.below h hb) hlt
   have hk0:(0:Int)≤(k:Int):=by omega
   have hk1:(k:Int) < (ps.length:Int):=by omega
   have HLT:=η hlt;have hA:Below wr.heap.size wr (wr.alloc (.cells #[.bool ps[k].no,.string ps[k].atom.name,.slice Ae ps[k].atom.args.length ce] 111)):=(Below.refl _ _).alloc (Nat.le_refl _) _;have hc:=yX ps[k].atom.args x _ bk _ (aH.below (eH (gK hel)) hA);have HY:Hid (rQ x ps[k]=true→iU ps x=true):=η (Ny hlt);have HN:Hid (rQ x ps[k]=false→(ps.take (k+1)).all (fun p=>!rQ x p)=true):=η (fun e=>by rw [je ps k hlt,HA.out]; show (true && !rQ x ps[k])=true; rw [e]; rfl);have HB:=η (hb.trans (hA.mono hb.size));have HI:=η (P5 ps[k] x);generalize ps[k]=p at *;obtain ⟨no,nm,args⟩:=p;dsimp only at *;clear h hel hA hb hlt;cases no
   ·go_wp2_with fail
    refine hc.mono ?_;rintro e w1 ⟨r,rfl,hr,hb1⟩;have HR:=η hr;have HB1:=η (HB.out.trans (hb1.mono HB.out.size));clear hc hr hb1;cases r
    ·have HN2:=η (HN.out (by cases hx:rQ x ⟨false,nm,args⟩; rfl; exact absurd (HR.out.2 (HI.out.1 hx).2) (by simp)))
     clear HN HY HR;go_wp2;go_roundw
     case rel=>exact ⟨k+1,HLT.out,by go_num,HN2.out,HB1.out⟩
     case measure=>have:=HLT.out; simp [intOf]; omega
    ·have HY2:=η (HY.out (HI.out.2 ⟨by simp,HR.out.1 rfl⟩))
     clear HN HY HR;go_wp2;go_ret;exact ⟨aO HY2.out.symm,HB1.out⟩
   ·have HN2:=η (HN.out (by cases hx:rQ x ⟨true,nm,args⟩; rfl; exact absurd (HI.out.1 hx).1 (by simp)))
    clear HN HY hc;go_wp2;go_roundw
    case rel=>exact ⟨k+1,HLT.out,by go_num,HN2.out,HB.out⟩
    case measure=>have:=HLT.out; simp [intOf]; omega
  ·have he:=η (show k=ps.length by omega)
   have hk1:¬ (k:Int) < (ps.length:Int):=by omega
   have HE:=η (P6 (ps:=ps) (x:=x) (by have:=HA.out; rw [he.out,List.take_of_length_le (Nat.le_refl _)] at this; exact this));have HB:=η hb;clear h hb;go_wp2;go_ret;exact ⟨aO HE.out.symm,HB.out⟩
theorem SS (s:ByteArray) (w:World):(Instr.typeAssert (.iface 247 (.string s)) 241 243 true).run Tryz.prog w=.ok (.tuple #[.string ⟨#[]⟩,.bool false]) w:=by kernel_rfl
theorem x9 (ps:List Pt) (a:A) (v c0 c1:Value) (bs b2:List Nat) (w:World) (h:gm w [v] ps bs) (h2:aU w [c0,c1] a b2):
  Calls Tryz.prog 205 #[v,.agg #[c0,c1]] w fun e w'=>e=.returned (.bool (gI ps a))∧Below w.heap.size w w':=by
 obtain ⟨Ad,cap,rfl,hl,hm⟩:=af h;have ht:=eH h2;obtain ⟨Aa,ca,rfl,rfl⟩:=bJ h2;have hlm:=au (Nat.le_trans hl hm);obtain ⟨_,_,e0',hl2,hm2⟩:=af ht;have hla:=au (Nat.le_trans hl2 hm2);have hA:Below w.heap.size w (w.alloc (.cells #[.string a.name,.slice Aa a.args.length ca] 68)):=(Below.refl _ _).alloc (Nat.le_refl _) _;clear hl hm hl2 hm2 e0' h2;unfold gI;obtain ⟨an,args⟩:=a;dsimp only at *
 go_enter Tryz.func205,Tryz.ntmps205
 have a1:=BO;have a2:=SS;go_wp2
 go_loopw [12] (fun i wr=>∃ k:Nat,k≤args.length∧i=.int .i64 k∧(args.take k).all (fun t=>!t.var || iU ps t.name)=true∧Below w.heap.size w wr) (fun i _=>args.length - (intOf i).toNat)
 case atStart=>exact ⟨0,Nat.zero_le _,rfl,rfl,hA⟩
 case round=>
  obtain ⟨k,hk,rfl,hall,hb⟩:=hrel;have HA:=η hall;clear hall hA;by_cases hlt:k < args.length
  ·obtain ⟨b,o,rfl,_,d0,d1,_⟩:=dV (aH.below ht hb) hlt
   have hk0:(0:Int)≤(k:Int):=by omega
   have hk1:(k:Int) < (args.length:Int):=by omega
   have HLT:=η hlt;have hA:Below wr.heap.size wr (wr.alloc (.cells #[.bool args[k].var,.string args[k].name] 109)):=(Below.refl _ _).alloc (Nat.le_refl _) _;have hb':=hb.trans (hA.mono hb.size);have hkd:=vZ args[k] (wr.alloc (.cells #[.bool args[k].var,.string args[k].name] 109));have hbd:=fun w' (hb2:Below w.heap.size w w')=>JL ps args[k].name _ bs w' (aY.below h hb2)
   have HY:Hid ((!args[k].var || iU ps args[k].name)=true→(args.take (k+1)).all (fun t=>!t.var || iU ps t.name)=true):=η (fun e=>by rw [je args k hlt,HA.out]; show (true && (!args[k].var || iU ps args[k].name))=true; rw [e]; rfl);have HN:Hid ((!args[k].var || iU ps args[k].name)=false→args.all (fun t=>!t.var || iU ps t.name)=false):=η (fun e=>uF args k hlt e);have HB:=η hb';generalize args[k]=t at *;obtain ⟨tv,tn⟩:=t;dsimp only at *;clear h ht hA hb hb' hlt;cases tv
   ·simp only [Bool.false_eq_true,if_false] at hkd
    have HY2:=η (HY.out rfl);clear HY HN hbd
    go_wp2_with fail
    refine hkd.mono ?_;rintro e w1 ⟨rfl,hb1⟩;have HB1:=η (HB.out.trans (hb1.mono HB.out.size));clear hkd hb1;go_wp2;go_roundw
    case rel=>exact ⟨k+1,HLT.out,by go_num,HY2.out,HB1.out⟩
    case measure=>have:=HLT.out; simp [intOf]; omega
   ·simp only [if_true] at hkd
    go_wp2_with fail
    refine hkd.mono ?_;rintro e w1 ⟨rfl,hb1⟩;have HB1:=η (HB.out.trans (hb1.mono HB.out.size));have hv:=sS tn w1;have hbd1:=hbd w1 HB1.out;have HG:Hid ((!true || iU ps tn)=iU ps tn):=η rfl;rw [HG.out] at HY HN;generalize iU ps tn=r at *;clear hkd hbd hb1
    go_wp2_with fail
    refine hv.mono ?_;rintro e w2 ⟨rfl,rfl⟩
    go_wp2_with fail
    refine hbd1.mono ?_;rintro e w3 ⟨rfl,hb3⟩;have HB3:=η (HB1.out.trans (hb3.mono HB1.out.size));clear hv hbd1 hb3;cases r
    ·have HN2:=η (HN.out rfl)
     clear HN HY;go_wp2;go_ret;exact ⟨aO HN2.out.symm,HB3.out⟩
    ·have HY2:=η (HY.out rfl)
     clear HN HY;go_wp2;go_roundw
     case rel=>exact ⟨k+1,HLT.out,by go_num,HY2.out,HB3.out⟩
     case measure=>have:=HLT.out; simp [intOf]; omega
  ·have he:=η (show k=args.length by omega)
   have hk1:¬ (k:Int) < (args.length:Int):=by omega
   have HE:Hid (args.all (fun t=>!t.var || iU ps t.name)=true):=η (by have:=HA.out; rw [he.out,List.take_of_length_le (Nat.le_refl _)] at this; exact this);have HB:=η hb;clear h ht hb;go_wp2;go_ret;exact ⟨aO HE.out.symm,HB.out⟩
theorem D9 (ps:List Pt) (v:Value) (bs:List Nat) (w:World) (h:gm w [v] ps bs):
  Calls Tryz.prog 206 #[v] w fun e w'=>e=.returned (.bool (sO ps))∧Below w.heap.size w w':=by
 obtain ⟨Ad,cap,rfl,hl,hm⟩:=af h;have hlm:=au (Nat.le_trans hl hm);clear hl hm;unfold sO
 go_enter Tryz.func206,Tryz.ntmps206
 go_wp2
 go_loopw [7] (fun i wr=>∃ k:Nat,k≤ps.length∧i=.int .i64 k∧(ps.take k).all (fun p=>gI ps p.atom)=true∧Below w.heap.size w wr) (fun i _=>ps.length - (intOf i).toNat)
 case atStart=>exact ⟨0,Nat.zero_le _,rfl,rfl,Below.refl _ _⟩
 case round=>
  obtain ⟨k,hk,rfl,hall,hb⟩:=hrel;have HA:=η hall;clear hall;by_cases hlt:k < ps.length
  ·obtain ⟨b,o,Ae,ce,bk,rfl,_,d0,d1,d2,hel,_⟩:=gJ (aY.below h hb) hlt
   have hk0:(0:Int)≤(k:Int):=by omega
   have hk1:(k:Int) < (ps.length:Int):=by omega
   have HLT:=η hlt;have hA:Below wr.heap.size wr (wr.alloc (.cells #[.bool ps[k].no,.string ps[k].atom.name,.slice Ae ps[k].atom.args.length ce] 111)):=(Below.refl _ _).alloc (Nat.le_refl _) _;have hb':=hb.trans (hA.mono hb.size);have hc:=x9 ps ps[k].atom _ _ _ bs bk _ (aY.below h hb') (aj.below (gK hel) hA);have HY:Hid (gI ps ps[k].atom=true→(ps.take (k+1)).all (fun p=>gI ps p.atom)=true):=η (fun e=>by rw [je ps k hlt,HA.out]; show (true && gI ps ps[k].atom)=true; rw [e]; rfl);have HN:Hid (gI ps ps[k].atom=false→ps.all (fun p=>gI ps p.atom)=false):=η (fun e=>uF ps k hlt e);have HB:=η hb';generalize gI ps ps[k].atom=r at *;generalize ps[k]=p at *;clear h hel hA hb hb' hlt
   go_wp2_with fail
   refine hc.mono ?_;rintro e w1 ⟨rfl,hb1⟩;have HB1:=η (HB.out.trans (hb1.mono HB.out.size));clear hc hb1;cases r
   ·have HN2:=η (HN.out rfl)
    clear HN HY;go_wp2;go_ret;exact ⟨aO (by rw [HN2.out]; rfl),HB1.out⟩
   ·have HY2:=η (HY.out rfl)
    clear HN HY;go_wp2;go_roundw
    case rel=>exact ⟨k+1,HLT.out,by go_num,HY2.out,HB1.out⟩
    case measure=>have:=HLT.out; simp [intOf]; omega
  ·have he:=η (show k=ps.length by omega)
   have hk1:¬ (k:Int) < (ps.length:Int):=by omega
   have HE:Hid (ps.all (fun p=>gI ps p.atom)=true):=η (by have:=HA.out; rw [he.out,List.take_of_length_le (Nat.le_refl _)] at this; exact this);have HB:=η hb;clear h hb;go_wp2;go_ret;exact ⟨aO (by rw [HE.out]; rfl),HB.out⟩
theorem SV:(Tryz.prog.info? 246).map (fun i=>(i.zero,i.size,i.bytes))=some (some (.agg #[.int .i64 0,.string ⟨#[]⟩]),2,24):=by kernel_rfl
theorem P7 (s:ByteArray) (w:World):(Instr.typeAssert (.iface 247 (.string s)) 241 243 true).run Tryz.prog w=.ok (.tuple #[.string ⟨#[]⟩,.bool false]) w:=by kernel_rfl
theorem D.P8:(⟨#[]⟩:ByteArray).size≤maxLen:=by decide
theorem zO (vars:List ByteArray) (a:A) (A1 A2:Option Addr) (n1 q1 n2 q2:Nat) (v3 c0 c1:Value) (b3 b1:List Nat) (w:World) (hv:jL w [v3] vars b3) (hs:sK vars) (hvl:vars.length≤1000000) (h:aU w [c0,c1] a b1) (hin:∀ t ∈ a.args,t.var=true→t.name ∈ vars) (hal:a.args.length≤1000000):
  Calls Tryz.prog 140 #[.agg #[.slice A1 n1 q1,.slice A2 n2 q2,v3],.agg #[c0,c1]] w fun e w'=>∃ v bs,e=.returned (.agg #[.string a.name,v])∧Below w.heap.size w w'∧a.name.size≤maxLen∧kP vars w' [v] a.args bs∧New w.heap.size w' bs:=by
 obtain ⟨i0,hi,hz0,hz1,hz2⟩:=info_parts SV;obtain ⟨nm,args⟩:=a;obtain ⟨Ae,ce,rfl,rfl⟩:=bJ h;obtain ⟨A3,cp3,rfl,_⟩:=af hv;have hnm:nm.size≤maxLen:=by obtain ⟨_,_,h1,_⟩:=h; exact h1
 have ht:=eH h;dsimp only at ht hin hal hnm ⊢;have HIN:=η hin;have HNM:=η hnm;have HS:=η (And.intro hs hvl);have HT:=η ht;have HV:=η hv;clear h hs hvl hin hnm ht hv
 go_enter Tryz.func140,Tryz.ntmps140
 have hA:Below w.heap.size w ((((w.alloc (.cells #[.slice A1 n1 q1,.slice A2 n2 q2,.slice A3 vars.length cp3] 195)).alloc (.cells #[.string nm,.slice Ae args.length ce] 68)).alloc (.cells #[.string ⟨#[]⟩,.slice none 0 0] 199)).alloc (.cells #[.string nm,.slice none 0 0] 199)):=((((Below.refl _ _).alloc (Nat.le_refl _) _).alloc (by simp) _).alloc (by simp; omega) _).alloc (by simp; omega) _
 have hq:((((w.alloc (.cells #[.slice A1 n1 q1,.slice A2 n2 q2,.slice A3 vars.length cp3] 195)).alloc (.cells #[.string nm,.slice Ae args.length ce] 68)).alloc (.cells #[.string ⟨#[]⟩,.slice none 0 0] 199)).alloc (.cells #[.string nm,.slice none 0 0] 199)).heap[w.heap.size]? = some (.cells #[.slice A1 n1 q1,.slice A2 n2 q2,.slice A3 vars.length cp3] 195 (0,0)):=by
  rw [Below.heap_alloc _ _ _ (by simp; omega),Below.heap_alloc _ _ _ (by simp; omega),Below.heap_alloc _ _ _ (by simp)]; exact heap_alloc_new _ _
 have hr0:((((w.alloc (.cells #[.slice A1 n1 q1,.slice A2 n2 q2,.slice A3 vars.length cp3] 195)).alloc (.cells #[.string nm,.slice Ae args.length ce] 68)).alloc (.cells #[.string ⟨#[]⟩,.slice none 0 0] 199)).alloc (.cells #[.string nm,.slice none 0 0] 199)).heap[w.heap.size+2]? = some (.cells #[.string ⟨#[]⟩,.slice none 0 0] 199 (0,0)):=by
  rw [Below.heap_alloc _ _ _ (by simp)];have:=heap_alloc_new ((w.alloc (.cells #[.slice A1 n1 q1,.slice A2 n2 q2,.slice A3 vars.length cp3] 195)).alloc (.cells #[.string nm,.slice Ae args.length ce] 68)) (.cells #[.string ⟨#[]⟩,.slice none 0 0] 199);simpa using this
 have hr1:((((w.alloc (.cells #[.slice A1 n1 q1,.slice A2 n2 q2,.slice A3 vars.length cp3] 195)).alloc (.cells #[.string nm,.slice Ae args.length ce] 68)).alloc (.cells #[.string ⟨#[]⟩,.slice none 0 0] 199)).alloc (.cells #[.string nm,.slice none 0 0] 199)).heap[w.heap.size+3]? = some (.cells #[.string nm,.slice none 0 0] 199 (0,0)):=by
  have:=heap_alloc_new (((w.alloc (.cells #[.slice A1 n1 q1,.slice A2 n2 q2,.slice A3 vars.length cp3] 195)).alloc (.cells #[.string nm,.slice Ae args.length ce] 68)).alloc (.cells #[.string ⟨#[]⟩,.slice none 0 0] 199)) (.cells #[.string nm,.slice none 0 0] 199);simpa using this
 have HI0:Hid (xR 2 (CS vars) 246 199 w (w.heap.size+2) (w.heap.size+3) (w.heap.size+4) nm (.slice none 0 0) [] [] ((((w.alloc (.cells #[.slice A1 n1 q1,.slice A2 n2 q2,.slice A3 vars.length cp3] 195)).alloc (.cells #[.string nm,.slice Ae args.length ce] 68)).alloc (.cells #[.string ⟨#[]⟩,.slice none 0 0] 199)).alloc (.cells #[.string nm,.slice none 0 0] 199))):=
  η ⟨hr0,hr1,by omega,by omega,by omega,cO.nil _,hA,by simp⟩
 have HQ:=η hq;clear hA hq hr0 hr1;go_wp2;generalize ((((w.alloc (.cells #[.slice A1 n1 q1,.slice A2 n2 q2,.slice A3 vars.length cp3] 195)).alloc (.cells #[.string nm,.slice Ae args.length ce] 68)).alloc (.cells #[.string ⟨#[]⟩,.slice none 0 0] 199)).alloc (.cells #[.string nm,.slice none 0 0] 199))=W at *
 go_loopw [18] (fun i wr=>∃ (k:Nat) (Av:Option Addr) (cv:Nat) (L:List Value),k≤args.length∧i=.int .i64 k∧xR 2 (CS vars) 246 199 w (w.heap.size+2) (w.heap.size+3) (w.heap.size+4) nm (.slice Av k cv) L (args.take k) wr∧wr.heap[w.heap.size]? = some (.cells #[.slice A1 n1 q1,.slice A2 n2 q2,.slice A3 vars.length cp3] 195 (0,0))) (fun i _=>args.length - (intOf i).toNat)
 case atStart=>exact ⟨0,none,0,[],Nat.zero_le _,rfl,HI0.out,HQ.out⟩
 case round=>
  obtain ⟨k,Av,cv,L,hk,rfl,hI,hq⟩:=hrel;clear HI0 HQ;by_cases hlt:k < args.length
  ·obtain ⟨b,o,rfl,_,f0,f1,hsz⟩:=dV (aH.below HT.out (hI.bel.mono (Nat.le_refl _))) hlt
   have hk0:(0:Int)≤(k:Int):=by omega
   have hk1:(k:Int) < (args.length:Int):=by omega
   have HLT:=η hlt;have HTK:=η (List.take_succ_eq_append_getElem hlt);have hA2:Below wr.heap.size wr (wr.alloc (.cells #[.bool args[k].var,.string args[k].name] 109)):=(Below.refl _ _).alloc (Nat.le_refl _) _;have HI1:=η (hI.later (gU vars) hA2);have HQ1:=η ((hA2.block _ (lt_of_block hq)).trans hq);have HMEM:=η (HIN.out args[k] (List.getElem_mem hlt));have HKD:=fun w=>vZ args[k] w
   have HSZ:=η hsz;have HLK:Hid (((args.take k).length)=k):=η (by simp; omega);have H63:Hid (k+1≤maxLen):=η (by unfold maxLen; omega);have HBY:Hid ((k+1) * 24≤140737488355328):=η (by omega);have a1:=BO;have a2:=P7;have a3:=I8;clear hI hq hA2 hsz hk;generalize args[k]=t at *;clear hlt;obtain ⟨tv,tn⟩:=t;dsimp only at *;cases tv
   ·have HVT:=fun w=>xw tn w
    have HR:Hid (∀ w,CS vars w [.int .i64 (-1),.string tn] ⟨false,tn⟩ []):=η fun w=>⟨rfl,HSZ.out,rfl⟩
    simp only [Bool.false_eq_true,if_false] at HKD
    go_wp2_with fail
    refine (HKD _).mono ?_;rintro e w2 ⟨rfl,hb2⟩;have HI2:=η (HI1.out.later (gU vars) (hb2.trans (Below.refl _ _).drew));have hI2:=HI1.out.later (gU vars) hb2;have hq2:=(hb2.block _ (lt_of_block HQ1.out)).trans HQ1.out;have HQ2:=η hq2;have q1:w2.cell? ⟨w.heap.size+3,1,none⟩=some (.slice Av k cv):=ak hI2.r1;have q2:w2.frozen? ⟨w.heap.size+3,1,none⟩=false:=aB hI2.r1;have q3:w.heap.size+3 < w2.heap.size:=lt_of_block hI2.r1;have HL:=η (HI2.out.lit (gU vars) (CU vars) HR.out);have ET:(vars.idxOf tn:Nat)=(vars.idxOf tn:Nat):=rfl;clear HKD HI1 HQ1 hI2 hq2 HR ET;go_wp2
    go_region_law
     (first
      | (go_simp; go_at_call 177; refine (HVT _).mono ?_; rintro e w5 ⟨rfl,rfl⟩)
      | (refine aN (by rfl) (.tmp 46) (.tmp 50) _ (by rfl) (w.heap.size+4) 246 i0 (.agg #[.int .i64 0,.string ⟨#[]⟩]) 2 24 Tryz.underlying197 hi hz0 hz1 hz2 rfl (Nat.zero_lt_succ 1) (gU vars) (.slice Av k cv) k L _ [] (by rfl) HL.out.1 HLK.out (some ⟨w2.heap.size,0,none⟩) 1 1 _ [⟨false,tn⟩] _ (by rfl) HL.out.2.1 rfl HL.out.2.2.1 (fun b hb=>by simp at hb) H63.out HBY.out w2.drew (w.heap.size+4) HL.out.2.2.2.1 (Nat.le_refl _) HL.out.2.2.2.2 ?_; intro A5 c5 w5 hC5 hB5 hS5 hG5; have HZ:=η (HI2.out.app (gU vars) hC5 hB5); replace q1:=HZ.out.1; replace q2:=HZ.out.2.1; clear hC5 hB5 hS5 hG5))
    all_goals
     have HI9:=η HZ.out.2.2.1;have HQ9:=η ((HZ.out.2.2.2 w.heap.size (by omega) (by omega)).trans HQ2.out);clear HI2 HL HZ HQ2 q1 q2 q3;go_wp2;go_roundw
     case rel=>exact ⟨k+1,A5,c5,_,HLT.out,by go_num,by rw [HTK.out]; exact HI9.out,HQ9.out⟩
     case measure=>have:=HLT.out; simp [intOf]; omega
   ·simp only [if_true] at HKD
    have HVT:=fun w=>sS tn w
    have HSR:Hid (∀ w',Below w.heap.size w w'→Calls Tryz.prog 175 #[.slice A3 vars.length cp3,.string tn] w' fun e w''=>e=.returned (.tuple #[.int .i64 (vars.idxOf tn:Nat),.bool true])∧Below w'.heap.size w' w''):=
     η fun w' hb=>Ja vars tn _ b3 w' (cZ.below HV.out hb) HS.out.1 (HMEM.out rfl) HS.out.2
    have HR:Hid (∀ w,CS vars w [.int .i64 (vars.idxOf tn:Nat),.string ⟨#[]⟩] ⟨true,tn⟩ []):=η fun w=>⟨rfl,P8,rfl⟩
    obtain ⟨x,hx⟩:∃ x,x=vars.idxOf tn:=⟨_,rfl⟩;rw [← hx] at HR HSR;clear hx
    go_wp2_with fail
    refine (HKD _).mono ?_;rintro e w2 ⟨rfl,hb2⟩;have hI2:=HI1.out.later (gU vars) hb2;have hq2:=(hb2.block _ (lt_of_block HQ1.out)).trans HQ1.out;have HB2:=η hI2.bel;have HI2:=η hI2;have HQ2:=η hq2;have q1:w2.cell? ⟨w.heap.size,2,none⟩=some (.slice A3 vars.length cp3):=ak hq2;have hSR:=HSR.out w2.drew HB2.out.drew;clear HKD HI1 HQ1 hI2 hq2 HSR hb2;go_wp2
    go_region_held3 (fun w'=>w'.cell? ⟨w.heap.size,2,none⟩=some (.slice A3 vars.length cp3))
     (first | go_keep | exact y0)
     (first
      | (go_at_call 176; refine (HVT _).mono ?_; rintro e w5 ⟨rfl,rfl⟩; have y0:=q1)
      | (go_at_call 175; refine hSR.mono ?_; rintro e w3 ⟨rfl,hb3⟩; have y0:=cell_later hb3 q1))
    have hB23:Below w2.heap.size w2 w3:=(Below.refl _ _).drew.trans hb3;have hI3:=HI2.out.later (gU vars) hB23;have HI3:=η hI3;have HQ3:=η ((hB23.block _ (lt_of_block HQ2.out)).trans HQ2.out);have HL:=η (hI3.lit (gU vars) (CU vars) HR.out);have q1:w3.cell? ⟨w.heap.size+3,1,none⟩=some (.slice Av k cv):=ak hI3.r1;have q2:w3.frozen? ⟨w.heap.size+3,1,none⟩=false:=aB hI3.r1;have q3:w.heap.size+3 < w3.heap.size:=lt_of_block hI3.r1;clear hB23 hI3 HI2 HQ2 hSR HB2 HVT HR hb3
    go_wp2_with (first | (at_builtin; refine iH (by rfl) (.tmp 36) (.tmp 39) _ (by rfl) (w.heap.size+4) 246 i0 (.agg #[.int .i64 0,.string ⟨#[]⟩]) 2 24 Tryz.underlying197 hi hz0 hz1 hz2 rfl (Nat.zero_lt_succ 1) (gU vars) (.slice Av k cv) k L _ [] (by rfl) HL.out.1 HLK.out (some ⟨w3.heap.size,0,none⟩) 1 1 _ [⟨true,tn⟩] _ (by rfl) HL.out.2.1 rfl HL.out.2.2.1 (fun b hb=>by simp at hb) H63.out HBY.out w3 (w.heap.size+4) HL.out.2.2.2.1 (Nat.le_refl _) HL.out.2.2.2.2 ?_; intro A5 c5 w5 hC5 hB5 hS5 hG5; have HZ:=η (HI3.out.app (gU vars) hC5 hB5); replace q1:=HZ.out.1; replace q2:=HZ.out.2.1; clear hC5 hB5 hS5 hG5) | go_in)
    have HI9:=η HZ.out.2.2.1;have HQ9:=η ((HZ.out.2.2.2 w.heap.size (by omega) (by omega)).trans HQ3.out);clear HI3 HL HZ HQ3 q1 q2 q3;go_wp2;go_roundw
    case rel=>exact ⟨k+1,A5,c5,_,HLT.out,by go_num,by rw [HTK.out]; exact HI9.out,HQ9.out⟩
    case measure=>have:=HLT.out; simp [intOf]; omega
  ·have he:k=args.length:=by omega
   have hk1:¬ (k:Int) < (args.length:Int):=by omega
   obtain ⟨W9,hW9,hB9,hb9,b9,hs9,hn9⟩:=hI.done (gU vars);have y0:wr.cell? ⟨w.heap.size+3,0,none⟩=some (.string nm):=ak hI.r1;have y1:wr.cell? ⟨w.heap.size+3,1,none⟩=some (.slice Av k cv):=ak hI.r1;have f0:wr.frozen? ⟨w.heap.size+2,0,none⟩=false:=aB hI.r0;have f1:wr.frozen? ⟨w.heap.size+2,1,none⟩=false:=aB hI.r0;have z0:wr.cell? ⟨w.heap.size+2,0,none⟩=some (.string ⟨#[]⟩):=ak hI.r0;have z1:wr.cell? ⟨w.heap.size+2,1,none⟩=some (.slice none 0 0):=ak hI.r0;have u0:W9.cell? ⟨w.heap.size+2,0,none⟩=some (.string nm):=ak hb9;have u1:W9.cell? ⟨w.heap.size+2,1,none⟩=some (.slice Av k cv):=ak hb9
   have HD:Hid (∃ v bs,Ending.returned (.agg #[.string nm,.slice Av k cv])=.returned (.agg #[.string nm,v])∧Below w.heap.size w W9∧nm.size≤maxLen∧kP vars W9 [v] args bs∧New w.heap.size W9 bs):=
    η ⟨_,b9,rfl,hB9,HNM.out,by rw [← List.take_of_length_le (Nat.le_of_eq he.symm) (l:=args)]; exact hs9,hn9.mono (by omega)⟩
   have HW9:=η hW9;have HU:=η (And.intro u0 u1);clear hI hq hB9 hb9 hs9 hn9 hW9 he u0 u1;go_wp2;rw [← HW9.out];refine bodyPost_ret (v:=.agg #[.string nm,.slice Av k cv]) (by simp [results,Tryz.results140,go_sem,HU.out.1,HU.out.2]) rfl (by obtain ⟨v,bs,q1,q2,q3,q4,q5⟩:=HD.out; exact ⟨v,q1,q2,q3,bs,q4,q5⟩)
end Go.Proofs.YtiidmgchadagbaaGreatDoor
