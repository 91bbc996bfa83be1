/- Of the proof of FnExactDelta: RuleS, Grnd, MarkC, L3L, HAtomS, MergeS, MapT, MapR, SortI. -/
import Derived.Test.YtiidmgchadagbaaGreatDoorM11
import Derived.Test.YtiidmgchadagbaaGreatDoorM12
set_option linter.unusedVariables false
set_option maxHeartbeats 1000000
set_option maxRecDepth 100000
namespace Go.Proofs.YtiidmgchadagbaaGreatDoor
open Go.RowKit D
attribute [local go_sem ↓] Go.wp_at_zero Go.wp_at_succ
theorem Np (r:Ru) (c0 c1 c2:Value) (bs:List Nat) (w:World) (h:jK w [c0,c1,c2] r bs):
  Calls Tryz.prog 87 #[.agg #[c0,c1,c2]] w fun e w'=>e=.returned (.bool (fC r))∧Below w.heap.size w w':=by
 obtain ⟨b1,b2,rfl,hp,hq⟩:=gu h;obtain ⟨Ad,cap,Ae,cape,rfl,rfl,rfl⟩:=jo h;obtain ⟨_,_,hv,hl,hm⟩:=af hq;have hlm:=au (Nat.le_trans hl hm);have hok:=fun w' (hb:Below w.heap.size w w')=>sZ r.head _ _ b1 w' (aj.below hp hb)
 have hr:fC r=(decide (r.body.length≤4) && r.body.all (fun p=>aZ p.atom) && aZ r.head):=rfl;rw [hr];clear h hp hv hl hm hr;generalize aZ r.head=b at *;have hA:=(Below.refl w.heap.size w).alloc (Nat.le_refl _) (.cells #[.string r.head.name,.slice Ad r.head.args.length cap,.slice Ae r.body.length cape] 71)
 go_enter Tryz.func87,Tryz.ntmps87
 go_wp2
 go_loopw [3] (fun i wr=>∃ k:Nat,k≤r.body.length∧i=.int .i64 k∧(r.body.take k).all (fun p=>aZ p.atom)=true∧Below w.heap.size w wr∧wr.cell? ⟨w.heap.size,0,none⟩=some (.string r.head.name)∧wr.cell? ⟨w.heap.size,1,none⟩=some (.slice Ad r.head.args.length cap)∧wr.cell? ⟨w.heap.size,2,none⟩=some (.slice Ae r.body.length cape)∧w.heap.size < wr.heap.size) (fun i _=>r.body.length - (intOf i).toNat)
 case atStart=>exact ⟨0,Nat.zero_le _,rfl,rfl,hA,by go_simp,by go_simp,by go_simp,by simp⟩
 case round=>
  obtain ⟨k,hk,rfl,hall,hb,x0,x1,x2,hsz⟩:=hrel;have HA:=η hall;clear hall hA;by_cases hlt:k < r.body.length
  ·obtain ⟨bb,o,Af,cf,bk,rfl,_,d0,d1,d2,hel,_⟩:=gJ (aY.below hq hb) hlt
   have hat:=gK hel;clear hq hel
   go_wp2_with fail
   refine (sZ r.body[k].atom _ _ bk _ hat).mono ?_;rintro e w' ⟨rfl,hb'⟩;have B':=hb.trans (hb'.mono hb.size);have y0:=cell_later hb' x0;have y1:=cell_later hb' x1;have y2:=cell_later hb' x2;have S':w.heap.size < w'.heap.size:=by have:=hb'.size; omega
   clear hat x0 x1 x2;by_cases hx:aZ r.body[k].atom=true
   ·have hx1:(!aZ r.body[k].atom)=false:=by simp [hx]
    have HX:=η hx;clear hx;go_wp2;go_roundw
    case rel=>exact ⟨k+1,by omega,by go_num,by rw [je r.body k hlt,HA.out]; exact HX.out,B',y0,y1,y2,S'⟩
    case measure=>simp [intOf]; omega
   ·have hx1:(!aZ r.body[k].atom)=true:=by simpa using hx
    have HX:=η hx;clear hx;go_wp2;go_ret;exact ⟨aO (by rw [uF r.body k hlt (by simpa using HX.out)]; simp),B'⟩
  ·have he:=η (show k=r.body.length by omega)
   have ha:Hid (r.body.all (fun p=>aZ p.atom)=true):=by have:=HA.out; rw [he.out,List.take_of_length_le (Nat.le_refl _)] at this; exact this
   go_wp2_with fail
   refine (hok _ hb).mono ?_;rintro e w' ⟨rfl,hb'⟩;have B':=hb.trans (hb'.mono hb.size);have y2:=cell_later hb' x2;clear x0 x1 x2 hok;cases b
   all_goals
    go_wp2;go_ret;exact ⟨aO (by rw [ha.out]; first | (simp; done) | (rw [Bool.eq_iff_iff]; simp; omega)),B'⟩
theorem qY (a:A) (c0 c1:Value) (bs:List Nat) (w:World) (h:aU w [c0,c1] a bs):
  Calls Tryz.prog 91 #[.agg #[c0,c1]] w fun e w'=>e=.returned (.bool (dM a))∧Below w.heap.size w w':=by
 have ht:=eH h;obtain ⟨Ad,cap,rfl,rfl⟩:=bJ h;obtain ⟨_,_,hv,hl,hm⟩:=af ht;have hlm:=au (Nat.le_trans hl hm);have k1:=fun w' (hb:Below w.heap.size w w')=>sZ a _ _ bs w' (aj.below h hb)
 have hf:dM a=(aZ a && !kC a.args):=rfl;have HF:=η hf;clear h hv hl hm hf;have hA:=(Below.refl w.heap.size w).alloc (Nat.le_refl _) (.cells #[.string a.name,.slice Ad a.args.length cap] 68)
 go_enter Tryz.func91,Tryz.ntmps91
 go_wp2
 go_loopw [3] (fun i wr=>∃ k:Nat,k≤a.args.length∧i=.int .i64 k∧kC (a.args.take k)=false∧wr=w.alloc (.cells #[.string a.name,.slice Ad a.args.length cap] 68)) (fun i _=>a.args.length - (intOf i).toNat)
 case atStart=>exact ⟨0,Nat.zero_le _,rfl,rfl,rfl⟩
 case round=>
  obtain ⟨k,hk,rfl,hall,rfl⟩:=hrel;have HA:=η hall;clear hall;by_cases hlt:k < a.args.length
  ·obtain ⟨b,o,rfl,_,d0,d1,_⟩:=dV (aH.below ht ((Below.refl _ _).alloc (Nat.le_refl _) (.cells #[.string a.name,.slice Ad a.args.length cap] 68))) hlt
   clear ht;cases hv:a.args[k].var
   ·have HV:=η hv
    rw [hv] at d0;clear hv;go_wp2;go_roundw
    case rel=>exact ⟨k+1,by omega,by go_num,by rw [zl a.args k hlt,HA.out,HV.out]; rfl,(by simp)⟩
    case measure=>simp [intOf]; omega
   ·have HV:=η (AX a.args k hlt hv)
    rw [hv] at d0;clear hv;go_wp2;go_ret;exact ⟨aO (by rw [HF.out,HV.out]; simp),hA⟩
  ·have he:=η (show k=a.args.length by omega)
   go_wp2_with fail
   refine (k1 _ hA).mono ?_;rintro e w' ⟨rfl,hb'⟩;go_wp2;go_ret;exact ⟨aO (by have:=HA.out; rw [he.out,List.take_of_length_le (Nat.le_refl _)] at this; rw [HF.out,this]; simp),hA.trans (hb'.mono hA.size)⟩
def D.qZ (c:Ch):Nat:=bI jf c.comes+bI jf c.goes
def D.VG (c:Ch) (k:Nat):Ch:=⟨pI c.comes k,pI c.goes (k+bI jf c.comes)⟩
theorem D.Ov (c:Ch):qZ c≤3 * AV c:=by
 have h1:=wY c.comes;have h2:=wY c.goes;have h3:AV c=kM c.comes+kM c.goes:=rfl;unfold qZ; omega
theorem tK (c:Ch) (c0 c1:Value) (bs:List Nat) (k B:Nat) (w:World) (h:dU w [c0,c1] c bs) (hN:New B w bs) (hk:k+qZ c≤1000000000000):
  Calls Tryz.prog 27 #[.agg #[c0,c1],.int .i64 k] w (Marked dU [c0,c1] (VG c k) bs (k+qZ c) B w):=by
 obtain ⟨Ad,cap,Ae,cape,rfl,rfl⟩:=eG h;obtain ⟨b1,b2,rfl,ht,hp⟩:=dZ h;have hkk:k+bI jf c.comes+bI jf c.goes≤1000000000000:=by unfold qZ at hk; omega
 have hA0:Below w.heap.size w (w.alloc (.cells #[.slice Ad c.comes.length cap,.slice Ae c.goes.length cape] 46)):=(Below.refl _ _).alloc (Nat.le_refl _) _;have hlt:=aA.lt h;have hN0:=hN.below hA0;have hm1:=pU c.comes _ b1 k B _ (ai.below ht hA0) hN0.left (by omega);have hm2:=fun w' (h':aI w' [.slice Ae c.goes.length cape] c.goes b2) (n':New B w' b2)=>pU c.goes _ b2 (k+bI jf c.comes) B w' h' n' (by omega)
 have HP:=η (ai.below hp hA0);have HN:=η hN0;have HL:=η hlt;have HC:Hid (k+qZ c=k+bI jf c.comes+bI jf c.goes):=η (by unfold qZ; omega);clear h ht hp hN hN0 hlt hk
 go_enter Tryz.func27,Tryz.ntmps27
 go_wp2_with fail
 refine hm1.mono ?_;rintro e w1 ⟨rfl,hR1,hN1,hK1⟩;have x1:w1.cell? ⟨w.heap.size,1,none⟩=some (.slice Ae c.goes.length cape):=hK1.cell (by intro hb; have h1:w.heap.size ∈ b1:=hb; have:=HL.out _ (List.mem_append_left _ h1); omega) (by go_simp);have hP2:=Good.kept ai HP.out hK1 HN.out.parted.2;have hN2:=New.kept HN.out.right hK1 HN.out.parted.2;have H1:=η (And.intro hR1 (And.intro hN1 hK1));clear hm1 hR1 hN1 hK1;have hm3:=hm2 _ hP2 hN2;clear hm2 hP2 hN2
 go_wp2_with fail
 refine hm3.mono ?_;rintro e w2 ⟨rfl,hR2,hN3,hK2⟩;have HR1:=η (Good.kept ai H1.out.1 hK2 HN.out.parted.1);have HN1:=η (New.kept H1.out.2.1 hK2 HN.out.parted.1);have H2:=η (And.intro hR2 (And.intro hN3 hK2));clear hm3 hR2 hN3 hK2;go_wp2;go_ret;refine ⟨by rw [HC.out]; rfl,⟨_,_,b1,b2,rfl,rfl,HR1.out,H2.out.1⟩,?_,?_⟩
 ·exact ⟨HN.out.nodup,fun b hb=>(List.mem_append.1 hb).elim (fun h=>HN1.out.own b h) (fun h=>H2.out.2.1.own b h)⟩
 ·exact ((bU.of_below hA0).trans (H1.out.2.2.mono fun b hb=>List.mem_append_left _ hb)).trans (H2.out.2.2.mono fun b hb=>List.mem_append_right _ hb)
theorem D6 (xs ys xs' ys':List A) (A1 A2:Option Addr) (p1 p2:Nat) (b1 b2:List Nat) (k n1 n2:Nat) (w:World) (ht:aI w [.slice A1 xs'.length p1] xs' b1) (hp:aI w [.slice A2 ys'.length p2] ys' b2)
  (e1:xs'=pI xs k) (e2:ys'=pI ys n1) (hn1:n1=k+bI jf xs) (hn2:n2=n1+bI jf ys) (hk:n2≤1000000000000):
  Calls Tryz.prog 28 #[.agg #[.slice A1 xs'.length p1,.slice A2 ys'.length p2],.int .i64 k] w (Held n2 w):=by
 have k1:=fun w' (hb:Below w.heap.size w w')=>vk xs _ b1 k w' (by rw [← e1]; exact ai.below ht hb) (by omega)
 have k2:=fun w' (hb:Below w.heap.size w w')=>vk ys _ b2 n1 w' (by rw [← e2]; exact ai.below hp hb) (by omega)
 rw [← hn1] at k1;rw [← hn2] at k2;generalize xs'.length=l1 at *;generalize ys'.length=l2 at *;have p1':¬ ((n1:Int) < 0):=by omega
 have p2':¬ ((n2:Int) < 0):=by omega
 have hA0:Below w.heap.size w (w.alloc (.cells #[.slice A1 l1 p1,.slice A2 l2 p2] 46)):=(Below.refl _ _).alloc (Nat.le_refl _) _;clear ht hp hk e1 e2 hn1 hn2
 go_enter Tryz.func28,Tryz.ntmps28
 go_wp2_with fail
 refine (k1 _ hA0).mono ?_;rintro e w1 ⟨rfl,hb1⟩;have B1:=hA0.trans (hb1.mono hA0.size);have x1:w1.cell? ⟨w.heap.size,1,none⟩=some (.slice A2 l2 p2):=cell_later hb1 (by go_simp);clear k1
 go_wp2_with fail
 refine (k2 _ B1).mono ?_;rintro e w2 ⟨rfl,hb2⟩;have HB:=η (B1.trans (hb2.mono B1.size));clear k2 hb2 B1;go_wp2;go_ret;exact ⟨rfl,HB.out⟩
theorem Dc (c:Ch) (c0 c1:Value) (bs:List Nat) (k:Nat) (w:World) (h:dU w [c0,c1] (VG c k) bs) (hk:k+qZ c≤1000000000000):
  Calls Tryz.prog 28 #[.agg #[c0,c1],.int .i64 k] w (Held (k+qZ c) w):=by
 obtain ⟨b1,b2,rfl,ht,hp⟩:=dZ h;obtain ⟨A1,p1,rfl,_,_⟩:=af ht;obtain ⟨A2,p2,rfl,_,_⟩:=af hp;exact D6 c.comes c.goes _ _ A1 A2 p1 p2 b1 b2 k (k+bI jf c.comes) (k+qZ c) w ht hp rfl rfl rfl (by unfold qZ; omega) hk
theorem D.EZ (xs ys:List A) (k:Nat) (h:k < xs.length):dW (xs.take (k+1)) ys=if hasB ys xs[k] then dW (xs.take k) ys else dW (xs.take k) ys ++ [xs[k]]:=by
 unfold dW;rw [List.take_succ_eq_append_getElem h,List.filter_append]
 cases h':hasB ys xs[k] <;> simp [h']
theorem D.GV (xs ys:List A) (k:Nat) (h:k < xs.length) (e:hasB ys xs[k]=false):dW (xs.take (k+1)) ys=dW (xs.take k) ys ++ [xs[k]]:=by rw [EZ xs ys k h,e]; rfl
theorem D.D7 (xs ys:List A) (k:Nat) (h:k < xs.length) (e:hasB ys xs[k]=true):dW (xs.take (k+1)) ys=dW (xs.take k) ys:=by rw [EZ xs ys k h,e]; rfl
theorem D.JG (xs ys:List A):(dW xs ys).length≤xs.length:=List.length_filter_le _ _
theorem Nq (xs ys:List A) (v1 v2:Value) (bs1 bs2:List Nat) (w:World) (h:aI w [v1] xs bs1) (h2:aI w [v2] ys bs2) (hs:ig ys=true) (hn:xs.length≤16777216) (ha:∀ a ∈ xs,a.args.length≤16777216):
  Calls Tryz.prog 78 #[v1,v2] w fun e w'=>Below w.heap.size w w'∧∃ v L b9,e=.returned v∧cO 2 aU w.heap.size 68 w' v L (dW xs ys) b9∧∀ c ∈ b9,w.heap.size≤c:=by
 obtain ⟨Ad,cap,rfl,hl,hm⟩:=af h;obtain ⟨Ad2,cap2,rfl,hl2,hm2⟩:=af h2;obtain ⟨i0,hi,hz0,hz1,hz2⟩:=info_parts qg;clear hm hm2;have hA:Below w.heap.size w (w.alloc (.cells #[] 68)):=(Below.refl _ _).alloc (Nat.le_refl _) _;have hst:=cO.empty (n:=2) (R:=aU) (e:=68) (heap_alloc_new w (.cells #[] 68)) (Nat.le_refl w.heap.size)
 go_enter Tryz.func78,Tryz.ntmps78
 go_wp2
 go_loopw [5,6] (fun v i wr=>∃ (k m:Nat) (A:Option Addr) (cp:Nat) (L:List Value) (b2:List Nat),k≤xs.length∧i=.int .i64 k∧v=.slice A m cp∧m=(dW (xs.take k) ys).length∧cO 2 aU w.heap.size 68 wr (.slice A m cp) L (dW (xs.take k) ys) b2∧Below w.heap.size w wr∧∀ c ∈ b2,w.heap.size≤c) (fun _ i _=>xs.length - (intOf i).toNat)
 case atStart=>exact ⟨0,0,_,_,_,_,Nat.zero_le _,rfl,rfl,rfl,hst,hA,fun c hc=>by simp at hc⟩
 case round=>
  obtain ⟨k,m,A,cp,L,b2,hk,rfl,rfl,hme,hC,hb,hfar⟩:=hrel;have HFR:=η hfar;clear hfar;clear hst hA;have hml:m≤16777216:=by have:=JG (xs.take k) ys; rw [List.length_take] at this; omega
  have HM:=η hme;clear hme;by_cases hlt:k < xs.length
  ·have HLT:=η hlt
   obtain ⟨b,o,Ae,ce,bk,rfl,_,c0,c1,hel,_⟩:=dG (ai.below h hb) hlt;have hle:xs[k].args.length≤16777216:=ha _ (List.getElem_mem _);have hk0:(0:Int)≤(k:Int):=by omega
   have hk1:(k:Int) < (xs.length:Int):=by omega
   have HTf:Hid (hasB ys xs[k]=false→dW (xs.take (k+1)) ys=dW (xs.take k) ys ++ [xs[k]]):=η (fun e=>GV xs ys k hlt e);have HTt:Hid (hasB ys xs[k]=true→dW (xs.take (k+1)) ys=dW (xs.take k) ys):=η (fun e=>D7 xs ys k hlt e);have hh:=yR ys xs[k] _ _ _ bs2 bk wr (ai.below h2 hb) hel hs;have hc:=fun w' (hb':Below wr.heap.size wr w')=>BP xs[k] _ _ bk w' (aj.below hel hb') hle
   have HC:=η hC;clear h h2 ha hC hel
   go_wp2_with fail
   refine hh.mono ?_;rintro e w0 ⟨rfl,hb0⟩;have B0:=hb.trans (hb0.mono hb.size);have e0:=cell_later hb0 c0;have e1:=cell_later hb0 c1;clear hh;cases hhv:hasB ys xs[k]
   ·have HT2:Hid (dW (xs.take (k+1)) ys=dW (xs.take k) ys ++ [xs[k]]):=η (HTf.out hhv)
    have hc2:=hc _ hb0;have HC0:=η (HC.out.below aj hb0);clear hhv HTf HTt hc
    go_wp2_with fail
    refine hc2.mono ?_;rintro e w1 ⟨hb1,cs',b3,rfl,hR,hN⟩;obtain ⟨Ae',ce',rfl⟩:=lQ hR;clear hc2;have hA2:Below w1.heap.size w1 (w1.alloc (.cells #[.string xs[k].name,.slice Ae' xs[k].args.length ce'] 68)):=(Below.refl _ _).alloc (Nat.le_refl _) _;have hb2:Below w0.heap.size w0 (w1.alloc (.cells #[.string xs[k].name,.slice Ae' xs[k].args.length ce'] 68)):=hb1.alloc hb1.size _;have HB2:=η (B0.trans (hb2.mono B0.size));have HC2:=η (HC0.out.below aj hb2);have HL:=η (aS (heap_alloc_new w1 (.cells #[.string xs[k].name,.slice Ae' xs[k].args.length ce'] 68)));have HR2:=η (aV.dB (n:=2) (R:=aU) dP (aj.below hR hA2));have HF:Hid (∀ b ∈ b3,(Value.slice A m cp).ownBlock ≠ some b):=η (fun b hb'=>wX HC0.out.own (hN.own b hb').1);have HF3:Hid (∀ c ∈ b2 ++ b3,w.heap.size≤c):=η (fun c hc=>(List.mem_append.1 hc).elim (HFR.out c) (fun h9=>Nat.le_trans B0.size (hN.own c h9).1));have HM2:Hid ((dW (xs.take k) ys).length=m):=η HM.out.symm;clear hb2 hA2 hR hN
    go_wp2_with (at_builtin; refine iH rfl _ _ _ rfl w.heap.size 68 i0 (.agg #[.string ⟨#[]⟩,.slice none 0 0]) 2 40 Tryz.underlying26 hi hz0 hz1 hz2 rfl (by omega) aj (.slice A m cp) m _ _ _ rfl HC2.out HM2.out (some ⟨w1.heap.size,0,none⟩) 1 1 _ [xs[k]] _ rfl HR2.out rfl HL.out HF.out (by unfold maxLen; omega) (by omega) w w.heap.size HB2.out (Nat.le_refl _) HB2.out.size ?_; intro A2 cp2 w2 hC3 hB3 hS3 _)
    have HC3:=η hC3;clear hC3;go_wp2;go_roundw
    case rel=>exact ⟨k+1,m+1,A2,cp2,_,_,HLT.out,by go_num,rfl,by rw [HT2.out,List.length_append,HM2.out]; rfl,by rw [HT2.out]; exact HC3.out,hB3,HF3.out⟩
    case measure=>have:=HLT.out; simp [intOf]; omega
   ·have HT2:Hid (dW (xs.take (k+1)) ys=dW (xs.take k) ys):=η (HTt.out hhv)
    have HC0:=η (HC.out.below aj hb0);clear hhv HTf HTt hc;go_wp2;go_roundw
    case rel=>exact ⟨k+1,m,A,cp,L,b2,HLT.out,by go_num,rfl,by rw [HT2.out]; exact HM.out,by rw [HT2.out]; exact HC0.out,B0,HFR.out⟩
    case measure=>have:=HLT.out; simp [intOf]; omega
  ·have he:k=xs.length:=by omega
   subst he;rw [List.take_of_length_le (Nat.le_refl _)] at hC;have HS:=η hC;clear hC;go_wp2;go_ret;exact ⟨hb,_,L,b2,rfl,HS.out,HFR.out⟩
theorem wG (xs ys:List A) (v1 v2:Value) (bs1 bs2:List Nat) (w:World) (h:aI w [v1] xs bs1) (h2:aI w [v2] ys bs2) (hs:ig ys=true) (hn:xs.length≤16777216) (ha:∀ a ∈ xs,a.args.length≤16777216):
  Calls Tryz.prog 78 #[v1,v2] w (Reads aI (dW xs ys) w.heap.size w):=
 (Nq xs ys v1 v2 bs1 bs2 w h h2 hs hn ha).mono fun e w' ⟨h1,v,L,b9,h2,h3,_⟩=>by
  obtain ⟨b3,hs3,_⟩:=h3.slice;exact ⟨h1,v,b3,h2,hs3⟩
theorem SN:(Tryz.prog.info? 68).map (fun i=>(i.zero,i.size,i.bytes))=some (some (.agg #[.string ⟨#[]⟩,.slice none 0 0]),2,40):=by kernel_rfl
theorem tN (ts:List A) (v:Value) (bs:List Nat) (left:Int) (w:World) (h:aI w [v] ts bs) (h0:0≤left) (h1:left≤1048576):
  Calls Tryz.prog 7 #[v,.int .i64 left] w (Left left (kM ts) w.heap.size w):=by
 obtain ⟨Ad,cap,rfl,hl,hm⟩:=af h;have hlm:=au (Nat.le_trans hl hm);have hbk:kM ts=ts.length+bI jm ts:=rfl;have HB:=η hbk;clear hm hbk
 go_enter Tryz.func7,Tryz.ntmps7
 go_wp2
 ·go_ret
  exact ⟨Below.refl _ _,_,rfl,.inl rfl⟩
 ·go_loopw [1,5] (fun l i wr=>∃ (k:Nat) (m:Int),k≤ts.length∧i=.int .i64 k∧l=.int .i64 m∧0≤m∧m≤1048576∧m+ts.length+bI jm (ts.take k)=left∧Below w.heap.size w wr) (fun _ i _=>ts.length - (intOf i).toNat)
  case atStart=>exact ⟨0,_,Nat.zero_le _,rfl,rfl,by assumption,by omega,by simp [bI],Below.refl _ _⟩
  case round=>
   obtain ⟨k,m,hk,rfl,rfl,hm0,hm1,hsum,hb⟩:=hrel;have HS:=η hsum;clear hsum;by_cases hlt:k < ts.length
   ·have hw:=ai.below h hb
    obtain ⟨b,o,Ae,ce,bk,rfl,_,c0,c1,hel,_⟩:=dG hw hlt;have HT:=η (jG jm ts k hlt);clear h hw;generalize ts[k]=t at *
    go_wp2_with fail
    refine (wz t _ _ bk m _ hel hm0 hm1).mono ?_;rintro e w' ⟨hb',r,rfl,hr⟩;clear hel;go_wp2
    ·rcases hr with rfl | ⟨_,_⟩
     ·go_ret
      exact ⟨hb.trans (hb'.mono hb.size),_,rfl,.inl rfl⟩
     ·exfalso; omega
    ·rcases hr with rfl | ⟨hr0,hr1⟩
     ·exfalso; omega
     ·have:=HS.out
      have:=HT.out;go_roundw
      case rel=>exact ⟨k+1,r,by omega,by go_num,rfl,hr0,by omega,by omega,hb.trans (hb'.mono hb.size)⟩
      case measure=>simp [intOf]; omega
   ·have he:k=ts.length:=by omega
    go_wp2;go_ret;refine ⟨hb,_,rfl,.inr ⟨hm0,?_⟩⟩;have:=HS.out;rw [he,List.take_of_length_le (Nat.le_refl _)] at this;rw [HB.out];omega
theorem tV (ts:List A) (v:Value) (bs:List Nat) (w:World) (h:aI w [v] ts bs) (hn:kM ts≤1048576):
  Calls Tryz.prog 10 #[v] w (Makes aI ts w.heap.size w):=by
 obtain ⟨Ad,cap,rfl,hl,hm⟩:=af h;obtain ⟨i0,hi,hz0,hz1,hz2⟩:=info_parts SN;have hn2:ts.length+bI jm ts≤1048576:=hn;clear hm
 go_enter Tryz.func10,Tryz.ntmps10
 go_wp2_with (refine wpList_make_full _ rfl _ _ _ rfl w.heap.size 68 i0 _ 2 Tryz.underlying26 hi hz0 hz1 _ _ _ _ ts.length rfl rfl rfl rfl (by rw [hz2]; omega) (by unfold maxLen; omega) (Nat.le_refl _) ?_; intro w1 hown hgrow)
 have hb1:Below w.heap.size w w1:=(Below.refl _ _).grown hgrow (Nat.le_refl _) (fun _ e=>by cases e);have hg1:w.heap.size < w1.heap.size:=(hown.lt _ rfl).2;clear hgrow
 go_loopw [4] (fun i wr=>∃ (k:Nat) (L:List Value) (bs':List Nat),k≤ts.length∧i=.int .i64 k∧wr.ownsRow w.heap.size 68 2 (.slice (some ⟨w.heap.size,0,none⟩) ts.length ts.length) ts.length L∧
   gX 2 aU w1.heap.size wr L ts k bs'∧Below w.heap.size w wr∧w1.heap.size≤wr.heap.size) (fun i _=>ts.length - (intOf i).toNat)
 case atStart=>exact ⟨0,_,_,Nat.zero_le _,rfl,hown,gX.start,hb1,Nat.le_refl _⟩
 case round=>
  obtain ⟨k,L,bs',hk,rfl,how,hF,hb,hsz⟩:=hrel;clear hown hb1;by_cases hlt:k < ts.length
  ·have hw:=ai.below h hb
   obtain ⟨b,o,Ae,ce,bk,rfl,_,c0,c1,hel,_⟩:=dG hw hlt;have hle:jm ts[k]≤1048576:=by have:=wR jm ts k hlt; omega
   have HK:=η hF;clear h hw hF;have hL:=η how.1
   go_wp2_with fail
   refine (Cb ts[k] _ _ bk _ hel hle).mono ?_;rintro e w' ⟨hb',cs',b2,rfl,hR,hN⟩;obtain ⟨Ae',ce',rfl⟩:=lQ hR;have how':=own_below how hb';obtain ⟨⟨u0,hu0⟩,hf0⟩:=jA how' (j:=k * 2) (by omega);obtain ⟨⟨u1,hu1⟩,hf1⟩:=jA how' (j:=k * 2+1) (by omega);obtain ⟨R1,R2,R3,R4⟩:=Q9 aj how HK.out hlt hb hb' hg1 (Nat.le_refl _) hsz hR hN;clear how' hel hR hN;go_wp2;go_roundw
   case rel=>exact ⟨k+1,_,_,by omega,by go_num,R1,R2,R3,R4⟩
   case measure=>simp [intOf]; omega
  ·have he:k=ts.length:=by omega
   subst he;have HF:=η hF;clear hF;go_wp2;go_ret;obtain ⟨b2,r1,r2,r3,r4⟩:=HF.out.slice how (fun hm=>by have:=(HF.out.new.own _ hm).1; omega);refine ⟨hb,_,b2,rfl,r1,r2,fun b hb'=>⟨?_,r4 b hb'⟩⟩
   rcases r3 b hb' with ⟨rfl,h⟩ | h
   ·exact h
   ·have:=(HF.out.new.own b h).1; omega
theorem rq (ts:List A) (v1 v2:Value) (b1 b2:List Nat) (w:World) (h1:aI w [v1] ts b1) (h2:aI w [v2] ts b2):
  Calls Tryz.prog 12 #[v1,v2] w (Yes w.heap.size w):=by
 obtain ⟨Ad,cap,rfl,hl,hm⟩:=af h1;obtain ⟨Ad2,cap2,rfl,hl2,hm2⟩:=af h2;have hlm:=au (Nat.le_trans hl hm);clear hm hm2
 go_enter Tryz.func12,Tryz.ntmps12
 go_wp2
 go_loopw [5] (fun i wr=>∃ k:Nat,k≤ts.length∧i=.int .i64 k∧Below w.heap.size w wr) (fun i _=>ts.length - (intOf i).toNat)
 case atStart=>exact ⟨0,Nat.zero_le _,rfl,Below.refl _ _⟩
 case round=>
  obtain ⟨k,hk,rfl,hb⟩:=hrel;by_cases hlt:k < ts.length
  ·obtain ⟨b,o,Ae,ce,bk,rfl,_,c0,c1,hel,_⟩:=dG (ai.below h1 hb) hlt
   obtain ⟨b',o',Ae',ce',bk',rfl,_,d0,d1,hel',_⟩:=dG (ai.below h2 hb) hlt;clear h1 h2;have H1:=η (aj.below hel (Below.drew (Below.refl _ _)));have H2:=η (aj.below hel' (Below.drew (Below.refl _ _)));have hlt':(k:Int) < (ts.length:Int):=by omega
   have hk0:(0:Int)≤(k:Int):=by omega
   clear hel hel';go_wp2
   go_region_held3 (fun w'=>w'.cell? ⟨b,o+k * 2,none⟩=some (.string ts[k].name)∧w'.cell? ⟨b,o+k * 2+1,none⟩=some (.slice Ae ts[k].args.length ce)∧w'.cell? ⟨b',o'+k * 2,none⟩=some (.string ts[k].name)∧w'.cell? ⟨b',o'+k * 2+1,none⟩=some (.slice Ae' ts[k].args.length ce')) (first | go_keep | exact ⟨cell_later hb' c0,cell_later hb' c1,cell_later hb' d0,cell_later hb' d1⟩)
    (first | (go_at_call 37; refine (sH ts[k] _ _ _ _ bk bk' _ H1.out H2.out).mono ?_; rintro e w' ⟨rfl,hb'⟩))
   go_wp2;go_roundw
   case rel=>exact ⟨k+1,by omega,by go_num,hb.trans ((Below.drew (Below.refl _ _)).trans (hb'.mono hb.size))⟩
   case measure=>simp [intOf]; omega
  ·have he:k=ts.length:=by omega
   subst he;go_wp2;go_ret;exact ⟨rfl,hb⟩
end Go.Proofs.YtiidmgchadagbaaGreatDoor
namespace Go.Proofs.YtiidmgchadagbaaGreatDoor
open Go.RowKit D Go.Shelf
attribute [local go_sem ↓] Go.wp_at_zero Go.wp_at_succ
theorem tX (n:Nat) (hn:1≤n) (B1 B2:Nat) (xs ys:List A) (v1 v2:Value) (bs1 bs2:List Nat) (wd w0:World) (h1:aI wd [v1] xs bs1) (h2:aI wd [v2] ys bs2)
  (Kp:World→World→Prop) (hKp:∀ W W',Kp W W'→MInv B1 B2 v1 v2 wd W→MInv B1 B2 v1 v2 wd W') (h0:MInv B1 B2 v1 v2 wd w0):
  SeqStopsK Fence.wide n Tryz.prog 162 #[.pointer (some ⟨B1,0,none⟩),.pointer (some ⟨B2,0,none⟩)] (fun x:oG wd=>x.enc) Kp
   (fun pre=>pre.map oG.key=bP xs ys) (fun pre=>∃ rest,pre.map oG.key ++ rest=bP xs ys) (bP xs ys).length w0:=fun l J Jx W hW hJ _ hY hj0=>by
 refine (PE n hn l B1 B2 xs ys v1 v2 bs1 bs2 wd h1 h2 Kp hKp J Jx W (h0.below hW) hJ hY hj0).mono ?_;rintro e W' ⟨he,⟨pre,h,hj⟩ | ⟨pre,rest,h,hj⟩⟩
 ·exact ⟨he,.inl ⟨pre,h,hj⟩⟩
 ·exact ⟨he,.inr ⟨pre,⟨rest,h⟩,hj⟩⟩
theorem merge_any (Ad Ae:Option Addr) (n1 c1 n2 c2:Nat) (w:World):
  Calls Tryz.prog 121 #[.agg #[.slice Ad n1 c1,.func (.func 65) #[] #[]],.agg #[.slice Ae n2 c2,.func (.func 65) #[] #[]]] w fun e w'=>
   e=.returned (.func (.func 162) #[] #[.pointer (some ⟨w.heap.size,0,none⟩),.pointer (some ⟨w.heap.size+1,0,none⟩)])∧
   w'=(w.alloc (.cells #[.slice Ad n1 c1,.func (.func 65) #[] #[]] 169)).alloc (.cells #[.slice Ae n2 c2,.func (.func 65) #[] #[]] 169):=by
 go_enter Tryz.func121,Tryz.ntmps121
 go_wp2;go_ret;exact ⟨rfl,rfl⟩
end Go.Proofs.YtiidmgchadagbaaGreatDoor
namespace Go.Proofs.YtiidmgchadagbaaGreatDoor
open Go.RowKit Go.ChangeMaps Go.MapKept D
def D.E8 (b:Nat) (w:World):Prop:=∃ es ck,w.heap[b]? = some (.map es ck)∧(∀ x ∈ es.toList,x.born < ck)∧(es.toList.map (·.born)).Nodup
theorem D.E8.push {b ck:Nat} {es:Array MapEntry} {w:World} (hb:w.heap[b]? = some (.map es ck)) (k v:Value) (h:E8 b w):E8 b (setBlock w b (.map (es.push ⟨k,v,ck⟩) (ck+1))):=by
 obtain ⟨es',ck',h1,h2,h3⟩:=h;rw [hb] at h1;cases h1;refine ⟨_,_,heap_setBlock_same hb _,fun x hx=>?_,?_⟩
 ·rw [Array.toList_push] at hx
  rcases List.mem_append.1 hx with hx | hx
  ·exact Nat.lt_succ_of_lt (h2 x hx)
  ·rw [List.mem_singleton.1 hx]; exact Nat.lt_succ_self _
 ·rw [Array.toList_push,List.map_append]
  refine List.nodup_append.2 ⟨h3,by simp,fun x hx y hy e=>?_⟩;obtain ⟨z,hz,rfl⟩:=List.mem_map.1 hx;simp at hy;have:=h2 z hz;omega
theorem xY {P:Program} {kt:TypeId} {W:World→Prop} {S:Value→Prop} (hK:IQ P kt W S) {w:World} (hW:W w) {t e:TypeId} (ht:P.underlying t=some (.map kt e)) {b:Nat} {L:List (Value × Value)} {k:Value} (v:Value) (h:nK S b L w) (hS:S k) (hk:∀ p ∈ L,p.1 ≠ k):
  ∃ w',(Instr.mapUpdate t (.map (some b)) k v).run P w=.ok () w'∧nK S b (L ++ [(k,v)]) w'∧w.grownBy w' (some b)∧(E8 b w→E8 b w'):=by
 obtain ⟨⟨es,ck,hb,rfl⟩,h2,h3⟩:=h;have hSs:∀ e ∈ es.toList,S e.key:=fun e he=>h2 (e.key,e.val) (List.mem_map.2 ⟨e,he,rfl⟩)
 rcases lW hK hW hS es.toList hSs with ⟨h5,h6⟩ | ⟨i,e1,h5,h6,h7⟩
 ·refine ⟨setBlock w b (.map (es.push ⟨k,v,ck⟩) (ck+1)),?_,⟨⟨_,_,heap_setBlock_same hb _,by simp⟩,?_,?_⟩,lC hb _,E8.push hb k v⟩
  ·simp [Instr.mapUpdate,run_underlying ht,MapKept.run_getObj_map hb,hK.check w false hS,h5,MapKept.run_setObj_map _ hb,Result.andThen,setBlock]
  ·intro p hp
   rcases List.mem_append.1 hp with hp | hp
   ·exact h2 p hp
   ·rw [List.mem_singleton.1 hp]
    exact hS
  ·refine List.pairwise_append.2 ⟨h3,List.pairwise_singleton _ _,fun p hp q hq=>?_⟩
   rw [List.mem_singleton.1 hq];exact hk p hp
 ·exact absurd h7 (hk (e1.key,e1.val) (List.mem_map.2 ⟨e1,List.mem_of_getElem? h6,rfl⟩))
end Go.Proofs.YtiidmgchadagbaaGreatDoor
namespace Go.Proofs.YtiidmgchadagbaaGreatDoor
open Go.RowKit Go.Maps D
theorem D.iG.JH {b n:Nat} {L:List ByteArray} {f:ByteArray→Int} {w:World} (h:iG b n L f w) {s:ByteArray} (hs:s.size≤maxLen) {v:Int} (hv:(if s ∈ L then f s else 0)=v):
  (Instr.lookup 85 (.map (some b)) (.string s) false).run Tryz.prog w=.ok (.int .i64 v) w:=by
 obtain ⟨⟨M,h1,h2,h3,h4⟩,h5,h6⟩:=h;obtain ⟨d,hrun,hd,hw⟩:=h1.lookup_int Na Tryz.underlying85 Tryz.underlying3 (SB w) (uM hs);rw [hrun]
 have:d=v:=by
  rw [← hv]
  split
  ·rename_i hmem
   have:=h4 s hmem;rw [this] at hd;exact yT hd.symm
  ·rename_i hmem
   have h7:has M (zW s)=false:=by rw [h3 s]; simpa using hmem
   rw [atKey_of_not_has h7] at hd;exact yT hd.symm
 rw [this]
end Go.Proofs.YtiidmgchadagbaaGreatDoor
namespace Go.Proofs.YtiidmgchadagbaaGreatDoor
open Go.RowKit Go.Sort D
theorem GX (xs:List ByteArray) (v:Value) (L:List Value) (base:Nat) (w:World) (hC:cO 1 jk base 9 w v L xs []) (hl:xs.length≤16777216):
  Calls Tryz.prog 194 #[v] w fun e w'=>∃ (v2:Value) (ys:List ByteArray),e=.returned v2∧ys.map (·.data.toList)=Lib.compact (xs.map (·.data.toList))∧cO 1 jk base 9 w' v2 (ys.map Value.string) ys []∧w.grownBy w' v.ownBlock:=by
 obtain ⟨rfl,hs,_⟩:=EQ hC;have hrow:=hC.own
 rcases hrow.2 with ⟨rfl,hx⟩ | ⟨g,cap,cur,rfl,hbase,hb,h1,h2,h3,h4⟩
 ·have hx0:xs = []:=by simpa using hx
  subst hx0;refine (Tryz.slices_Compact_string_empty none 0 w).mono ?_;rintro e w' ⟨rfl,rfl⟩;exact ⟨_,[],rfl,by simp [Lib.compact,Lib.compactUpTo],cO.nil _,World.grownBy.refl _ _⟩
 ·have hcl:(xs.map (·.data.toList)).length=xs.length:=by simp
  have hH:Holds encStr w g 0 (xs.map (·.data.toList)).toArray:=holds_of_block hb (by rw [hcl,Lib.map_encStr]; simpa using h4);have c:=Tryz.slices_Compact_string g 0 cap (xs.map (·.data.toList)) w hH (by omega) (by omega);rw [hcl] at c;refine c.mono ?_;rintro e w' ⟨rfl,q,rfl⟩;obtain ⟨zs,hzs⟩:∃ zs,Lib.compact (xs.map (·.data.toList))=zs:=⟨_,rfl⟩;have hzl:zs.length≤xs.length:=by rw [← hzs,← hcl]; exact MR _
  rw [hzs];have hown:=Lib.ownsRow_putRow (enc:=encStr) (zs:=xs.map (·.data.toList)) (ys:=zs ++ List.replicate (xs.length - zs.length) []) (q:=q) (k:=zs.length) (by rw [Lib.map_encStr]; exact hrow) (by simp; omega) hzl;rw [List.take_append_of_le_length (Nat.le_refl _),List.take_of_length_le (Nat.le_refl _)] at hown;have hlt:(Cj zs).length=zs.length:=by unfold Cj; rw [List.length_map]
  rw [← Jr,← hlt] at hown;refine ⟨_,Cj zs,rfl,Cm _,?_,?_⟩
  ·rw [← hlt]
   exact xI hown (ER fun b hb=>CB hs b ((zF _ _).1 (by rw [hzs]; exact hb)))
  ·have:=grownBy_sorted (w:=w) (g:=g) (n:=q) (os:=#[]) (zs ++ List.replicate (xs.length - zs.length) []).toArray
   rw [grow_empty] at this;exact this
end Go.Proofs.YtiidmgchadagbaaGreatDoor
