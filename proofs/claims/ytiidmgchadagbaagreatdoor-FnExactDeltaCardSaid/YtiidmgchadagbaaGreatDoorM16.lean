/- Of the proof of FnExactDelta: HeadsI, ArgsS, ArgsI, TightS. -/
import Derived.Test.YtiidmgchadagbaaGreatDoorM12
import Derived.Test.YtiidmgchadagbaaGreatDoorM11
import Derived.Test.YtiidmgchadagbaaGreatDoorM08
set_option linter.unusedVariables false
set_option maxHeartbeats 2000000
set_option maxRecDepth 100000
namespace Go.Proofs.YtiidmgchadagbaaGreatDoor
open Go.RowKit D
attribute [local go_sem ↓] Go.wp_at_zero Go.wp_at_succ
def D.xX (L:List ByteArray) (s:ByteArray):Int:=(L.idxOf s:Nat)
theorem D.JB (rs:List Ru) (k:Nat) (h:k < rs.length):aT (rs.take (k+1))=gQ (aT (rs.take k)) rs[k].head.name:=by
 unfold aT bK;rw [List.take_succ_eq_append_getElem h,List.map_append,List.foldl_append];rfl
theorem D.U6 {L:List ByteArray} {s:ByteArray} (h:s ∉ L):∀ t ∈ gQ L s,(if t=s then (L.length:Int) else xX L t)=xX (gQ L s) t:=fun t ht=>by
 unfold xX gQ at *;rw [if_neg h] at *;by_cases e:t=s
 ·subst e
  rw [if_pos rfl,List.idxOf_append,if_neg h];simp
 ·rw [if_neg e]
  have:t ∈ L:=by simpa [e] using ht
  rw [List.idxOf_append,if_pos this]
theorem CX (rs:List Ru) (v:Value) (bs:List Nat) (w:World) (h:dO w [v] rs bs) (hf:rs.length≤1000000):
  Calls Tryz.prog 107 #[v] w fun e w'=>e=.returned (.map (some w.heap.size))∧(∃ n,iG w.heap.size n (aT rs) (xX (aT rs)) w')∧Below w.heap.size w w':=by
 obtain ⟨Ad,cap,rfl,hl,hm⟩:=af h;have hlm:=au (Nat.le_trans hl hm);have hmm:=@run_makeMap Tryz.prog;have HM0:=η (iG.made w (xX []));have hA0:Below w.heap.size w (w.alloc (.map #[] 0)):=(Below.refl _ _).alloc (Nat.le_refl _) _;have HB0:=η hA0;clear hl hm hA0
 go_enter Tryz.func107,Tryz.ntmps107
 go_wp2;generalize w.alloc (.map #[] 0)=w0 at *
 go_loopw [11] (fun i wr=>∃ k:Nat,k≤rs.length∧i=.int .i64 k∧iG w.heap.size k (aT (rs.take k)) (xX (aT (rs.take k))) wr∧Below w.heap.size w wr) (fun i _=>rs.length - (intOf i).toNat)
 case atStart=>exact ⟨0,Nat.zero_le _,rfl,HM0.out,HB0.out⟩
 case round=>
  obtain ⟨k,hk,rfl,hM,hB⟩:=hrel;clear HM0 HB0 hmm;by_cases hlt:k < rs.length
  ·obtain ⟨b,o,Ae,ce,Af,cf,bk,rfl,_,d0,d1,d2,hel,_⟩:=gq h hlt
   replace d0:=cell_later hB d0;replace d1:=cell_later hB d1;replace d2:=cell_later hB d2;have hk0:(0:Int)≤(k:Int):=by omega
   have hk1:(k:Int) < (rs.length:Int):=by omega
   have hA:Below wr.heap.size wr (wr.alloc (.cells #[.string rs[k].head.name,.slice Ae rs[k].head.args.length ce,.slice Af rs[k].body.length cf] 71)):=(Below.refl _ _).alloc (Nat.le_refl _) _;have HLT:=η hlt;have HSN:=η (JB rs k hlt);have HSZ:Hid (rs[k].head.name.size≤maxLen):=η (by obtain ⟨_,_,_,_,_,hs,_⟩:=hel; exact hs);have HM:=η (hM.below hA hM.lt);have HB:=η (hB.trans (hA.mono hB.size));have HLE:Hid ((aT (rs.take k)).length≤1000000):=η (by have:=hM.V8; omega);have hkn:k < maxLen:=by unfold maxLen; omega
   clear h hel hA hM hB;generalize rs[k]=r at *;generalize aT (rs.take k)=L at *;clear hlt;obtain ⟨⟨nm,args⟩,body⟩:=r;dsimp only at *;by_cases hL:nm ∈ L
   ·have HD:Hid (decide (nm ∈ L)=true):=η (decide_eq_true hL)
    have HV:Hid ((if nm ∈ L then xX L nm else 0)=xX L nm):=η (if_pos hL);have HP:Hid (aT (rs.take (k+1))=L):=η (by rw [HSN.out]; unfold gQ; rw [if_pos hL]);clear hL HSN
    go_wp2_with (first | (at_lookup; refine dI _ rfl _ _ _ rfl Tryz.underlying85 _ _ L _ rfl HM.out nm rfl HSZ.out true HD.out _ HV.out ?_) | go_in)
    go_roundw
    case rel=>exact ⟨k+1,HLT.out,by go_num,by rw [HP.out]; exact HM.out.mono (Nat.le_succ k),HB.out⟩
    case measure=>have:=HLT.out; simp [intOf]; omega
   ·have HD:Hid (decide (nm ∈ L)=false):=η (decide_eq_false hL)
    have HV:Hid ((if nm ∈ L then xX L nm else 0)=0):=η (if_neg hL);have HI:=η (U6 hL);have hle:=HLE.out;clear hL
    go_wp2_with (first | (at_lookup; refine dI _ rfl _ _ _ rfl Tryz.underlying85 _ _ L _ rfl HM.out nm rfl HSZ.out false HD.out _ HV.out ?_) | (at_len; refine iy _ rfl _ _ rfl Tryz.underlying85 _ _ L _ rfl HM.out ?_) | (at_mapUpdate; refine kK _ rfl _ _ _ _ rfl Tryz.underlying85 _ _ L _ rfl HM.out nm rfl HSZ.out _ rfl hkn (by omega) ?_; intro w1 hM1 hg1) | go_in)
    have HM1:=η (hM1.congr HI.out);have HB1:=η (HB.out.grown hg1 (by have:=HB.out.size; exact this) fun j hj=>by cases hj; exact Nat.le_refl _);clear hM1 hg1;go_roundw
    case rel=>exact ⟨k+1,HLT.out,by go_num,by rw [HSN.out]; exact HM1.out,HB1.out⟩
    case measure=>have:=HLT.out; simp [intOf]; omega
  ·have he:k=rs.length:=by omega
   have hk1:¬ (k:Int) < (rs.length:Int):=by omega
   subst he;rw [List.take_of_length_le (Nat.le_refl _)] at hM;have HM:=η hM;clear hM h;go_wp2;go_ret;exact ⟨rfl,⟨_,HM.out⟩,hB⟩
theorem D.below_drewN {B:Nat} {a w:World} (h:Below B a w) (n:Nat):Below B a (w.drewN n):=⟨h.os,h.tape,h.output,h.size,h.block⟩
theorem D.pF (a b:ByteArray):(a.toList == b.toList)=decide (a=b):=by
 rw [ByteArray.toList_eq,ByteArray.toList_eq,Bool.eq_iff_iff];simp only [beq_iff_eq,decide_eq_true_eq];exact ⟨bytes_inj,fun h=>by rw [h]⟩
theorem Nk (rs:List Ru) (v:Value) (bs:List Nat) (w:World) (h:dO w [v] rs bs) (hn:(aQ rs).length≤1000000):
  Calls Tryz.prog 88 #[v] w fun e w'=>e=.returned (.bool (jQ (aQ rs)))∧Below w.heap.size w w':=by
 obtain ⟨Ad,cap,rfl,hl,hm⟩:=af h;have hlm:=au (Nat.le_trans hl hm);have c1:=zK rs _ bs w h hn;generalize aQ rs=xs at *;clear hl hm h
 go_enter Tryz.func88,Tryz.ntmps88
 go_wp2_with fail
 refine c1.mono ?_;rintro e w1 ⟨hB,v1,b2,rfl,hx⟩;obtain ⟨A1,cap1,rfl,hl1,hm1⟩:=af hx;have hlm1:=au (Nat.le_trans hl1 hm1);clear c1 hl1 hm1;go_wp2
 go_loopw [4] (fun i wr=>∃ k:Nat,k≤xs.length∧i=.int .i64 k∧(∀ i,(hi:i < xs.length)→i < k→∀ j,(hj:j < i)→clash xs[i] (xs[j]'(by omega))=false)∧Below w1.heap.size w1 wr) (fun i _=>xs.length - (intOf i).toNat)
 case atStart=>exact ⟨0,Nat.zero_le _,rfl,fun i _ h=>by omega,Below.refl _ _⟩
 case round=>
  obtain ⟨k,hk,rfl,hall,hb⟩:=hrel;have HA:=η hall;have HB:=η hb;clear hall hb;by_cases hlt:k < xs.length
  ·have hk0:(0:Int)≤(k:Int):=by omega
   have hk1:(k:Int) < (xs.length:Int):=by omega
   go_wp2
   go_loopw [5] (fun i wr=>∃ j:Nat,j≤k∧i=.int .i64 j∧(∀ i,(hi:i < xs.length)→i < j→clash xs[k] xs[i]=false)∧Below w1.heap.size w1 wr) (fun i _=>k - (intOf i).toNat)
   case atStart=>exact ⟨0,Nat.zero_le _,rfl,fun i _ h=>by omega,HB.out⟩
   case round=>
    obtain ⟨j,hj,rfl,hin,hb⟩:=hrel;have HI:=η hin;have HB2:=η hb;clear hin;by_cases hjk:j < k
    ·have hj0:(0:Int)≤(j:Int):=by omega
     have hj1:(j:Int) < (k:Int):=by omega
     have hj2:(j:Int) < (xs.length:Int):=by omega
     have hjl:j < xs.length:=by omega
     obtain ⟨b,o,Ae,ce,_,rfl,_,d0,d1,_,_⟩:=dG (ai.below hx hb) hlt;obtain ⟨b',o',Af,cf,_,e9,_,f0,f1,_,_⟩:=dG (ai.below hx hb) hjl;obtain ⟨rfl,rfl⟩:b=b'∧o=o':=by simpa using e9
     have HBAD:=η (Sm (xs:=xs) hlt hjl)
     have HOKJ:Hid (clash xs[k] xs[j]=false→∀ i,(hi:i < xs.length)→i < j+1→clash xs[k] xs[i]=false):=η fun h i h9 hi=>by
      by_cases e:i=j
      ·subst e; exact h
      ·exact HI.out i h9 (by omega)
     have HC:Hid (clash xs[k] xs[j]=(decide (xs[k].name=xs[j].name) && decide (xs[k].args.length ≠ xs[j].args.length))):=η rfl;clear hx hb e9;generalize xs[k]=x at *;generalize xs[j]=y at *;obtain ⟨xn,xa⟩:=x;obtain ⟨yn,ya⟩:=y;dsimp only at *;cases hs:(xn.toList == yn.toList)
     ·have HZ:=η (HOKJ.out (by rw [HC.out,← pF,hs]; rfl))
      clear HOKJ HBAD HC HI HA HB;go_wp2
      go_quiet (fail)
      go_wp2;go_roundw
      case rel=>exact ⟨j+1,hjk,by go_num,HZ.out,below_drewN HB2.out _⟩
      case measure=>simp [intOf]; omega
     ·by_cases hle:xa.length=ya.length
      ·have HZ:=η (HOKJ.out (by rw [HC.out,hle]; simp))
       have hd:(xa.length:Int)=(ya.length:Int):=by omega
       clear HOKJ HBAD HC HI HA HB;go_wp2
       go_quiet (fail)
       go_wp2;go_roundw
       case rel=>exact ⟨j+1,hjk,by go_num,HZ.out,below_drewN HB2.out _⟩
       case measure=>simp [intOf]; omega
      ·have HZ:=η (HBAD.out (by rw [HC.out,← pF,hs]; simpa using hle))
       have hd:¬ (xa.length:Int)=(ya.length:Int):=by omega
       have HBW:=η hB;clear HOKJ HBAD HC HI HA HB;go_wp2
       go_quiet (fail)
       go_wp2;go_ret;exact ⟨aO HZ.out.symm,HBW.out.trans ((below_drewN HB2.out _).mono HBW.out.size)⟩
    ·have he:j=k:=by omega
     have hj1:¬ (j:Int) < (k:Int):=by omega
     have HZ:Hid (∀ i,(hi:i < xs.length)→i < k+1→∀ j,(hj:j < i)→clash xs[i] (xs[j]'(by omega))=false):=η fun i hi h1 j2 h2=>by
      by_cases e:i=k
      ·subst e; exact HI.out j2 (by omega) (by omega)
      ·exact HA.out i hi (by omega) j2 h2
     clear HI HA HB he;go_wp2;go_roundw
     case rel=>exact ⟨k+1,hlt,by go_num,HZ.out,HB2.out⟩
     case measure=>simp [intOf]; omega
  ·have he:k=xs.length:=by omega
   have hk1:¬ (k:Int) < (xs.length:Int):=by omega
   have HZ:Hid (jQ xs=true):=η (Py fun i hi j hj=>HA.out i hi (by omega) j hj);clear HA hx;go_wp2;go_ret;exact ⟨aO HZ.out.symm,hB.trans (HB.out.mono hB.size)⟩
structure D.yU (w:World) (B n:Nat) (st:List ByteArray × (ByteArray→Int) × Bool) (wr:World):Prop where
 map:iG B n st.1 st.2.1 wr
 bm:wr.heap[B+1]? = some (.cells #[.map (some B)] 85 (0,0))
 bb:wr.heap[B+2]? = some (.cells #[.bool st.2.2] 4 (0,0))
 bel:Below B w wr
theorem D.yU.later {w wr w':World} {B n:Nat} {st:List ByteArray × (ByteArray→Int) × Bool} (h:yU w B n st wr) (hb:Below wr.heap.size wr w'):yU w B n st w':=
 ⟨h.map.below hb h.map.lt,(hb.block _ (lt_of_block h.bm)).trans h.bm,(hb.block _ (lt_of_block h.bb)).trans h.bb,h.bel.trans (hb.mono (Nat.le_of_lt (Nat.lt_of_le_of_lt (Nat.le_add_right _ _) (lt_of_block h.bm))))⟩
theorem note_any (a:A) (c0 c1:Value) (bs:List Nat) (w0 w:World) (B n:Nat) (st:List ByteArray × (ByteArray→Int) × Bool) (h:aU w [c0,c1] a bs) (hI:yU w0 B n st w) (hB:w0.heap.size≤B)
  (hn:n+1≤1000000) (ha:a.args.length≤1000000) (hr:∀ s ∈ st.1,0≤st.2.1 s∧st.2.1 s≤1000000):
  Calls Tryz.prog 158 #[.agg #[c0,c1],.pointer (some ⟨B+1,0,none⟩),.pointer (some ⟨B+2,0,none⟩)] w fun e w'=>e=.returned (.tuple #[])∧yU w0 B (n+1) (kJ st a) w'∧∀ c,c < w.heap.size→c ≠ B→c ≠ B+2→w'.heap[c]? = w.heap[c]?:=by
 obtain ⟨s,hcs,hsz,ht⟩:=h;simp only [List.cons.injEq,and_true] at hcs;obtain ⟨rfl,rfl⟩:=hcs;obtain ⟨Ad,cap,rfl,hl,hm⟩:=af ht;have hlm:=au (Nat.le_trans hl hm);obtain ⟨nm,args⟩:=a;obtain ⟨L,f,al⟩:=st;dsimp only at *;have hb1:=lt_of_block hI.bm;have hb2:=lt_of_block hI.bb;have cM:w.cell? ⟨B+1,0,none⟩=some (.map (some B)):=cell_of_one hI.bm;have cB:w.cell? ⟨B+2,0,none⟩=some (.bool al):=cell_of_one hI.bb;have fB:w.frozen? ⟨B+2,0,none⟩=false:=free_of_one hI.bb;have hM:=hI.map;have HI:=η hI;have HSZ:=η hsz;have hA:Below w.heap.size w (w.alloc (.cells #[.string nm,.slice Ad args.length cap] 68)):=(Below.refl _ _).alloc (Nat.le_refl _) _;have HM1:=η (hM.below hA hM.lt);have HI1:=η (hI.later hA);have HR:=η hr;clear hl hm ht hI hA hM hr
 have put:∀ w1,iG B (n+1) (gQ L nm) (fun t=>if t=nm then (args.length:Int) else f t) w1→(w.alloc (.cells #[.string nm,.slice Ad args.length cap] 68)).grownBy w1 (some B)→¬ (nm ∈ L∧f nm ≠ args.length)→yU w0 B (n+1) (kJ (L,f,al) ⟨nm,args⟩) w1∧∀ c,c < w.heap.size→c ≠ B→c ≠ B+2→w1.heap[c]? = w.heap[c]?:=fun w1 h1 h2 h3=>by
  have e:kJ (L,f,al) ⟨nm,args⟩=(gQ L nm,fun t=>if t=nm then (args.length:Int) else f t,al):=by unfold kJ; rw [if_neg h3]
  have hi:=HI1.out;rw [e];refine ⟨?_,fun c hc h4 h5=>(h2.block c (by simp; omega) (by simpa using h4)).trans (Below.heap_alloc _ _ _ hc)⟩;exact ⟨h1,(h2.block _ (lt_of_block hi.bm) (by simp)).trans hi.bm,(h2.block _ (lt_of_block hi.bb) (by simp)).trans hi.bb,hi.bel.grown h2 (by have:=lt_of_block hi.bm; omega) fun j hj=>by cases hj; exact Nat.le_refl _⟩
 have HP:=η put;clear put;by_cases hL:nm ∈ L
 ·have hd:decide (nm ∈ L)=true:=decide_eq_true hL
  have hv:(if nm ∈ L then f nm else 0)=f nm:=if_pos hL;have hrg:=HR.out nm hL;by_cases hE:f nm=args.length
  ·have HN:Hid (¬ (nm ∈ L∧f nm ≠ args.length)):=η fun h=>h.2 hE
   have HD:=η hd;have HV:Hid ((if nm ∈ L then f nm else 0)=(args.length:Int)):=η (hv.trans hE);clear hL hd hv hrg hE HR
   go_enter Tryz.func158,Tryz.ntmps158
   go_wp2_with (first | (at_lookup; refine dI _ rfl _ _ _ rfl Tryz.underlying85 B n L f rfl HM1.out nm rfl HSZ.out true HD.out _ HV.out ?_) | (at_mapUpdate; refine kK _ rfl _ _ _ _ rfl Tryz.underlying85 B n L f rfl HM1.out nm rfl HSZ.out _ rfl (by unfold maxLen; omega) (by omega) ?_; intro w1 hM1 hg1) | go_in)
   go_end0
   exact ⟨rfl,HP.out w1 hM1 hg1 HN.out⟩
  ·have HN:Hid (kJ (L,f,al) ⟨nm,args⟩=(L,f,false)):=η (by unfold kJ; rw [if_pos ⟨hL,hE⟩])
   have HD:=η hd;have HV:=η hv
   have HS:Hid (yU w0 B (n+1) (L,f,false) ((w.setCell ⟨B+2,0,none⟩ (.bool false)).alloc (.cells #[.string nm,.slice Ad args.length cap] 68))):=η (by
    have hi:=HI.out
    have h1:yU w0 B (n+1) (L,f,false) (w.setCell ⟨B+2,0,none⟩ (.bool false)):=
     ⟨(hi.map.mono (Nat.le_succ n)).setCell (by simp) _,(Below.heap_setCell _ _ _ _ (by simp)).trans hi.bm,one_setCell hi.bb,hi.bel.setCell (by simp) _⟩
    exact h1.later ((Below.refl _ _).alloc (Nat.le_refl _) _))
   clear hL hd hv HR HP
   go_enter Tryz.func158,Tryz.ntmps158
   go_wp2_with (first | (at_lookup; refine dI _ rfl _ _ _ rfl Tryz.underlying85 B n L f rfl HM1.out nm rfl HSZ.out true HD.out _ HV.out ?_) | go_in)
   refine bodyPost_ret (results_none rfl _ _ _) rfl ?_;exact ⟨rfl,by rw [HN.out]; exact HS.out,fun c hc h4 h5=>(Below.heap_alloc _ _ _ (by simpa using hc)).trans (Below.heap_setCell _ _ _ _ h5)⟩
 ·have HD:Hid (decide (nm ∈ L)=false):=η (decide_eq_false hL)
  have HV:Hid ((if nm ∈ L then f nm else 0)=0):=η (if_neg hL);have HN:Hid (¬ (nm ∈ L∧f nm ≠ args.length)):=η fun h=>hL h.1
  clear hL HR
  go_enter Tryz.func158,Tryz.ntmps158
  go_wp2_with (first | (at_lookup; refine dI _ rfl _ _ _ rfl Tryz.underlying85 B n L f rfl HM1.out nm rfl HSZ.out false HD.out _ HV.out ?_) | (at_mapUpdate; refine kK _ rfl _ _ _ _ rfl Tryz.underlying85 B n L f rfl HM1.out nm rfl HSZ.out _ rfl (by unfold maxLen; omega) (by omega) ?_; intro w1 hM1 hg1) | go_in)
  go_end0
  exact ⟨rfl,HP.out w1 hM1 hg1 HN.out⟩
theorem D.zN {rs:List Ru} (hok:rs.all fC=true) (hf:rs.length≤8) {xs:List A} (hx:∀ a ∈ xs,a ∈ aQ rs):∀ s ∈ (dN xs).1,0≤(dN xs).2.1 s∧(dN xs).2.1 s≤1000000:=fun s hs=>by
 have:=Jh (m:=3) (fun a ha=>(lD hok).1 a (hx a ha)) hs;omega
theorem D.vw {rs:List Ru} (k:Nat):∀ a ∈ aQ (rs.take k),a ∈ aQ rs:=fun a ha=>by
 obtain ⟨r,hr,h⟩:=xG ha;exact List.mem_flatMap.2 ⟨r,List.mem_of_mem_take hr,h⟩
theorem D.JC {rs:List Ru} {k:Nat} (h:k < rs.length):∀ a ∈ jH rs[k],a ∈ aQ rs:=fun a ha=>List.mem_flatMap.2 ⟨_,List.getElem_mem h,ha⟩
theorem CY (rs:List Ru) (v:Value) (bs:List Nat) (w:World) (h:dO w [v] rs bs) (hok:rs.all fC=true) (hf:rs.length≤8):
  Calls Tryz.prog 116 #[v] w fun e w'=>e=.returned (.tuple #[.map (some w.heap.size),.bool (jQ (aQ rs))])∧
   ∃ n,iG w.heap.size n (dN (aQ rs)).1 (dN (aQ rs)).2.1 w'∧Below w.heap.size w w':=by
 obtain ⟨Ad,cap,rfl,hl,hm⟩:=af h;have hlm:=au (Nat.le_trans hl hm);have hmm:=@run_makeMap Tryz.prog
 have HI0:Hid (yU w w.heap.size 0 (dN []) (((w.alloc (.map #[] 0)).alloc (.cells #[.map (some w.heap.size)] 85)).alloc (.cells #[.bool true] 4))):=η (by
  refine ⟨((iG.made w _).same ?_),?_,?_,((((Below.refl _ w).alloc (Nat.le_refl _) _).alloc (by simp) _).alloc (by simp; omega) _)⟩
  ·exact (Below.heap_alloc _ _ _ (by simp; omega)).trans (Below.heap_alloc _ _ _ (by simp))
  ·refine (Below.heap_alloc _ _ _ (by simp)).trans ?_
   simpa using heap_alloc_new (w.alloc (.map #[] 0)) (.cells #[.map (some w.heap.size)] 85)
  ·simpa [dN] using heap_alloc_new ((w.alloc (.map #[] 0)).alloc (.cells #[.map (some w.heap.size)] 85)) (.cells #[.bool true] 4))
 have HBD:=η (fun xs hx=>zN hok hf (xs:=xs) hx);have HOK:=η hok;have HFE:Hid ((aQ rs).length≤40):=η (by have:=(lD hok).2; omega)
 have HFW:Hid (∀ k,(aQ (rs.take k)).length≤40):=η fun k=>by
  have:=(lD (rs:=rs.take k) (List.all_eq_true.2 fun r hr=>List.all_eq_true.1 hok r (List.mem_of_mem_take hr))).2;rw [List.length_take] at this; omega
 clear hl hm hok hf
 go_enter Tryz.func116,Tryz.ntmps116
 go_wp2;generalize (((w.alloc (.map #[] 0)).alloc (.cells #[.map (some w.heap.size)] 85)).alloc (.cells #[.bool true] 4))=w0 at *
 go_loopw [15] (fun i wr=>∃ k:Nat,k≤rs.length∧i=.int .i64 k∧yU w w.heap.size (aQ (rs.take k)).length (dN (aQ (rs.take k))) wr) (fun i _=>rs.length - (intOf i).toNat)
 case atStart=>exact ⟨0,Nat.zero_le _,rfl,HI0.out⟩
 case round=>
  obtain ⟨k,hk,rfl,hI⟩:=hrel;clear HI0 hmm;by_cases hlt:k < rs.length
  ·obtain ⟨b,o,Ae,ce,Af,cf,bk,rfl,_,d0,d1,d2,hel,_⟩:=gq h hlt
   replace d0:=cell_later hI.bel d0;replace d1:=cell_later hI.bel d1;replace d2:=cell_later hI.bel d2;have hk0:(0:Int)≤(k:Int):=by omega
   have hk1:(k:Int) < (rs.length:Int):=by omega
   have hA:Below wr.heap.size wr (wr.alloc (.cells #[.string rs[k].head.name,.slice Ae rs[k].head.args.length ce,.slice Af rs[k].body.length cf] 71)):=(Below.refl _ _).alloc (Nat.le_refl _) _;obtain ⟨b1,b2,_,hhd,hbd⟩:=gu hel;have HBO:=η hbd;have HHD:=η (aj.below (aj.below hhd hI.bel) hA);have HLT:=η hlt;have HSN:=η (pR rs k hlt);have hrl:=kV (List.all_eq_true.1 HOK.out _ (List.getElem_mem hlt));have hbl:(rs[k].body.length:Int)≤4:=by have:=hrl.1; omega
   have HAT:=η (JC hlt);have hal:rs[k].head.args.length≤1000000:=by have:=hrl.2.2 rs[k].head (List.mem_cons_self ..); omega
   have HAL:=η hrl.2.2;have HI1:=η (hI.later hA);clear h hel hA hhd hbd hrl;generalize rs[k]=r at *;clear hlt;obtain ⟨⟨nm,args⟩,body⟩:=r;dsimp only at *
   go_wp2_with fail
   have q2:(wr.alloc (.cells #[.string nm,.slice Ae args.length ce,.slice Af body.length cf] 71)).cell? ⟨wr.heap.size,2,none⟩=some (.slice Af body.length cf):=by go_simp
   have q3:w.heap.size+2 < wr.heap.size:=lt_of_block hI.bb;clear hI;generalize wr.alloc (.cells #[.string nm,.slice Ae args.length ce,.slice Af body.length cf] 71)=w1 at *;refine (note_any ⟨nm,args⟩ _ _ b1 w w1 w.heap.size _ _ HHD.out HI1.out (Nat.le_refl _) (by have:=HFW.out k; omega) hal (HBD.out _ (vw k))).mono ?_;rintro e w2 ⟨rfl,hI2,hK2⟩;rw [← wB] at hI2;have hlen:(aQ (rs.take k) ++ [(⟨nm,args⟩:A)]).length=(aQ (rs.take k)).length+1:=by simp
   rw [← hlen] at hI2
   have hsub:∀ a ∈ aQ (rs.take k) ++ [(⟨nm,args⟩:A)],a ∈ aQ rs:=fun a ha=>by
    rcases List.mem_append.1 ha with ha | ha
    ·exact vw k a ha
    ·rw [List.mem_singleton.1 ha]; exact HAT.out _ (List.mem_cons_self ..)
   have e2:w2.cell? ⟨wr.heap.size,2,none⟩=some (.slice Af body.length cf):=by
    rw [World.cell?_of_block (w:=w1) (hK2 _ (lt_of_cell q2) (by dsimp only; omega) (by dsimp only; omega))]; exact q2
   have HSB:=η hsub;have HI2:=η hI2;have HX:Hid ((aQ (rs.take k) ++ [(⟨nm,args⟩:A)]).length≤41):=η (by rw [hlen]; have:=HFW.out k; omega);clear hsub hI2 hK2 hlen HHD q2 q3;generalize aQ (rs.take k) ++ [(⟨nm,args⟩:A)]=xs at *;go_wp2
   go_loopw [26] (fun i wr=>∃ j:Nat,j≤body.length∧i=.int .i64 j∧yU w w.heap.size (xs ++ fJ (body.take j)).length (dN (xs ++ fJ (body.take j))) wr) (fun i _=>body.length - (intOf i).toNat)
   case atStart=>exact ⟨0,Nat.zero_le _,rfl,by simpa [fJ] using HI2.out⟩
   case round=>
    obtain ⟨j,hj,rfl,hI⟩:=hrel;clear HI2 HI1;by_cases hlt:j < body.length
    ·obtain ⟨b0,o0,Ag,cg,bg,rfl,_,f0,f1,f2,hel,_⟩:=gJ HBO.out hlt
     replace f0:=cell_later hI.bel f0;replace f1:=cell_later hI.bel f1;replace f2:=cell_later hI.bel f2;have hj0:(0:Int)≤(j:Int):=by omega
     have hj1:(j:Int) < (body.length:Int):=by omega
     have HSP:=η (sV body j hlt);have HLJ:=η hlt;have hpm:body[j].atom ∈ jH ⟨⟨nm,args⟩,body⟩:=List.mem_cons_of_mem _ (List.mem_map.2 ⟨_,List.getElem_mem hlt,rfl⟩);have hpa:body[j].atom.args.length≤1000000:=by have:=HAL.out _ hpm; omega
     have hA:Below wr.heap.size wr (wr.alloc (.cells #[.bool body[j].no,.string body[j].atom.name,.slice Ag body[j].atom.args.length cg] 111)):=(Below.refl _ _).alloc (Nat.le_refl _) _;have HPA:=η (aj.below (aj.below (gK hel) hI.bel) hA);have HI3:=η (hI.later hA);have HX3:Hid ((xs ++ fJ (body.take j)).length+1≤1000000):=η (by rw [List.length_append,mr,List.length_take]; have:=HX.out; omega)
     have HS3:Hid (∀ a ∈ xs ++ fJ (body.take j),a ∈ aQ rs):=η fun a ha=>by
      rcases List.mem_append.1 ha with ha | ha
      ·exact HSB.out a ha
      ·refine HAT.out _ (List.mem_cons_of_mem _ ?_)
       unfold fJ at ha;obtain ⟨p,hp,rfl⟩:=List.mem_map.1 ha;exact List.mem_map.2 ⟨p,List.mem_of_mem_take hp,rfl⟩
     clear hel hA hI hpm;generalize body[j]=p at *;clear hlt;obtain ⟨no,⟨pn,pargs⟩⟩:=p;dsimp only at *
     go_wp2_with fail
     refine (note_any ⟨pn,pargs⟩ _ _ bg w _ w.heap.size _ _ HPA.out HI3.out (Nat.le_refl _) HX3.out hpa (HBD.out _ HS3.out)).mono ?_;rintro e w3 ⟨rfl,hI4,_⟩
     have HI4:Hid (yU w w.heap.size (xs ++ fJ (body.take (j+1))).length (dN (xs ++ fJ (body.take (j+1)))) w3):=η (by
      rw [HSP.out,← List.append_assoc,wB,List.length_append]
      exact hI4)
     clear hI4 HI3 HPA;go_wp2;go_roundw
     case rel=>exact ⟨j+1,HLJ.out,by go_num,HI4.out⟩
     case measure=>have:=HLJ.out; simp [intOf]; omega
    ·have he:j=body.length:=by omega
     have hj1:¬ (j:Int) < (body.length:Int):=by omega
     have HE:Hid (yU w w.heap.size (aQ (rs.take (k+1))).length (dN (aQ (rs.take (k+1)))) wr):=η (by
      rw [HSN.out];subst he;rw [List.take_of_length_le (Nat.le_refl _)] at hI
      exact hI)
     clear hI he;go_wp2;go_roundw
     case rel=>exact ⟨k+1,HLT.out,by go_num,HE.out⟩
     case measure=>have:=HLT.out; simp [intOf]; omega
  ·have he:k=rs.length:=by omega
   have hk1:¬ (k:Int) < (rs.length:Int):=by omega
   subst he;rw [List.take_of_length_le (Nat.le_refl _)] at hI;have cM:=cell_of_one hI.bm;have cB:wr.cell? ⟨w.heap.size+1+1,0,none⟩=_:=cell_of_one hI.bb;have hal:=zH (aQ rs);rw [hal] at cB;have HZ:Hid (∃ n,iG w.heap.size n (dN (aQ rs)).1 (dN (aQ rs)).2.1 wr∧Below w.heap.size w wr):=η ⟨_,hI.map,hI.bel⟩;clear hI h hal;go_wp2
   go_quiet (fail)
   go_wp2;go_ret2;obtain ⟨n,h1,h2⟩:=HZ.out;exact ⟨rfl,n,h1.same rfl,⟨h2.os,h2.tape,h2.output,h2.size,h2.block⟩⟩
def D.lF (ts:List T) (out:List ByteArray):List ByteArray:=ts.foldl (fun o t=>if t.var then kD o t.name else o) out
theorem D.JD (ts:List T) (k:Nat) (h:k < ts.length) (out:List ByteArray):lF (ts.take (k+1)) out=if ts[k].var then kD (lF (ts.take k) out) ts[k].name else lF (ts.take k) out:=LZ ⟨ByteArray.empty,ts⟩ k h out
theorem D.CZ {w:World} {g:Nat}:jL w [.slice (some ⟨g,0,none⟩) 0 0] [] []:=⟨_,0,rfl,Nat.le_refl _,Nat.zero_le _,fun _=>rfl,fun h=>absurd rfl h⟩
theorem wF (a:A) (out:List ByteArray) (c0 c1 v:Value) (b1 b2:List Nat) (w:World) (h:aU w [c0,c1] a b1) (h2:jL w [v] out b2) (hn:out.length+a.args.length≤16777216):
  Calls Tryz.prog 123 #[.agg #[c0,c1],v] w (Si (kT a out) b2 w.heap.size w):=by
 have ht:=eH h;obtain ⟨Aa,ca,rfl,rfl⟩:=bJ h;obtain ⟨As,cs,rfl,_,_⟩:=af h2;obtain ⟨_,_,e0',hl2,hm2⟩:=af ht;have hla:=au (Nat.le_trans hl2 hm2);obtain ⟨an,args⟩:=a;dsimp only at *;have hA:Below w.heap.size w (w.alloc (.cells #[.string an,.slice Aa args.length ca] 68)):=(Below.refl _ _).alloc (Nat.le_refl _) _;have x1:(w.alloc (.cells #[.string an,.slice Aa args.length ca] 68)).cell? ⟨w.heap.size,1,none⟩=some (.slice Aa args.length ca):=by go_simp
 have HST:=η (And.intro (cZ.below h2 hA) (And.intro hA x1));have HE:Hid (kT ⟨an,args⟩ out=lF args out):=η rfl;have HN:=η hn;clear h h2 hl2 hm2 e0' hA x1 hn
 go_enter Tryz.func123,Tryz.ntmps123
 go_wp2
 go_loopw [1,5] (fun v i wr=>∃ (k m:Nat) (Av:Option Addr) (cp:Nat) (b4:List Nat),k≤args.length∧i=.int .i64 k∧v=.slice Av m cp∧m=(lF (args.take k) out).length∧jL wr [.slice Av m cp] (lF (args.take k) out) b4∧(∀ c ∈ b4,w.heap.size≤c∨c ∈ b2)∧Below w.heap.size w wr∧wr.cell? ⟨w.heap.size,1,none⟩=some (.slice Aa args.length ca)) (fun _ i _=>args.length - (intOf i).toNat)
 case atStart=>exact ⟨0,out.length,As,cs,b2,Nat.zero_le _,rfl,rfl,rfl,HST.out.1,fun c hc=>.inr hc,HST.out.2.1,HST.out.2.2⟩
 case round=>
  obtain ⟨k,m,Av,cp,b4,hk,rfl,rfl,hme,hR,hfar,hb,x1⟩:=hrel;have HFR:=η hfar;clear hfar;clear HST;have HM:=η hme;by_cases hlt:k < args.length
  ·obtain ⟨b,o,rfl,_,d0,d1,hsz⟩:=dV (aH.below ht hb) hlt
   have hk0:(0:Int)≤(k:Int):=by omega
   have hk1:(k:Int) < (args.length:Int):=by omega
   have HLT:=η hlt
   have hlen:(lF (args.take k) out).length≤16777216:=by
    have h1:=vX (args.take k) out;rw [List.length_take] at h1;have:=HN.out;have h3:(lF (args.take k) out).length≤out.length+min k args.length:=h1;omega
   have hp:=Pq (lF (args.take k) out) args[k].name _ b4 wr hR hsz hlen;have HT:=η (JD args k hlt out);have HR:=η (And.intro hR hb);generalize args[k]=t at *;obtain ⟨tv,tn⟩:=t;dsimp only at *;clear hme hR hb ht hlen hlt hk;cases tv
   ·have HT2:Hid (lF (args.take (k+1)) out=lF (args.take k) out):=η (by rw [HT.out]; rfl)
    clear HT hp;go_wp2;go_roundw
    case rel=>exact ⟨k+1,m,Av,cp,b4,HLT.out,by go_num,rfl,by rw [HT2.out]; exact HM.out,by rw [HT2.out]; exact HR.out.1,HFR.out,HR.out.2,x1⟩
    case measure=>have:=HLT.out; simp [intOf]; omega
   ·have HT2:Hid (lF (args.take (k+1)) out=kD (lF (args.take k) out) tn):=η (by rw [HT.out]; rfl)
    clear HT
    go_wp2_with fail
    refine hp.mono ?_;rintro e w2 ⟨hb2,v2,b5,rfl,hR2,hf2⟩;obtain ⟨A2,p2,rfl,_,_⟩:=af hR2;have HX:=η (And.intro hR2 (And.intro (HR.out.2.trans (hb2.mono HR.out.2.size)) (cell_later hb2 x1)));have HF2:Hid (∀ c ∈ b5,w.heap.size≤c∨c ∈ b2):=η (fun c hc=>(hf2 c hc).elim (fun h9=>.inl (Nat.le_trans HR.out.2.size h9)) (HFR.out c));clear hp hR2 hb2 x1 hf2;go_wp2;go_roundw
    case rel=>exact ⟨k+1,_,A2,p2,b5,HLT.out,by go_num,rfl,by rw [HT2.out],by rw [HT2.out]; exact HX.out.1,HF2.out,HX.out.2.1,HX.out.2.2⟩
    case measure=>have:=HLT.out; simp [intOf]; omega
  ·have he:=η (show k=args.length by omega)
   have hk1:¬ (k:Int) < (args.length:Int):=by omega
   have HX:Hid (jL wr [.slice Av m cp] (lF args out) b4):=η (by rw [he.out,List.take_of_length_le (Nat.le_refl _)] at hR; exact hR);have HB:=η hb;clear hR hme hb ht;go_wp2;go_ret;exact ⟨HB.out,_,b4,rfl,by rw [HE.out]; exact HX.out,HFR.out⟩
theorem D.JE {α:Type} (f:α→Nat) (q:α→Bool) (xs:List α):bI f (xs.filter q)≤bI f xs:=by
 induction xs with
 | nil=>simp [bI]
 | cons x xs ih=>
  rw [List.filter_cons];have e:bI f (x :: xs)=f x+bI f xs:=by simp [bI]
  split
  ·have e2:bI f (x :: xs.filter q)=f x+bI f (xs.filter q):=by simp [bI]
   omega
  ·omega
theorem D.PU {ps:List Pt} {m:Nat} (hs:bI (fun p=>p.atom.args.length) ps≤m) (k:Nat) (out:List ByteArray):(fD (ps.take k) out).length≤out.length+m:=by
 have h1:=nZ (ps.take k) out;have h2:=pY (fun p:Pt=>p.atom.args.length) ps k;omega
theorem JF (r:Ru) (c0 c1 c2:Value) (bs:List Nat) (w:World) (h:jK w [c0,c1,c2] r bs) (hs:bI (fun p=>p.atom.args.length) r.body≤1000000) (hh:r.head.args.length≤1000000):
  Calls Tryz.prog 89 #[.agg #[c0,c1,c2]] w fun e w'=>e=.returned (.bool (fM r.head r.body))∧Below w.heap.size w w':=by
 obtain ⟨p1,p2,rfl,hat,hps⟩:=gu h;obtain ⟨Ad,cap,Ae,cape,rfl,rfl,rfl⟩:=jo h;obtain ⟨_,_,e0',hl2,hm2⟩:=af hps;have hlp:=au (Nat.le_trans hl2 hm2);obtain ⟨hd,ps⟩:=r;dsimp only at *;have hA:Below w.heap.size w (w.alloc (.cells #[.string hd.name,.slice Ad hd.args.length cap,.slice Ae ps.length cape] 71)):=(Below.refl _ _).alloc (Nat.le_refl _) _;have x2:(w.alloc (.cells #[.string hd.name,.slice Ad hd.args.length cap,.slice Ae ps.length cape] 71)).cell? ⟨w.heap.size,2,none⟩=some (.slice Ae ps.length cape):=by go_simp
 have hA2:Below w.heap.size w (((w.alloc (.cells #[.string hd.name,.slice Ad hd.args.length cap,.slice Ae ps.length cape] 71)).alloc (.cells #[] 9)).alloc (.cells #[] 9)):=(hA.alloc (by simp) _).alloc (by simp <;> omega) _;have hv0:=wF hd [] _ _ (.slice (some ⟨w.heap.size+1+1,0,none⟩) 0 0) p1 [] _ (aj.below hat hA2) CZ (by simp; omega);have HE:Hid (fM hd ps=decide ((fD ps (kT hd [])).length=(fD (ps.filter fun p=>!p.no) []).length)):=η rfl;have HS:=η hs;have HH:=η hh;have HA2:=η hA2;have HX2:=η x2;clear h hl2 hm2 e0' hA hs hh hat;generalize fM hd ps=G at *
 go_enter Tryz.func89,Tryz.ntmps89
 go_wp2_with fail
 refine hv0.mono ?_;rintro e w1 ⟨hb1,v1,b4,rfl,hR1,_⟩;obtain ⟨A1,p9,rfl,_,_⟩:=af hR1;have HR1:=η (And.intro hR1 (And.intro (HA2.out.trans (hb1.mono HA2.out.size)) (cell_later hb1 (show ((((w.alloc (.cells #[.string hd.name,.slice Ad hd.args.length cap,.slice Ae ps.length cape] 71)).alloc (.cells #[] 9)).alloc (.cells #[] 9)).cell? ⟨w.heap.size,2,none⟩=some (.slice Ae ps.length cape)) by go_simp))));clear hv0 hR1 hb1 x2;go_wp2
 go_loopw [3,4,5] (fun v3 v4 i wr=>∃ (k m q:Nat) (Av Bv:Option Addr) (cp cq:Nat) (b4 b5:List Nat),k≤ps.length∧i=.int .i64 k∧v3=.slice Bv q cq∧v4=.slice Av m cp∧m=(fD (ps.take k) (kT hd [])).length∧jL wr [.slice Av m cp] (fD (ps.take k) (kT hd [])) b4∧
  q=(fD ((ps.take k).filter fun p=>!p.no) []).length∧jL wr [.slice Bv q cq] (fD ((ps.take k).filter fun p=>!p.no) []) b5∧Below w.heap.size w wr∧wr.cell? ⟨w.heap.size,2,none⟩=some (.slice Ae ps.length cape)) (fun _ _ i _=>ps.length - (intOf i).toNat)
 case atStart=>exact ⟨0,_,0,A1,_,p9,_,b4,[],Nat.zero_le _,rfl,rfl,rfl,rfl,HR1.out.1,rfl,CZ,HR1.out.2.1,HR1.out.2.2⟩
 case round=>
  obtain ⟨k,m,q,Av,Bv,cp,cq,b4,b5,hk,rfl,rfl,rfl,hme,hR,hqe,hQ,hb,x2⟩:=hrel;clear HR1;have HM:=η (And.intro hme hqe);by_cases hlt:k < ps.length
  ·obtain ⟨b,o,Aa,ce,bk,rfl,_,d0,d1,d2,hel,_⟩:=gJ (aY.below hps hb) hlt
   have hk0:(0:Int)≤(k:Int):=by omega
   have hk1:(k:Int) < (ps.length:Int):=by omega
   have HLT:=η hlt
   have hal:(fD (ps.take k) (kT hd [])).length+ps[k].atom.args.length≤16777216:=by
    have h1:=PU HS.out k (kT hd []);have h2:=EG hd [];have h3:=wR (fun p:Pt=>p.atom.args.length) ps k hlt;have:=HS.out;have:=HH.out;simp only [List.length_nil] at h2;omega
   have hbl:(fD ((ps.take k).filter fun p=>!p.no) []).length+ps[k].atom.args.length≤16777216:=by
    have h1:=nZ ((ps.take k).filter fun p=>!p.no) [];have h4:=JE (fun p:Pt=>p.atom.args.length) (fun p=>!p.no) (ps.take k);have h5:=pY (fun p:Pt=>p.atom.args.length) ps k;have h3:=wR (fun p:Pt=>p.atom.args.length) ps k hlt;have:=HS.out;simp only [List.length_nil] at h1;omega
   have hp:=wF ps[k].atom _ _ _ _ bk b4 wr (gK hel) hR hal;have hp2:=fun w' (hb':Below wr.heap.size wr w')=>wF ps[k].atom _ _ _ _ bk b5 w' (aj.below (gK hel) hb') (cZ.below hQ hb') hbl
   have HT:=η (IY ps k hlt (kT hd []));have HT2:=η (IZ ps k hlt);have HB:=η hb;have HQ:=η hQ;generalize ps[k]=p at *;obtain ⟨no,pa⟩:=p;dsimp only at *;clear hme hqe hR hQ hb hps hel hlt hk hal hbl
   go_wp2_with fail
   refine hp.mono ?_;rintro e w2 ⟨hb2,v2,b6,rfl,hR2,_⟩;obtain ⟨A2,p2,rfl,_,_⟩:=af hR2;have HX:=η (And.intro hR2 (HB.out.trans (hb2.mono HB.out.size)));replace HQ:=η (cZ.below HQ.out hb2);have hp3:=hp2 _ hb2;replace x2:=cell_later hb2 x2;replace d0:=cell_later hb2 d0;replace d1:=cell_later hb2 d1;replace d2:=cell_later hb2 d2;clear hp hp2 hR2 hb2;cases no
   ·have HT3:Hid (fD ((ps.take (k+1)).filter fun p=>!p.no) []=kT pa (fD ((ps.take k).filter fun p=>!p.no) [])):=η (by rw [HT2.out]; unfold fD; rw [List.foldl_append]; rfl)
    clear HT2
    go_wp2_with fail
    refine hp3.mono ?_;rintro e w3 ⟨hb3,v3,b7,rfl,hR3,_⟩;obtain ⟨A3,p3,rfl,_,_⟩:=af hR3;have HY:=η (And.intro hR3 (And.intro (cZ.below HX.out.1 hb3) (And.intro (HX.out.2.trans (hb3.mono HX.out.2.size)) (cell_later hb3 x2))));clear hp3 hR3 hb3 x2 d0 d1 d2;go_wp2;go_roundw
    case rel=>exact ⟨k+1,_,_,A2,A3,p2,p3,b6,b7,HLT.out,by go_num,rfl,rfl,by rw [HT.out],by rw [HT.out]; exact HY.out.2.1,by rw [HT3.out],by rw [HT3.out]; exact HY.out.1,HY.out.2.2.1,HY.out.2.2.2⟩
    case measure=>have:=HLT.out; simp [intOf]; omega
   ·have HT3:Hid (fD ((ps.take (k+1)).filter fun p=>!p.no) []=fD ((ps.take k).filter fun p=>!p.no) []):=η (by rw [HT2.out]; simp)
    clear HT2 hp3 d1 d2;go_wp2;go_roundw
    case rel=>exact ⟨k+1,_,q,A2,Bv,p2,cq,b6,b5,HLT.out,by go_num,rfl,rfl,by rw [HT.out],by rw [HT.out]; exact HX.out.1,by rw [HT3.out]; exact HM.out.2,by rw [HT3.out]; exact HQ.out,HX.out.2,x2⟩
    case measure=>have:=HLT.out; simp [intOf]; omega
  ·have he:=η (show k=ps.length by omega)
   have hk1:¬ (k:Int) < (ps.length:Int):=by omega
   have HG2:Hid (G=decide (m=q)):=η (by
    have h1:=HM.out.1;have h2:=HM.out.2;rw [he.out,List.take_of_length_le (Nat.le_refl _)] at h1 h2
    rw [HE.out,← h1,← h2])
   have HB:=η hb;clear hR hQ hme hqe hb hps HE;go_wp2;go_ret;exact ⟨aO (by rw [HG2.out]; first | (simp; omega) | (by_cases hmq:m=q <;> simp [hmq] <;> omega)),HB.out⟩
theorem D.Nl {α:Type} (f:α→Nat) (c:Nat) (xs:List α) (h:∀ x ∈ xs,f x≤c):bI f xs≤c * xs.length:=by
 induction xs with
 | nil=>simp [bI]
 | cons x xs ih=>
  have e:bI f (x :: xs)=f x+bI f xs:=by simp [bI]
  have h1:=h x (List.mem_cons_self ..);have h2:=ih (fun y hy=>h y (List.mem_cons_of_mem _ hy));rw [e,List.length_cons,Nat.mul_add];omega
end Go.Proofs.YtiidmgchadagbaaGreatDoor
