/- Of the proof of FnExactDelta: LevS, Fact, ChC, HPartS. -/
import Derived.Deep.OwnRows
import Derived.Deep.CutRange
import Derived.Test.YtiidmgchadagbaaGreatDoorM14
import Derived.Test.YtiidmgchadagbaaGreatDoorM16
import Derived.Test.YtiidmgchadagbaaGreatDoorM17
set_option linter.unusedVariables false
set_option maxHeartbeats 4000000
set_option maxRecDepth 100000
namespace Go.Proofs.YtiidmgchadagbaaGreatDoor
open Go.RowKit D
attribute [local go_sem ↓] Go.wp_at_zero Go.wp_at_succ
structure D.mY (w:World) (rs:List Ru) (out:List Nat) (wr:World):Prop where
 blk:wr.heap[w.heap.size]? = some (.cells (DR out) 3 (0,0))
 len:out.length=rs.length
 bel:Below w.heap.size w wr
theorem D.mY.later {w:World} {rs:List Ru} {out:List Nat} {wr w':World} (h:mY w rs out wr) (hb:Below wr.heap.size wr w'):mY w rs out w':=
 ⟨(hb.block _ (lt_of_block h.blk)).trans h.blk,h.len,h.bel.trans (hb.mono h.bel.size)⟩
theorem D.mY.drewN {w:World} {rs:List Ru} {out:List Nat} {wr:World} (h:mY w rs out wr) (n:Nat):mY w rs out (wr.drewN n):=⟨h.blk,h.len,below_drewN h.bel n⟩
theorem D.mY.set {w:World} {rs:List Ru} {out:List Nat} {wr:World} (h:mY w rs out wr) (i v:Nat):mY w rs (out.set i v) (wr.setCell ⟨w.heap.size,i,none⟩ (.int .i64 (v:Nat))):=
 ⟨by rw [← GR]; exact bZ h.blk,by rw [List.length_set]; exact h.len,h.bel.setCell (Nat.le_refl _) _⟩
theorem D.mY.at {w:World} {rs:List Ru} {out:List Nat} {wr:World} (h:mY w rs out wr) {i:Nat} (hi:i < rs.length):wr.cell? ⟨w.heap.size,i,none⟩=some (.int .i64 (iP out i:Nat)):=by
 rw [ak h.blk]; exact CJ (by rw [h.len]; exact hi)
theorem D.mY.free {w:World} {rs:List Ru} {out:List Nat} {wr:World} (h:mY w rs out wr) (o:Nat):wr.frozen? ⟨w.heap.size,o,none⟩=false:=aB h.blk
theorem D.NC {out:List Nat} {i v c d:Nat} (h:∀ x,iP out x≤c) (hv:v≤d) (hc:c≤d):∀ x,iP (out.set i v) x≤d:=fun x=>by
 by_cases hi:i < out.length
 ·rw [o6 hi]
  split
  ·exact hv
  ·exact Nat.le_trans (h x) hc
 ·rw [List.set_eq_of_length_le (by omega)]; exact Nat.le_trans (h x) hc
theorem D.Fg {rs:List Ru} {i:Nat} (h:i < rs.length):dQ rs i=rs[i]:=by unfold dQ; rw [List.getD_eq_getElem?_getD,List.getElem?_eq_getElem h]; rfl
theorem D.Dh {β:Type} (f:β→Nat→β) (b:β) (k:Nat):(List.range (k+1)).foldl f b=f ((List.range k).foldl f b) k:=by rw [List.range_succ,List.foldl_append]; rfl
theorem D.Qd {α β:Type} (f:β→α→β) (b:β) (xs:List α) (k:Nat) (h:k < xs.length):(xs.take (k+1)).foldl f b=f ((xs.take k).foldl f b) xs[k]:=by rw [List.take_succ_eq_append_getElem h,List.foldl_append]; rfl
theorem yh (rs:List Ru) (v:Value) (bs:List Nat) (w:World) (h:dO w [v] rs bs) (hf:rs.length≤8) (hok:rs.all fC=true):
  Calls Tryz.prog 59 #[v] w fun e w'=>Below w.heap.size w w'∧e=.returned (.slice (some ⟨w.heap.size,0,none⟩) rs.length rs.length)∧mY w rs (ax rs) w'∧∀ i,iP (ax rs) i≤1000000:=by
 obtain ⟨Ad,cap,rfl,hl,hm⟩:=af h;have hlm:=au (Nat.le_trans hl hm);have hmk:=fun w'=>run_make_row' (P:=Tryz.prog) 37 3 (.int .i64 0) 8 Tryz.underlying37 AP rfl .i64 .i64 rs.length (by omega) (by omega) w'
 simp only [CO] at hmk;have HI0:Hid (mY w rs (yM rs 0) (w.alloc (.cells (DR (List.replicate rs.length 0)) 3))):=η ⟨heap_alloc_new _ _,by simp [yM],(Below.refl _ _).alloc (Nat.le_refl _) _⟩;have HM0:Hid (∀ x,iP (yM rs 0) x≤256 * 0):=η fun x=>by unfold yM; rw [CQ]; omega
 obtain ⟨N1,hN1⟩:∃ N1:Nat,N1=(rs.length+1) * (rs.length+2):=⟨_,rfl⟩;have hmul:((rs.length:Int)+1) * ((rs.length:Int)+2)=(N1:Int):=by rw [hN1]; simp
 have hN90:N1≤90:=by rw [hN1]; exact Nat.mul_le_mul (show rs.length+1≤9 by omega) (show rs.length+2≤10 by omega)
 have HLEV:Hid (ax rs=yM rs N1):=η (by rw [hN1]; rfl);have HOK:=η hok;have hrl8:(rs.length:Int)≤8:=by omega
 clear hl hm hok hN1
 go_enter Tryz.func59,Tryz.ntmps59
 go_wp2;generalize w.alloc (.cells (DR (List.replicate rs.length 0)) 3)=w0 at *;clear hmk
 go_loopw [4] (fun i wr=>∃ (m:Nat) (out:List Nat),m≤N1∧i=.int .i64 m∧out=yM rs m∧mY w rs out wr∧∀ x,iP out x≤256 * m) (fun i _=>N1 - (intOf i).toNat)
 case atStart=>exact ⟨0,_,Nat.zero_le _,rfl,rfl,HI0.out,HM0.out⟩
 case round=>
  obtain ⟨m,out,hm,rfl,ho,hI,hmx⟩:=hrel;clear HI0 HM0;by_cases hlt:m < N1
  ·have hm0:(0:Int)≤(m:Int):=by omega
   have hm1:(m:Int) < (N1:Int):=by omega
   have HI:=η hI;have HMX:=η hmx;have HO:=η ho;clear ho hI hmx;go_wp2
   go_loopw [5] (fun v wr=>∃ (i:Nat) (o2:List Nat),i≤rs.length∧v=.int .i64 i∧o2=(List.range i).foldl (Pg rs) out∧mY w rs o2 wr∧∀ x,iP o2 x≤256 * m+32 * i) (fun i _=>rs.length - (intOf i).toNat)
   case atStart=>exact ⟨0,out,Nat.zero_le _,rfl,rfl,HI.out,HMX.out⟩
   case round=>
    clear HI HMX;obtain ⟨i,o2,hi,rfl,ho,hI,hmx⟩:=hrel;by_cases hil:i < rs.length
    ·obtain ⟨b0,o0,Ai,ci,Bi,di,bki,rfl,_,i0,i1,i2,heli,_⟩:=gq h hil
     have HFR:=η (Dh (Pg rs) out i);obtain ⟨_,bi2,_,_,hbdi⟩:=gu heli;have HBI:=η hbdi;have hrok:=(kV (List.all_eq_true.1 HOK.out _ (List.getElem_mem hil))).1;have HRI:=η (Fg hil);have hi0:(0:Int)≤(i:Int):=by omega
     have hi1:(i:Int) < (rs.length:Int):=by omega
     have HI:=η hI;have HMX:=η hmx;have HO2:=η ho;have HIL:=η hil;clear heli hbdi ho hI hmx;generalize rs[i]=ri at *;clear hil;obtain ⟨⟨hin,hia⟩,bi⟩:=ri;dsimp only at *;go_wp2
     go_loopw [6] (fun v wr=>∃ (k:Nat) (o3:List Nat),k≤rs.length∧v=.int .i64 k∧o3=(List.range k).foldl (xq rs i) o2∧mY w rs o3 wr∧∀ x,iP o3 x≤256 * m+32 * i+4 * k) (fun i _=>rs.length - (intOf i).toNat)
     case atStart=>exact ⟨0,o2,Nat.zero_le _,rfl,rfl,HI.out,HMX.out⟩
     case round=>
      clear HI HMX;obtain ⟨k,o3,hkl,rfl,ho,hI,hmx⟩:=hrel;by_cases hkk:k < rs.length
      ·obtain ⟨b9,o9,Ak,ck,Bk,dk,bkk,e9,_,k0,k1,k2,helk,_⟩:=gq h hkk
       obtain ⟨rfl,rfl⟩:b0=b9∧o0=o9:=by simpa using e9
       have hil:=HIL.out;have j0:=cell_later hI.bel i0;have j2:=cell_later hI.bel i2;have I2:=η i2;have K0:=η k0;replace k0:=cell_later hI.bel k0;have HFK:=η (Dh (xq rs i) o2 k);have HRK:=η (Fg hkk);have a1:=hI.at hkk;have a2:=hI.at hil;have fz:=hI.free i;have hma:=hmx k;have hmb:=hmx i;have hk0:(0:Int)≤(k:Int):=by omega
       have hk1:(k:Int) < (rs.length:Int):=by omega
       have HI:=η hI;have HMX:=η hmx;have HO3:=η ho;have HKL:=η hkk;clear helk ho hI hmx e9 k1 k2;generalize rs[k]=rk at *;clear hkk hil;obtain ⟨⟨hk,hka⟩,bk⟩:=rk;dsimp only at *;obtain ⟨a,ha⟩:∃ a,a=iP o3 k:=⟨_,rfl⟩;obtain ⟨b,hb⟩:∃ b,b=iP o3 i:=⟨_,rfl⟩;rw [← ha] at a1 hma;rw [← hb] at a2 hmb;have HA:=η ha;have HBb:=η hb;clear ha hb
       go_upto_region 11 with (fail)
       go_cut [59] from 30 to 121 (fun c wx=>c=.bool (decide (hk=hin) && decide (b < a))∧mY w rs o3 wx)
       case first=>
        skip
        cases hs:(hk.toList == hin.toList)
        ·have HD:Hid ((decide (hk=hin) && decide (b < a))=false):=η (by rw [← pF,hs]; rfl)
         go_quiet (fail)
         go_wp2
         go_meet
         case rel=>exact ⟨by rw [HD.out],HI.out.drewN _⟩
        ·by_cases hgt:b < a
         ·have HD:Hid ((decide (hk=hin) && decide (b < a))=true):=η (by rw [← pF,hs]; simp [hgt])
          have hgt1:(b:Int) < (a:Int):=by omega
          clear hgt
          go_quiet (fail)
          go_wp2
          go_meet
          case rel=>exact ⟨by rw [HD.out],HI.out.drewN _⟩
         ·have HD:Hid ((decide (hk=hin) && decide (b < a))=false):=η (by rw [← pF,hs]; simp [hgt])
          have hgt1:¬ (b:Int) < (a:Int):=by omega
          clear hgt
          go_quiet (fail)
          go_wp2
          go_meet
          case rel=>exact ⟨by rw [HD.out],HI.out.drewN _⟩
       case rest=>
        obtain ⟨rfl,hI⟩:=hcut;clear a1 a2 fz HI j0 j2 k0;have a1:=hI.at HKL.out;have a2:=hI.at HIL.out;have fz:=hI.free i;rw [← HA.out] at a1;rw [← HBb.out] at a2;have HI:=η hI;have hgw:w.heap.size < wc.heap.size:=lt_of_block hI.blk;clear hI;obtain ⟨c,hc⟩:∃ c,c=(decide (hk=hin) && decide (b < a)):=⟨_,rfl⟩;rw [← hc];have HC:=η hc;clear hc
        go_upto_if 59 with (fail)
        go_cut [] from 30 to 121 (fun wx=>mY w rs (nG hin hk i k o3) wx)
        case first=>
         cases c
         ·have HST:Hid (nG hin hk i k o3=o3):=η (by
           unfold nG; rw [if_neg]; rintro ⟨e,h⟩; have:=HC.out; rw [e,HBb.out,HA.out] at this; simp at this; omega)
          go_wp2
          go_meet
          case rel=>rw [HST.out]; exact HI.out
         ·have HST:Hid (nG hin hk i k o3=o3.set i a):=η (by
           have:=HC.out.symm;simp only [Bool.and_eq_true,decide_eq_true_eq] at this
           unfold nG; rw [if_pos ⟨this.1,by rw [← HA.out,← HBb.out]; exact this.2⟩,HA.out])
          have hil3:=HIL.out;have hkl3:=HKL.out;go_wp2
          go_meet
          case rel=>rw [HST.out]; exact HI.out.set i a
        case rest=>
         have HI4:=η hcut
         have HMX4:Hid (∀ x,iP (nG hin hk i k o3) x≤256 * m+32 * i+4 * k):=η (by
          unfold nG; split
          ·exact NC HMX.out (HMX.out k) (Nat.le_refl _)
          ·exact HMX.out)
         clear hcut a1 a2 fz HI;obtain ⟨o4,ho4⟩:∃ o4,o4=nG hin hk i k o3:=⟨_,rfl⟩;have HST:=η ho4.symm;rw [← ho4] at HI4 HMX4;clear ho4;go_wp2
         go_loopw [7] (fun v wr=>∃ (j:Nat) (out:List Nat),j≤bi.length∧v=.int .i64 j∧out=(bi.take j).foldl (kG rs.length hk i k) o4∧mY w rs out wr∧∀ x,iP out x≤256 * m+32 * i+4 * k+j) (fun i _=>bi.length - (intOf i).toNat)
         case atStart=>exact ⟨0,_,Nat.zero_le _,rfl,rfl,HI4.out,HMX4.out⟩
         case round=>
          clear HI4 HMX4 HMX hma hmb HA HBb;obtain ⟨j,out,hj,rfl,ho,hI,hmx⟩:=hrel;have j2:=cell_later hI.bel I2.out;by_cases hjl:j < bi.length
          ·have k0:=cell_later hI.bel K0.out
           have hbk:b0 < wr.heap.size:=lt_of_cell k0;obtain ⟨b4,o5,Ag,cg,bg,rfl,_,f0,f1,f2,hel,_⟩:=gJ HBI.out hjl;replace f0:=cell_later hI.bel f0;replace f1:=cell_later hI.bel f1;replace f2:=cell_later hI.bel f2;have hj0:(0:Int)≤(j:Int):=by omega
           have hj1:(j:Int) < (bi.length:Int):=by omega
           have HSJ:=η (Qd (kG rs.length hk i k) o4 bi j hjl);have hA:Below wr.heap.size wr (wr.alloc (.cells #[.bool bi[j].no,.string bi[j].atom.name,.slice Ag bi[j].atom.args.length cg] 111)):=(Below.refl _ _).alloc (Nat.le_refl _) _;have a1:=hI.at HKL.out;have a2:=hI.at HIL.out;have fz:=hI.free i;have hma:=hmx k;have hmb:=hmx i;have hkl2:=HKL.out;have hil2:=HIL.out;have HI3:=η (hI.later hA);have HI9:=η hI;have HMX:=η hmx;have HOU:=η ho;have hgw:w.heap.size < wr.heap.size:=lt_of_block hI.blk;clear hel ho hI hmx hA;have HLJ:=η hjl;generalize bi[j]=p at *;clear hjl;obtain ⟨no,⟨pn,pargs⟩⟩:=p;dsimp only at *;obtain ⟨a,ha⟩:∃ a,a=iP out k:=⟨_,rfl⟩;obtain ⟨b,hb⟩:∃ b,b=iP out i:=⟨_,rfl⟩;rw [← ha] at a1 hma;rw [← hb] at a2 hmb;have HA:=η ha;have HBb:=η hb;clear ha hb hkl2 hil2;cases hq:(pn.toList == hk.toList)
           ·have HS5:Hid (kG rs.length hk i k out ⟨no,⟨pn,pargs⟩⟩=out):=η (by unfold kG; rw [if_neg]; intro e; have e:pn=hk:=e; rw [e] at hq; simp at hq)
            clear HI9;go_wp2
            go_quiet (fail)
            go_wp2;go_roundw
            case rel=>exact ⟨j+1,out,HLJ.out,by go_num,by rw [HSJ.out,← HOU.out,HS5.out],HI3.out.drewN _,fun x=>Nat.le_trans (HMX.out x) (by omega)⟩
            case measure=>have:=HLJ.out; simp [intOf]; omega
           ·have HPE:Hid (pn=hk):=η (by have:=pF pn hk; rw [hq] at this; exact of_decide_eq_true this.symm)
            cases no
            ·by_cases hgt:b < a
             ·have hgt2:(b:Int) < (a:Int):=by omega
              by_cases hln:b≤rs.length
              ·have hln1:(b:Int)≤(rs.length:Int):=by omega
               have HS5:Hid (kG rs.length hk i k out ⟨false,⟨pn,pargs⟩⟩=out.set i (a)):=η (by
                unfold kG; rw [if_pos HPE.out,if_pos ⟨by simp only [AO]; rw [← HA.out,← HBb.out]; simpa using hgt,by rw [← HBb.out]; exact hln⟩]; simp only [AO]; rw [HA.out]; rfl)
               have HMS:Hid (∀ x,iP (out.set i (a)) x≤256 * m+32 * i+4 * k+(j+1)):=η (NC HMX.out (by have:=HMX.out k; rw [← HA.out] at this; omega) (by omega));clear HI9 hgt hln;go_wp2
               go_quiet (fail)
               have HSQ:=η ((HI3.out.drewN nq).set i (a));go_wp2;go_roundw
               case rel=>exact ⟨j+1,_,HLJ.out,by go_num,by rw [HSJ.out,← HOU.out,HS5.out],HSQ.out,HMS.out⟩
               case measure=>have:=HLJ.out; simp [intOf]; omega
              ·have hln1:¬ (b:Int)≤(rs.length:Int):=by omega
               have HS5:Hid (kG rs.length hk i k out ⟨false,⟨pn,pargs⟩⟩=out):=η (by
                unfold kG; rw [if_pos HPE.out,if_neg fun h=>hln (by have:=h.2; rw [← HBb.out] at this; exact this)])
               clear HI9 hgt hln;go_wp2
               go_quiet (fail)
               go_wp2;go_roundw
               case rel=>exact ⟨j+1,out,HLJ.out,by go_num,by rw [HSJ.out,← HOU.out,HS5.out],HI3.out.drewN _,fun x=>Nat.le_trans (HMX.out x) (by omega)⟩
               case measure=>have:=HLJ.out; simp [intOf]; omega
             ·have hgt1:¬ (b:Int) < (a:Int):=by omega
              have HS5:Hid (kG rs.length hk i k out ⟨false,⟨pn,pargs⟩⟩=out):=η (by
                unfold kG; rw [if_pos HPE.out,if_neg fun h=>hgt (by have:=h.1; simp only [AO] at this; rw [← HA.out,← HBb.out] at this; simpa using this)])
              clear HI9 hgt;go_wp2
              go_quiet (fail)
              go_wp2;go_roundw
              case rel=>exact ⟨j+1,out,HLJ.out,by go_num,by rw [HSJ.out,← HOU.out,HS5.out],HI3.out.drewN _,fun x=>Nat.le_trans (HMX.out x) (by omega)⟩
              case measure=>have:=HLJ.out; simp [intOf]; omega
            ·by_cases hgt:b < a+1
             ·have hgt2:(b:Int) < (a:Int)+1:=by omega
              by_cases hln:b≤rs.length
              ·have hln1:(b:Int)≤(rs.length:Int):=by omega
               have HS5:Hid (kG rs.length hk i k out ⟨true,⟨pn,pargs⟩⟩=out.set i (a+1)):=η (by
                unfold kG; rw [if_pos HPE.out,if_pos ⟨by simp only [AO]; rw [← HA.out,← HBb.out]; simpa using hgt,by rw [← HBb.out]; exact hln⟩]; simp only [AO]; rw [HA.out]; rfl)
               have HMS:Hid (∀ x,iP (out.set i (a+1)) x≤256 * m+32 * i+4 * k+(j+1)):=η (NC HMX.out (by have:=HMX.out k; rw [← HA.out] at this; omega) (by omega));clear HI9 hgt hln;go_wp2
               go_quiet (fail)
               have HSQ:=η ((HI3.out.drewN nq).set i (a+1));go_wp2;go_roundw
               case rel=>exact ⟨j+1,_,HLJ.out,by go_num,by rw [HSJ.out,← HOU.out,HS5.out],HSQ.out,HMS.out⟩
               case measure=>have:=HLJ.out; simp [intOf]; omega
              ·have hln1:¬ (b:Int)≤(rs.length:Int):=by omega
               have HS5:Hid (kG rs.length hk i k out ⟨true,⟨pn,pargs⟩⟩=out):=η (by
                unfold kG; rw [if_pos HPE.out,if_neg fun h=>hln (by have:=h.2; rw [← HBb.out] at this; exact this)])
               clear HI9 hgt hln;go_wp2
               go_quiet (fail)
               go_wp2;go_roundw
               case rel=>exact ⟨j+1,out,HLJ.out,by go_num,by rw [HSJ.out,← HOU.out,HS5.out],HI3.out.drewN _,fun x=>Nat.le_trans (HMX.out x) (by omega)⟩
               case measure=>have:=HLJ.out; simp [intOf]; omega
             ·have hgt1:¬ (b:Int) < (a:Int)+1:=by omega
              have HS5:Hid (kG rs.length hk i k out ⟨true,⟨pn,pargs⟩⟩=out):=η (by
                unfold kG; rw [if_pos HPE.out,if_neg fun h=>hgt (by have:=h.1; simp only [AO] at this; rw [← HA.out,← HBb.out] at this; simpa using this)])
              clear HI9 hgt;go_wp2
              go_quiet (fail)
              go_wp2;go_roundw
              case rel=>exact ⟨j+1,out,HLJ.out,by go_num,by rw [HSJ.out,← HOU.out,HS5.out],HI3.out.drewN _,fun x=>Nat.le_trans (HMX.out x) (by omega)⟩
              case measure=>have:=HLJ.out; simp [intOf]; omega
          ·have he:j=bi.length:=by omega
           have hj1:¬ (j:Int) < (bi.length:Int):=by omega
           have HZ:Hid (out=(List.range (k+1)).foldl (xq rs i) o2∧mY w rs out wr∧∀ x,iP out x≤256 * m+32 * i+4 * (k+1)):=η ⟨by
            rw [HFK.out,← HO3.out,ho,he,List.take_of_length_le (Nat.le_refl _)];unfold xq;rw [HRI.out,HRK.out];show _=List.foldl _ (nG hin hk i k o3) bi
            rw [HST.out],hI,fun x=>Nat.le_trans (hmx x) (by omega)⟩
           clear ho hI hmx he;go_wp2;go_roundw
           case rel=>exact ⟨k+1,out,HKL.out,by go_num,HZ.out.1,HZ.out.2.1,HZ.out.2.2⟩
           case measure=>have:=HKL.out; simp [intOf]; omega
      ·have he:k=rs.length:=by omega
       have hk1:¬ (k:Int) < (rs.length:Int):=by omega
       have HZ:Hid (o3=(List.range (i+1)).foldl (Pg rs) out∧mY w rs o3 wr∧∀ x,iP o3 x≤256 * m+32 * (i+1)):=η ⟨by rw [HFR.out,← HO2.out,ho,he]; rfl,hI,fun x=>Nat.le_trans (hmx x) (by omega)⟩;have hil:=HIL.out;clear ho hI hmx he;go_wp2;go_roundw
       case rel=>exact ⟨i+1,o3,HIL.out,by go_num,HZ.out.1,HZ.out.2.1,HZ.out.2.2⟩
       case measure=>have:=HIL.out; simp [intOf]; omega
    ·have he:i=rs.length:=by omega
     have hi1:¬ (i:Int) < (rs.length:Int):=by omega
     have HZ:Hid (o2=yM rs (m+1)∧mY w rs o2 wr∧∀ x,iP o2 x≤256 * (m+1)):=η ⟨by rw [ho,he,HO.out]; rfl,hI,fun x=>Nat.le_trans (hmx x) (by omega)⟩;clear ho hI hmx he;go_wp2;go_roundw
     case rel=>exact ⟨m+1,o2,hlt,by go_num,HZ.out.1,HZ.out.2.1,HZ.out.2.2⟩
     case measure=>simp [intOf]; omega
  ·have he:m=N1:=by omega
   have hm1:¬ (m:Int) < (N1:Int):=by omega
   have HZ:Hid (mY w rs (ax rs) wr∧∀ i,iP (ax rs) i≤1000000):=η (by rw [HLEV.out,← he,← ho]; exact ⟨hI,fun x=>Nat.le_trans (hmx x) (by omega)⟩);clear ho hI hmx he;go_wp2;go_ret;exact ⟨HZ.out.1.bel,rfl,HZ.out⟩
theorem Qe (t:T) (w:World):
  Calls Tryz.prog 161 #[.agg #[.bool t.var,.string t.name]] w fun e w'=>e=.returned (.bool t.var)∧Below w.heap.size w w':=by
 go_enter Tryz.func161,Tryz.ntmps161
 go_wp2;go_ret;exact ⟨rfl,(Below.refl _ _).alloc (Nat.le_refl _) _⟩
def Found (b:Bool) (w:World) (e:Ending) (w':World):Prop:=(∃ z:Int,e=.returned (.int .i64 z)∧decide (0≤z)=b)∧Below w.heap.size w w'
theorem G6 (ts:List T) (v:Value) (bs:List Nat) (w:World) (h:eY w [v] ts bs):
  Calls Tryz.prog 190 #[v,.func (.func 161) #[] #[]] w (Found (kC ts) w):=by
 obtain ⟨Ad,cap,rfl,hl,hm⟩:=af h;have hlm:=au (Nat.le_trans hl hm);clear hm
 go_enter Tryz.func190,Tryz.ntmps190
 go_wp2
 go_loopw [8] (fun i wr=>∃ k:Nat,k≤ts.length∧i=.int .i64 k∧kC (ts.take k)=false∧Below w.heap.size w wr) (fun i _=>ts.length - (intOf i).toNat)
 case atStart=>exact ⟨0,Nat.zero_le _,rfl,rfl,Below.refl _ _⟩
 case round=>
  obtain ⟨k,hk,rfl,hall,hb⟩:=hrel;have HA:=η hall;clear hall;by_cases hlt:k < ts.length
  ·obtain ⟨b,o,rfl,_,c0,c1,_⟩:=dV (aH.below h hb) hlt
   clear h
   go_wp2_with fail
   refine (Qe ts[k] _).mono ?_;rintro e w' ⟨rfl,hb'⟩;have B':=hb.trans (hb'.mono hb.size);cases hv:ts[k].var
   ·have HV:=η hv
    go_wp2;go_roundw
    case rel=>exact ⟨k+1,by omega,by go_num,by rw [zl ts k hlt,HA.out,HV.out]; rfl,B'⟩
    case measure=>simp [intOf]; omega
   ·have HV:=η (AX ts k hlt hv)
    go_wp2;go_ret;exact ⟨⟨_,rfl,by rw [HV.out]; simp⟩,B'⟩
  ·have he:=η (show k=ts.length by omega)
   go_wp2;go_ret;exact ⟨⟨_,rfl,by have:=HA.out; rw [he.out,List.take_of_length_le (Nat.le_refl _)] at this; rw [this]; rfl⟩,hb⟩
theorem Aj (ts:List T) (v:Value) (bs:List Nat) (w:World) (h:eY w [v] ts bs):
  Calls Tryz.prog 160 #[v,.func (.func 161) #[] #[]] w fun e w'=>e=.returned (.bool (kC ts))∧Below w.heap.size w w':=by
 have hi:=G6 ts v bs w h;clear h
 go_enter Tryz.func160,Tryz.ntmps160
 go_wp2_with fail
 refine hi.mono ?_;rintro e w' ⟨⟨z,rfl,hz⟩,hb⟩;have HZ:=η hz;clear hz;go_wp2;go_ret;exact ⟨aO HZ.out,hb⟩
theorem ND (a:A) (c0 c1:Value) (bs:List Nat) (w:World) (h:aU w [c0,c1] a bs):
  Calls Tryz.prog 118 #[.agg #[c0,c1]] w fun e w'=>e=.returned (.bool (dM a))∧Below w.heap.size w w':=by
 obtain ⟨Ad,cap,rfl,rfl⟩:=bJ h;have k1:=fun w' (hb:Below w.heap.size w w')=>tq a _ _ bs w' (aj.below h hb)
 have k2:=fun w' (hb:Below w.heap.size w w')=>Aj a.args _ bs w' (eH (aj.below h hb))
 unfold dM;generalize aZ a=x at *;generalize kC a.args=y at *;clear h;have hA:=(Below.refl w.heap.size w).alloc (Nat.le_refl _) (.cells #[.string a.name,.slice Ad a.args.length cap] 68)
 go_enter Tryz.func118,Tryz.ntmps118
 go_wp2_with fail
 refine (k1 _ hA).mono ?_;rintro e w1 ⟨rfl,hb1⟩;have B1:=hA.trans (hb1.mono hA.size);have x1:w1.cell? ⟨w.heap.size,1,none⟩=some (.slice Ad a.args.length cap):=cell_later hb1 (by go_simp);clear k1 hA;cases x
 ·go_wp2
  go_ret;exact ⟨rfl,B1⟩
 ·go_wp2_with fail
  refine (k2 _ B1).mono ?_;rintro e w2 ⟨rfl,hb2⟩;go_wp2;go_ret;exact ⟨aO (by simp),B1.trans (hb2.mono B1.size)⟩
theorem Di (c:Ch) (c0 c1:Value) (bs:List Nat) (w:World) (h:dU w [c0,c1] c bs) (h1:CV c.comes) (h2:CV c.goes):
  Calls Tryz.prog 51 #[.agg #[c0,c1]] w (Wh c w.heap.size w):=by
 obtain ⟨Ad,cap,Ae,cape,rfl,rfl⟩:=eG h;obtain ⟨b1,b2,rfl,ht,hp⟩:=dZ h;have k1:=fun w' (hb:Below w.heap.size w w')=>vg c.comes _ b1 w' (ai.below ht hb) (Nat.le_trans h1.1 (by omega)) h1.2
 have k2:=fun w' (hb:Below w.heap.size w w')=>vg c.goes _ b2 w' (ai.below hp hb) (Nat.le_trans h2.1 (by omega)) h2.2
 clear h ht hp h1 h2;have hA0:Below w.heap.size w ((w.alloc (.cells #[.slice Ad c.comes.length cap,.slice Ae c.goes.length cape] 46)).alloc (.cells #[.slice none 0 0,.slice none 0 0] 46)):=((Below.refl _ _).alloc (Nat.le_refl _) _).alloc (by simp) _;have HZ0:=η (SK (U4 w (.cells #[.slice Ad c.comes.length cap,.slice Ae c.goes.length cape] 46) (.cells #[.slice none 0 0,.slice none 0 0] 46)));have x0:((w.alloc (.cells #[.slice Ad c.comes.length cap,.slice Ae c.goes.length cape] 46)).alloc (.cells #[.slice none 0 0,.slice none 0 0] 46)).cell? ⟨w.heap.size,0,none⟩=some (.slice Ad c.comes.length cap):=by go_simp
 have x1:((w.alloc (.cells #[.slice Ad c.comes.length cap,.slice Ae c.goes.length cape] 46)).alloc (.cells #[.slice none 0 0,.slice none 0 0] 46)).cell? ⟨w.heap.size,1,none⟩=some (.slice Ae c.goes.length cape):=by go_simp
 go_enter Tryz.func51,Tryz.ntmps51
 go_wp2
 go_region_held3 (fun w'=>w'.cell? ⟨w.heap.size,0,none⟩=some (.slice Ad c.comes.length cap)∧w'.cell? ⟨w.heap.size,1,none⟩=some (.slice Ae c.goes.length cape))
  (first | go_keep | exact ⟨x0,x1⟩)
  (first
   | (have _hh:=B1; go_at_call 36; refine (k2 _ B1).mono ?_; rintro e w2 ⟨hb2,v2,b4,rfl,hR2,hN2⟩; obtain ⟨A2,p2,rfl,_,_⟩:=af hR2; have B2:=B1.trans (hb2.mono B1.size); replace x0:=cell_later hb2 x0; replace x1:=cell_later hb2 x1; have HZ:=η (bG hb2 HZ1.out); have z0:w2.cell? ⟨w.heap.size+1,0,none⟩=some (.slice none 0 0):=aP HZ.out; have z1:w2.cell? ⟨w.heap.size+1,1,none⟩=some (.slice none 0 0):=aP HZ.out; have f0:w2.frozen? ⟨w.heap.size+1,0,none⟩=false:=aF HZ.out; have f1:w2.frozen? ⟨w.heap.size+1,1,none⟩=false:=aF HZ.out; have HF:=η (And.intro (fF (c:=c) HZ.out (ai.below hR1 hb2) hR2) (New.append ((hN1.below hb2).mono hA0.drew.size) hN2 B1.size (ai.lt hR1))); clear hR1 hN1 hR2 hN2)
   | (go_at_call 36; refine (k1 _ hA0.drew).mono ?_; rintro e w1 ⟨hb1,v1,b3,rfl,hR1,hN1⟩; obtain ⟨A1,p1,rfl,_,_⟩:=af hR1; have B1:=hA0.drew.trans (hb1.mono hA0.drew.size); replace x0:=cell_later hb1 x0; replace x1:=cell_later hb1 x1; have HZ1:=η (bG hb1 HZ0.out)))
 go_wp2;refine bodyPost_ret (v:=.agg #[.slice A1 c.comes.length p1,.slice A2 c.goes.length p2]) (by simp [results,Tryz.results51,go_sem,z0,z1]) rfl ⟨(B2.setCell (by simp) _).setCell (by simp) _,_,_,rfl,HF.out.1,(HF.out.2.U3 _ _).U3 _ _⟩
theorem S9:(Tryz.prog.info? 111).map (fun i=>(i.zero,i.size,i.bytes))=some (some (.agg #[.bool false,.string ⟨#[]⟩,.slice none 0 0]),3,48):=by kernel_rfl
theorem JQ (ts:List Pt) (v:Value) (bs:List Nat) (left:Int) (w:World) (h:gm w [v] ts bs) (h0:0≤left) (h1:left≤1048576):
  Calls Tryz.prog 53 #[v,.int .i64 left] w (Left left (oO ts) w.heap.size w):=by
 obtain ⟨Ad,cap,rfl,hl,hm⟩:=af h;have hlm:=au (Nat.le_trans hl hm);have hbk:oO ts=ts.length+bI ny ts:=rfl;have HB:=η hbk;clear hm hbk
 go_enter Tryz.func53,Tryz.ntmps53
 go_wp2
 ·go_ret
  exact ⟨Below.refl _ _,_,rfl,.inl rfl⟩
 ·go_loopw [1,5] (fun l i wr=>∃ (k:Nat) (m:Int),k≤ts.length∧i=.int .i64 k∧l=.int .i64 m∧0≤m∧m≤1048576∧m+ts.length+bI ny (ts.take k)=left∧Below w.heap.size w wr) (fun _ i _=>ts.length - (intOf i).toNat)
  case atStart=>exact ⟨0,_,Nat.zero_le _,rfl,rfl,by assumption,by omega,by simp [bI],Below.refl _ _⟩
  case round=>
   obtain ⟨k,m,hk,rfl,rfl,hm0,hm1,hsum,hb⟩:=hrel;have HS:=η hsum;clear hsum;by_cases hlt:k < ts.length
   ·have hw:=aY.below h hb
    obtain ⟨b,o,Ae,ce,bk,rfl,_,c0,c1,c2,hel,_⟩:=gJ hw hlt;have HT:=η (jG ny ts k hlt);clear h hw;generalize ts[k]=t at *
    go_wp2_with fail
    refine (Nh t _ _ _ bk m _ hel hm0 hm1).mono ?_;rintro e w' ⟨hb',r,rfl,hr⟩;clear hel;go_wp2
    ·rcases hr with rfl | ⟨_,_⟩
     ·go_ret
      exact ⟨hb.trans (hb'.mono hb.size),_,rfl,.inl rfl⟩
     ·exfalso; omega
    ·rcases hr with rfl | ⟨hr0,hr1⟩
     ·exfalso; omega
     ·have:=HS.out
      have:=HT.out;go_roundw
      case rel=>exact ⟨k+1,r,by omega,by go_num,rfl,hr0,by omega,by omega,hb.trans (hb'.mono hb.size)⟩
      case measure=>simp [intOf]; omega
   ·have he:k=ts.length:=by omega
    go_wp2;go_ret;refine ⟨hb,_,rfl,.inr ⟨hm0,?_⟩⟩;have:=HS.out;rw [he,List.take_of_length_le (Nat.le_refl _)] at this;rw [HB.out];omega
theorem JR (ts:List Pt) (v:Value) (bs:List Nat) (w:World) (h:gm w [v] ts bs) (hn:oO ts≤1048576):
  Calls Tryz.prog 62 #[v] w (Makes gm ts w.heap.size w):=by
 obtain ⟨Ad,cap,rfl,hl,hm⟩:=af h;obtain ⟨i0,hi,hz0,hz1,hz2⟩:=info_parts S9;have hn2:ts.length+bI ny ts≤1048576:=hn;clear hm
 go_enter Tryz.func62,Tryz.ntmps62
 go_wp2_with (refine wpList_make_full _ rfl _ _ _ rfl w.heap.size 111 i0 _ 3 Tryz.underlying69 hi hz0 hz1 _ _ _ _ ts.length rfl rfl rfl rfl (by rw [hz2]; omega) (by unfold maxLen; omega) (Nat.le_refl _) ?_; intro w1 hown hgrow)
 have hb1:Below w.heap.size w w1:=(Below.refl _ _).grown hgrow (Nat.le_refl _) (fun _ e=>by cases e);have hg1:w.heap.size < w1.heap.size:=(hown.lt _ rfl).2;clear hgrow
 go_loopw [4] (fun i wr=>∃ (k:Nat) (L:List Value) (bs':List Nat),k≤ts.length∧i=.int .i64 k∧wr.ownsRow w.heap.size 111 3 (.slice (some ⟨w.heap.size,0,none⟩) ts.length ts.length) ts.length L∧
   gX 3 oN w1.heap.size wr L ts k bs'∧Below w.heap.size w wr∧w1.heap.size≤wr.heap.size) (fun i _=>ts.length - (intOf i).toNat)
 case atStart=>exact ⟨0,_,_,Nat.zero_le _,rfl,hown,gX.start,hb1,Nat.le_refl _⟩
 case round=>
  obtain ⟨k,L,bs',hk,rfl,how,hF,hb,hsz⟩:=hrel;clear hown hb1;by_cases hlt:k < ts.length
  ·have hw:=aY.below h hb
   obtain ⟨b,o,Ae,ce,bk,rfl,_,c0,c1,c2,hel,_⟩:=gJ hw hlt;have hle:ny ts[k]≤1048576:=by have:=wR ny ts k hlt; omega
   have HK:=η hF;clear h hw hF;have hL:=η how.1
   go_wp2_with fail
   refine (SL ts[k] _ _ _ bk _ hel hle).mono ?_;rintro e w' ⟨hb',cs',b2,rfl,hR,hN⟩;obtain ⟨Ae',ce',rfl⟩:=Ld hR;have how':=own_below how hb';obtain ⟨⟨u0,hu0⟩,hf0⟩:=jA how' (j:=k * 3) (by omega);obtain ⟨⟨u1,hu1⟩,hf1⟩:=jA how' (j:=k * 3+1) (by omega);obtain ⟨⟨u2,hu2⟩,hf2⟩:=jA how' (j:=k * 3+2) (by omega);obtain ⟨R1,R2,R3,R4⟩:=VE nX how HK.out hlt hb hb' hg1 (Nat.le_refl _) hsz hR hN;clear how' hel hR hN;go_wp2;go_roundw
   case rel=>exact ⟨k+1,_,_,by omega,by go_num,R1,R2,R3,R4⟩
   case measure=>simp [intOf]; omega
  ·have he:k=ts.length:=by omega
   subst he;have HF:=η hF;clear hF;go_wp2;go_ret;obtain ⟨b2,r1,r2,r3,r4⟩:=HF.out.slice how (fun hm=>by have:=(HF.out.new.own _ hm).1; omega);refine ⟨hb,_,b2,rfl,r1,r2,fun b hb'=>⟨?_,r4 b hb'⟩⟩
   rcases r3 b hb' with ⟨rfl,h⟩ | h
   ·exact h
   ·have:=(HF.out.new.own b h).1; omega
end Go.Proofs.YtiidmgchadagbaaGreatDoor
