/- Of the proof of FnDelta: LevS, Fact, ChC. -/
import Derived.Deep.OwnRows
import Derived.Deep.CutRange
import Derived.Test.YtkjinanbccloeaaGreatDoorA14
import Derived.Test.YtkjinanbccloeaaGreatDoorA15
import Derived.Test.YtkjinanbccloeaaGreatDoorA16
set_option linter.unusedVariables false
set_option maxHeartbeats 4000000
set_option maxRecDepth 100000
namespace Go.Proofs.YtkjinanbccloeaaGreatDoor
open Go.RowKit D
attribute [local go_sem ↓] Go.wp_at_zero Go.wp_at_succ
structure D.nJ (w:World) (rs:List Ru) (out:List Nat) (wr:World):Prop where
 blk:wr.heap[w.heap.size]? = some (.cells (EG out) 3 (0,0))
 len:out.length=rs.length
 bel:Below w.heap.size w wr
theorem D.nJ.later {w:World} {rs:List Ru} {out:List Nat} {wr w':World} (h:nJ w rs out wr) (hb:Below wr.heap.size wr w'):nJ w rs out w':=
 ⟨(hb.block _ (ψ h.blk)).trans h.blk,h.len,h.bel.trans (hb.mono h.bel.size)⟩
theorem D.nJ.drewN {w:World} {rs:List Ru} {out:List Nat} {wr:World} (h:nJ w rs out wr) (n:Nat):nJ w rs out (wr.drewN n):=⟨h.blk,h.len,below_drewN h.bel n⟩
theorem D.nJ.set {w:World} {rs:List Ru} {out:List Nat} {wr:World} (h:nJ w rs out wr) (i v:Nat):nJ w rs (out.set i v) (wr.setCell ⟨w.heap.size,i,none⟩ (.int .i64 (v:Nat))):=
 ⟨by rw [← Ik]; exact bW h.blk,by rw [List.length_set]; exact h.len,h.bel.setCell ν _⟩
theorem D.nJ.at {w:World} {rs:List Ru} {out:List Nat} {wr:World} (h:nJ w rs out wr) {i:Nat} (y:i < rs.length):wr.cell? ⟨w.heap.size,i,none⟩=some (.int .i64 (iV out i:Nat)):=by
 rw [ai h.blk]; exact DJ (by rw [h.len]; exact y)
theorem D.nJ.free {w:World} {rs:List Ru} {out:List Nat} {wr:World} (h:nJ w rs out wr) (o:Nat):wr.frozen? ⟨w.heap.size,o,none⟩=false:=ax h.blk
theorem D.OJ {out:List Nat} {i v c d:Nat} (h:∀ x,iV out x≤c) (hv:v≤d) (hc:c≤d):∀ x,iV (out.set i v) x≤d:=fun x=>by
 by_cases y:i < out.length
 ·rw [pJ y]
  split
  ·exact hv
  ·exact τ (h x) hc
 ·rw [List.set_eq_of_length_le (by omega)]; exact τ (h x) hc
theorem D.Gu {rs:List Ru} {i:Nat} (h:i < rs.length):dV rs i=rs[i]:=by unfold dV; rw [List.getD_eq_getElem?_getD,Ψ h]; rfl
theorem D.D9 {β:Type} (f:β→Nat→β) (b:β) (k:Nat):(List.range (k+1)).foldl f b=f ((List.range k).foldl f b) k:=by rw [List.range_succ,List.foldl_append]; rfl
theorem D.Ri {α β:Type} (f:β→α→β) (b:β) (xs:List α) (k:Nat) (h:k < xs.length):(xs.take (k+1)).foldl f b=f ((xs.take k).foldl f b) xs[k]:=by rw [ρ h,List.foldl_append]; rfl
theorem yI (rs:List Ru) (v:Value) (bs:List Nat) (w:World) (h:eu w [v] rs bs) (hf:rs.length≤8) (hok:rs.all fC=true):
  Calls Tryz.prog 109 #[v] w fun e w'=>Below w.heap.size w w'∧e=.returned (.slice (some ⟨w.heap.size,0,none⟩) rs.length rs.length)∧nJ w rs (ay rs) w'∧∀ i,iV (ay rs) i≤1000000:=by
 obtain ⟨Ad,cap,rfl,hl,hm⟩:=aj h;have bX:=aA (τ hl hm);have b2:=fun w'=>run_make_row' (P:=Tryz.prog) 49 3 (.int .i64 0) 8 Tryz.underlying49 CB rfl .i64 .i64 rs.length (by omega) (by omega) w'
 simp only [DK] at b2;have b3:Hid (nJ w rs (zl rs 0) (w.alloc (.cells (EG (List.replicate rs.length 0)) 3))):=η ⟨ω _ _,by simp [zl],ζ⟩;have b5:Hid (∀ x,iV (zl rs 0) x≤256 * 0):=η fun x=>by unfold zl; rw [DN]; omega
 obtain ⟨N1,ar⟩:∃ N1:Nat,N1=(rs.length+1) * (rs.length+2):=⟨_,rfl⟩;have hmul:((rs.length:Int)+1) * ((rs.length:Int)+2)=(N1:Int):=by rw [ar]; simp
 have bB:N1≤90:=by rw [ar]; exact Nat.mul_le_mul (show rs.length+1≤9 by omega) (show rs.length+2≤10 by omega)
 have b6:Hid (ay rs=zl rs N1):=η (by rw [ar]; rfl);have bh:=η hok;have bE:(rs.length:Int)≤8:=by omega
 clear hl hm hok ar
 go_enter Tryz.func109,Tryz.ntmps109
 go_wp2;generalize w.alloc (.cells (EG (List.replicate rs.length 0)) 3)=w0 at *;clear b2
 go_loopw [4] (fun i wr=>∃ (m:Nat) (out:List Nat),m≤N1∧i=.int .i64 m∧out=zl rs m∧nJ w rs out wr∧∀ x,iV out x≤256 * m) (fun i _=>N1 - (intOf i).toNat)
 case atStart=>exact ⟨0,_,ε,rfl,rfl,b3.out,b5.out⟩
 case round=>
  obtain ⟨m,out,hm,rfl,ho,y,hmx⟩:=hrel;clear b3 b5;by_cases bj:m < N1
  ·have c3:(0:Int)≤(m:Int):=by omega
   have bl:(m:Int) < (N1:Int):=by omega
   have HI:=η y;have I:=η hmx;have HO:=η ho;clear ho y hmx;go_wp2
   go_loopw [5] (fun v wr=>∃ (i:Nat) (o2:List Nat),i≤rs.length∧v=.int .i64 i∧o2=(List.range i).foldl (Qu rs) out∧nJ w rs o2 wr∧∀ x,iV o2 x≤256 * m+32 * i) (fun i _=>rs.length - (intOf i).toNat)
   case atStart=>exact ⟨0,out,ε,rfl,rfl,HI.out,I.out⟩
   case round=>
    clear HI I;obtain ⟨i,o2,hi,rfl,ho,y,hmx⟩:=hrel;by_cases a5:i < rs.length
    ·obtain ⟨b0,o0,Ai,ci,Bi,di,c4,rfl,_,i0,i1,i2,aD,_⟩:=iP h a5
     have bn:=η (D9 (Qu rs) out i);obtain ⟨_,c5,_,_,aE⟩:=jm aD;have bo:=η aE;have bL:=(lD (List.all_eq_true.1 bh.out _ (δ a5))).1;have bp:=η (Gu a5);have c6:(0:Int)≤(i:Int):=by omega
     have bq:(i:Int) < (rs.length:Int):=by omega
     have HI:=η y;have I:=η hmx;have br:=η ho;have a7:=η a5;clear aD aE ho y hmx;generalize rs[i]=ri at *;clear a5;obtain ⟨⟨hin,c7⟩,bi⟩:=ri;dsimp only at *;go_wp2
     go_loopw [6] (fun v wr=>∃ (k:Nat) (o3:List Nat),k≤rs.length∧v=.int .i64 k∧o3=(List.range k).foldl (xO rs i) o2∧nJ w rs o3 wr∧∀ x,iV o3 x≤256 * m+32 * i+4 * k) (fun i _=>rs.length - (intOf i).toNat)
     case atStart=>exact ⟨0,o2,ε,rfl,rfl,HI.out,I.out⟩
     case round=>
      clear HI I;obtain ⟨k,o3,c8,rfl,ho,y,hmx⟩:=hrel;by_cases af:k < rs.length
      ·obtain ⟨b9,o9,Ak,ck,Bk,dk,c9,e9,_,k0,k1,k2,b7,_⟩:=iP h af
       obtain ⟨rfl,rfl⟩:b0=b9∧o0=o9:=by simpa using e9
       have a5:=a7.out;have j0:=ξ y.bel i0;have j2:=ξ y.bel i2;have I2:=η i2;have K0:=η k0;replace k0:=ξ y.bel k0;have bt:=η (D9 (xO rs i) o2 k);have bu:=η (Gu af);have a1:=y.at af;have a2:=y.at a5;have fz:=y.free i;have av:=hmx k;have aw:=hmx i;have ca:(0:Int)≤(k:Int):=by omega
       have bv:(k:Int) < (rs.length:Int):=by omega
       have HI:=η y;have I:=η hmx;have bw:=η ho;have ac:=η af;clear b7 ho y hmx e9 k1 k2;generalize rs[k]=rk at *;clear af a5;obtain ⟨⟨hk,cb⟩,bk⟩:=rk;dsimp only at *;obtain ⟨a,ha⟩:∃ a,a=iV o3 k:=⟨_,rfl⟩;obtain ⟨b,hb⟩:∃ b,b=iV o3 i:=⟨_,rfl⟩;rw [← ha] at a1 av;rw [← hb] at a2 aw;have HA:=η ha;have a3:=η hb;clear ha hb
       go_upto_region 11 with (fail)
       go_cut [59] from 30 to 121 (fun c wx=>c=.bool (decide (hk=hin) && decide (b < a))∧nJ w rs o3 wx)
       case first=>
        skip
        cases hs:(hk.toList == hin.toList)
        ·have HD:Hid ((decide (hk=hin) && decide (b < a))=false):=η (by rw [← pK,hs]; rfl)
         go_quiet (fail)
         go_wp2
         go_meet
         case rel=>exact ⟨by rw [HD.out],HI.out.drewN _⟩
        ·by_cases J:b < a
         ·have HD:Hid ((decide (hk=hin) && decide (b < a))=true):=η (by rw [← pK,hs]; simp [J])
          have ag:(b:Int) < (a:Int):=by omega
          clear J
          go_quiet (fail)
          go_wp2
          go_meet
          case rel=>exact ⟨by rw [HD.out],HI.out.drewN _⟩
         ·have HD:Hid ((decide (hk=hin) && decide (b < a))=false):=η (by rw [← pK,hs]; simp [J])
          have ag:¬ (b:Int) < (a:Int):=by omega
          clear J
          go_quiet (fail)
          go_wp2
          go_meet
          case rel=>exact ⟨by rw [HD.out],HI.out.drewN _⟩
       case rest=>
        obtain ⟨rfl,y⟩:=hcut;clear a1 a2 fz HI j0 j2 k0;have a1:=y.at ac.out;have a2:=y.at a7.out;have fz:=y.free i;rw [← HA.out] at a1;rw [← a3.out] at a2;have HI:=η y;have bx:w.heap.size < wc.heap.size:=ψ y.blk;clear y;obtain ⟨c,hc⟩:∃ c,c=(decide (hk=hin) && decide (b < a)):=⟨_,rfl⟩;rw [← hc];have HC:=η hc;clear hc
        go_upto_if 59 with (fail)
        go_cut [] from 30 to 121 (fun wx=>nJ w rs (nP hin hk i k o3) wx)
        case first=>
         cases c
         ·have am:Hid (nP hin hk i k o3=o3):=η (by
           unfold nP; rw [if_neg]; rintro ⟨e,h⟩; have:=HC.out; rw [e,a3.out,HA.out] at this; simp at this; omega)
          go_wp2
          go_meet
          case rel=>rw [am.out]; exact HI.out
         ·have am:Hid (nP hin hk i k o3=o3.set i a):=η (by
           have:=HC.out.symm;simp only [ο,decide_eq_true_eq] at this
           unfold nP; rw [if_pos ⟨this.1,by rw [← HA.out,← a3.out]; exact this.2⟩,HA.out])
          have bO:=a7.out;have bR:=ac.out;go_wp2
          go_meet
          case rel=>rw [am.out]; exact HI.out.set i a
        case rest=>
         have aL:=η hcut
         have ao:Hid (∀ x,iV (nP hin hk i k o3) x≤256 * m+32 * i+4 * k):=η (by
          unfold nP; split
          ·exact OJ I.out (I.out k) ν
          ·exact I.out)
         clear hcut a1 a2 fz HI;obtain ⟨o4,aM⟩:∃ o4,o4=nP hin hk i k o3:=⟨_,rfl⟩;have am:=η aM.symm;rw [← aM] at aL ao;clear aM;go_wp2
         go_loopw [7] (fun v wr=>∃ (j:Nat) (out:List Nat),j≤bi.length∧v=.int .i64 j∧out=(bi.take j).foldl (kV rs.length hk i k) o4∧nJ w rs out wr∧∀ x,iV out x≤256 * m+32 * i+4 * k+j) (fun i _=>bi.length - (intOf i).toNat)
         case atStart=>exact ⟨0,_,ε,rfl,rfl,aL.out,ao.out⟩
         case round=>
          clear aL ao I av aw HA a3;obtain ⟨j,out,hj,rfl,ho,y,hmx⟩:=hrel;have j2:=ξ y.bel I2.out;by_cases az:j < bi.length
          ·have k0:=ξ y.bel K0.out
           have cc:b0 < wr.heap.size:=lt_of_cell k0;obtain ⟨b4,o5,Ag,cg,bg,rfl,_,f0,f1,f2,bz,_⟩:=jd bo.out az;replace f0:=ξ y.bel f0;replace f1:=ξ y.bel f1;replace f2:=ξ y.bel f2;have cd:(0:Int)≤(j:Int):=by omega
           have bA:(j:Int) < (bi.length:Int):=by omega
           have a8:=η (Ri (kV rs.length hk i k) o4 bi j az);have hA:Below wr.heap.size wr (wr.alloc (.cells #[.bool bi[j].no,.string bi[j].atom.name,.slice Ag bi[j].atom.args.length cg] 42)):=ζ;have a1:=y.at ac.out;have a2:=y.at a7.out;have fz:=y.free i;have av:=hmx k;have aw:=hmx i;have b8:=ac.out;have bc:=a7.out;have a9:=η (y.later hA);have aa:=η y;have I:=η hmx;have ab:=η ho;have bx:w.heap.size < wr.heap.size:=ψ y.blk;clear bz ho y hmx hA;have a0:=η az;generalize bi[j]=p at *;clear az;obtain ⟨no,⟨pn,U⟩⟩:=p;dsimp only at *;obtain ⟨a,ha⟩:∃ a,a=iV out k:=⟨_,rfl⟩;obtain ⟨b,hb⟩:∃ b,b=iV out i:=⟨_,rfl⟩;rw [← ha] at a1 av;rw [← hb] at a2 aw;have HA:=η ha;have a3:=η hb;clear ha hb b8 bc;cases hq:(pn.toList == hk.toList)
           ·have a4:Hid (kV rs.length hk i k out ⟨no,⟨pn,U⟩⟩=out):=η (by unfold kV; rw [if_neg]; intro e; have e:pn=hk:=e; rw [e] at hq; simp at hq)
            clear aa;go_wp2
            go_quiet (fail)
            go_wp2;go_roundw
            case rel=>exact ⟨j+1,out,a0.out,by go_num,by rw [a8.out,← ab.out,a4.out],a9.out.drewN _,fun x=>τ (I.out x) (by omega)⟩
            case measure=>have:=a0.out; simp [intOf]; omega
           ·have ae:Hid (pn=hk):=η (by have:=pK pn hk; rw [hq] at this; exact of_decide_eq_true this.symm)
            cases no
            ·by_cases J:b < a
             ·have bf:(b:Int) < (a:Int):=by omega
              by_cases a6:b≤rs.length
              ·have aq:(b:Int)≤(rs.length:Int):=by omega
               have a4:Hid (kV rs.length hk i k out ⟨false,⟨pn,U⟩⟩=out.set i (a)):=η (by
                unfold kV; rw [if_pos ae.out,if_pos ⟨by simp only [Cm]; rw [← HA.out,← a3.out]; simpa using J,by rw [← a3.out]; exact a6⟩]; simp only [Cm]; rw [HA.out]; rfl)
               have aR:Hid (∀ x,iV (out.set i (a)) x≤256 * m+32 * i+4 * k+(j+1)):=η (OJ I.out (by have:=I.out k; rw [← HA.out] at this; omega) (by omega));clear aa J a6;go_wp2
               go_quiet (fail)
               have b1:=η ((a9.out.drewN nq).set i (a));go_wp2;go_roundw
               case rel=>exact ⟨j+1,_,a0.out,by go_num,by rw [a8.out,← ab.out,a4.out],b1.out,aR.out⟩
               case measure=>have:=a0.out; simp [intOf]; omega
              ·have aq:¬ (b:Int)≤(rs.length:Int):=by omega
               have a4:Hid (kV rs.length hk i k out ⟨false,⟨pn,U⟩⟩=out):=η (by
                unfold kV; rw [if_pos ae.out,if_neg fun h=>a6 (by have:=h.2; rw [← a3.out] at this; exact this)])
               clear aa J a6;go_wp2
               go_quiet (fail)
               go_wp2;go_roundw
               case rel=>exact ⟨j+1,out,a0.out,by go_num,by rw [a8.out,← ab.out,a4.out],a9.out.drewN _,fun x=>τ (I.out x) (by omega)⟩
               case measure=>have:=a0.out; simp [intOf]; omega
             ·have ag:¬ (b:Int) < (a:Int):=by omega
              have a4:Hid (kV rs.length hk i k out ⟨false,⟨pn,U⟩⟩=out):=η (by
                unfold kV; rw [if_pos ae.out,if_neg fun h=>J (by have:=h.1; simp only [Cm] at this; rw [← HA.out,← a3.out] at this; simpa using this)])
              clear aa J;go_wp2
              go_quiet (fail)
              go_wp2;go_roundw
              case rel=>exact ⟨j+1,out,a0.out,by go_num,by rw [a8.out,← ab.out,a4.out],a9.out.drewN _,fun x=>τ (I.out x) (by omega)⟩
              case measure=>have:=a0.out; simp [intOf]; omega
            ·by_cases J:b < a+1
             ·have bf:(b:Int) < (a:Int)+1:=by omega
              by_cases a6:b≤rs.length
              ·have aq:(b:Int)≤(rs.length:Int):=by omega
               have a4:Hid (kV rs.length hk i k out ⟨true,⟨pn,U⟩⟩=out.set i (a+1)):=η (by
                unfold kV; rw [if_pos ae.out,if_pos ⟨by simp only [Cm]; rw [← HA.out,← a3.out]; simpa using J,by rw [← a3.out]; exact a6⟩]; simp only [Cm]; rw [HA.out]; rfl)
               have aR:Hid (∀ x,iV (out.set i (a+1)) x≤256 * m+32 * i+4 * k+(j+1)):=η (OJ I.out (by have:=I.out k; rw [← HA.out] at this; omega) (by omega));clear aa J a6;go_wp2
               go_quiet (fail)
               have b1:=η ((a9.out.drewN nq).set i (a+1));go_wp2;go_roundw
               case rel=>exact ⟨j+1,_,a0.out,by go_num,by rw [a8.out,← ab.out,a4.out],b1.out,aR.out⟩
               case measure=>have:=a0.out; simp [intOf]; omega
              ·have aq:¬ (b:Int)≤(rs.length:Int):=by omega
               have a4:Hid (kV rs.length hk i k out ⟨true,⟨pn,U⟩⟩=out):=η (by
                unfold kV; rw [if_pos ae.out,if_neg fun h=>a6 (by have:=h.2; rw [← a3.out] at this; exact this)])
               clear aa J a6;go_wp2
               go_quiet (fail)
               go_wp2;go_roundw
               case rel=>exact ⟨j+1,out,a0.out,by go_num,by rw [a8.out,← ab.out,a4.out],a9.out.drewN _,fun x=>τ (I.out x) (by omega)⟩
               case measure=>have:=a0.out; simp [intOf]; omega
             ·have ag:¬ (b:Int) < (a:Int)+1:=by omega
              have a4:Hid (kV rs.length hk i k out ⟨true,⟨pn,U⟩⟩=out):=η (by
                unfold kV; rw [if_pos ae.out,if_neg fun h=>J (by have:=h.1; simp only [Cm] at this; rw [← HA.out,← a3.out] at this; simpa using this)])
              clear aa J;go_wp2
              go_quiet (fail)
              go_wp2;go_roundw
              case rel=>exact ⟨j+1,out,a0.out,by go_num,by rw [a8.out,← ab.out,a4.out],a9.out.drewN _,fun x=>τ (I.out x) (by omega)⟩
              case measure=>have:=a0.out; simp [intOf]; omega
          ·have he:j=bi.length:=by omega
           have bA:¬ (j:Int) < (bi.length:Int):=by omega
           have HZ:Hid (out=(List.range (k+1)).foldl (xO rs i) o2∧nJ w rs out wr∧∀ x,iV out x≤256 * m+32 * i+4 * (k+1)):=η ⟨by
            rw [bt.out,← bw.out,ho,he,ϕ ν];unfold xO;rw [bp.out,bu.out];show _=List.foldl _ (nP hin hk i k o3) bi
            rw [am.out],y,fun x=>τ (hmx x) (by omega)⟩
           clear ho y hmx he;go_wp2;go_roundw
           case rel=>exact ⟨k+1,out,ac.out,by go_num,HZ.out.1,HZ.out.2.1,HZ.out.2.2⟩
           case measure=>have:=ac.out; simp [intOf]; omega
      ·have he:k=rs.length:=by omega
       have bv:¬ (k:Int) < (rs.length:Int):=by omega
       have HZ:Hid (o3=(List.range (i+1)).foldl (Qu rs) out∧nJ w rs o3 wr∧∀ x,iV o3 x≤256 * m+32 * (i+1)):=η ⟨by rw [bn.out,← br.out,ho,he]; rfl,y,fun x=>τ (hmx x) (by omega)⟩;have a5:=a7.out;clear ho y hmx he;go_wp2;go_roundw
       case rel=>exact ⟨i+1,o3,a7.out,by go_num,HZ.out.1,HZ.out.2.1,HZ.out.2.2⟩
       case measure=>have:=a7.out; simp [intOf]; omega
    ·have he:i=rs.length:=by omega
     have bq:¬ (i:Int) < (rs.length:Int):=by omega
     have HZ:Hid (o2=zl rs (m+1)∧nJ w rs o2 wr∧∀ x,iV o2 x≤256 * (m+1)):=η ⟨by rw [ho,he,HO.out]; rfl,y,fun x=>τ (hmx x) (by omega)⟩;clear ho y hmx he;go_wp2;go_roundw
     case rel=>exact ⟨m+1,o2,bj,by go_num,HZ.out.1,HZ.out.2.1,HZ.out.2.2⟩
     case measure=>simp [intOf]; omega
  ·have he:m=N1:=by omega
   have bl:¬ (m:Int) < (N1:Int):=by omega
   have HZ:Hid (nJ w rs (ay rs) wr∧∀ i,iV (ay rs) i≤1000000):=η (by rw [b6.out,← he,← ho]; exact ⟨y,fun x=>τ (hmx x) (by omega)⟩);clear ho y hmx he;go_wp2;go_ret;exact ⟨HZ.out.1.bel,rfl,HZ.out⟩
theorem Rj (t:T) (w:World):
  Calls Tryz.prog 129 #[.agg #[.bool t.var,.string t.name]] w fun e w'=>e=.returned (.bool t.var)∧Below w.heap.size w w':=by
 go_enter Tryz.func129,Tryz.ntmps129
 go_wp2;go_ret;exact ⟨rfl,ζ⟩
def Found (b:Bool) (w:World) (e:Ending) (w':World):Prop:=(∃ z:Int,e=.returned (.int .i64 z)∧decide (0≤z)=b)∧Below w.heap.size w w'
theorem Iw (y:List T) (v:Value) (bs:List Nat) (w:World) (h:gm w [v] y bs):
  Calls Tryz.prog 185 #[v,.func (.func 129) #[] #[]] w (Found (kN y) w):=by
 obtain ⟨Ad,cap,rfl,hl,hm⟩:=aj h;have a0:=aA (τ hl hm);clear hm
 go_enter Tryz.func185,Tryz.ntmps185
 go_wp2
 go_loopw [8] (fun i wr=>∃ k:Nat,k≤y.length∧i=.int .i64 k∧kN (y.take k)=false∧Below w.heap.size w wr) (fun i _=>y.length - (intOf i).toNat)
 case atStart=>exact ⟨0,ε,rfl,rfl,ϑ⟩
 case round=>
  obtain ⟨k,hk,rfl,I,hb⟩:=hrel;have HA:=η I;clear I;by_cases J:k < y.length
  ·obtain ⟨b,o,rfl,_,c0,c1,_⟩:=fF (aP.below h hb) J
   clear h
   go_wp2_with fail
   refine (Rj y[k] _).mono ?_;rintro e w' ⟨rfl,U⟩;have B':=hb.trans (U.mono hb.size);cases hv:y[k].var
   ·have HV:=η hv
    go_wp2;go_roundw
    case rel=>exact ⟨k+1,by omega,by go_num,by rw [zZ y k J,HA.out,HV.out]; rfl,B'⟩
    case measure=>simp [intOf]; omega
   ·have HV:=η (CO y k J hv)
    go_wp2;go_ret;exact ⟨⟨_,rfl,by rw [HV.out]; simp⟩,B'⟩
  ·have he:=η (show k=y.length by omega)
   go_wp2;go_ret;exact ⟨⟨_,rfl,by have:=HA.out; rw [he.out,ϕ ν] at this; rw [this]; rfl⟩,hb⟩
theorem BX (y:List T) (v:Value) (bs:List Nat) (w:World) (h:gm w [v] y bs):
  Calls Tryz.prog 128 #[v,.func (.func 129) #[] #[]] w fun e w'=>e=.returned (.bool (kN y))∧Below w.heap.size w w':=by
 have J:=Iw y v bs w h;clear h
 go_enter Tryz.func128,Tryz.ntmps128
 go_wp2_with fail
 refine J.mono ?_;rintro e w' ⟨⟨z,rfl,I⟩,hb⟩;have U:=η I;clear I;go_wp2;go_ret;exact ⟨aG U.out,hb⟩
theorem OL (a:A) (c0 c1:Value) (bs:List Nat) (w:World) (h:aJ w [c0,c1] a bs):
  Calls Tryz.prog 65 #[.agg #[c0,c1]] w fun e w'=>e=.returned (.bool (dN a))∧Below w.heap.size w w':=by
 obtain ⟨Ad,cap,rfl,rfl⟩:=bG h;have k1:=fun w' (hb:Below w.heap.size w w')=>tX a _ _ bs w' (au.below h hb)
 have k2:=fun w' (hb:Below w.heap.size w w')=>BX a.args _ bs w' (dI (au.below h hb))
 unfold dN;generalize aZ a=x at *;generalize kN a.args=y at *;clear h;have J:=(Below.refl w.heap.size w).alloc ν (.cells #[.string a.name,.slice Ad a.args.length cap] 33)
 go_enter Tryz.func65,Tryz.ntmps65
 go_wp2_with fail
 refine (k1 _ J).mono ?_;rintro e w1 ⟨rfl,I⟩;have U:=J.trans (I.mono J.size);have x1:w1.cell? ⟨w.heap.size,1,none⟩=some (.slice Ad a.args.length cap):=ξ I (by go_simp);clear k1 J;cases x
 ·go_wp2
  go_ret;exact ⟨rfl,U⟩
 ·go_wp2_with fail
  refine (k2 _ U).mono ?_;rintro e w2 ⟨rfl,a0⟩;go_wp2;go_ret;exact ⟨aG (by simp),U.trans (a0.mono U.size)⟩
theorem Ea (c:Ch) (c0 c1:Value) (bs:List Nat) (w:World) (h:fQ w [c0,c1] c bs) (h1:DU c.comes) (h2:DU c.goes):
  Calls Tryz.prog 77 #[.agg #[c0,c1]] w (XI c w.heap.size w):=by
 obtain ⟨Ad,cap,Ae,y,rfl,rfl⟩:=gy h;obtain ⟨b1,b2,rfl,ht,hp⟩:=iG h;have k1:=fun w' (hb:Below w.heap.size w w')=>mX c.comes _ b1 w' (ak.below ht hb) (τ h1.1 (by omega)) h1.2
 have k2:=fun w' (hb:Below w.heap.size w w')=>mX c.goes _ b2 w' (ak.below hp hb) (τ h2.1 (by omega)) h2.2
 clear h ht hp h1 h2;have J:Below w.heap.size w ((w.alloc (.cells #[.slice Ad c.comes.length cap,.slice Ae c.goes.length y] 54)).alloc (.cells #[.slice none 0 0,.slice none 0 0] 54)):=(ζ).alloc (by simp) _;have a4:=η (Ut (Ws w (.cells #[.slice Ad c.comes.length cap,.slice Ae c.goes.length y] 54) (.cells #[.slice none 0 0,.slice none 0 0] 54)));have x0:((w.alloc (.cells #[.slice Ad c.comes.length cap,.slice Ae c.goes.length y] 54)).alloc (.cells #[.slice none 0 0,.slice none 0 0] 54)).cell? ⟨w.heap.size,0,none⟩=some (.slice Ad c.comes.length cap):=by go_simp
 have x1:((w.alloc (.cells #[.slice Ad c.comes.length cap,.slice Ae c.goes.length y] 54)).alloc (.cells #[.slice none 0 0,.slice none 0 0] 54)).cell? ⟨w.heap.size,1,none⟩=some (.slice Ae c.goes.length y):=by go_simp
 go_enter Tryz.func77,Tryz.ntmps77
 go_wp2
 go_region_held3 (fun w'=>w'.cell? ⟨w.heap.size,0,none⟩=some (.slice Ad c.comes.length cap)∧w'.cell? ⟨w.heap.size,1,none⟩=some (.slice Ae c.goes.length y))
  (first | go_keep | exact ⟨x0,x1⟩)
  (first
   | (have a6:=B1; go_at_call 54; refine (k2 _ B1).mono ?_; rintro e w2 ⟨I,v2,b4,rfl,a1,a2⟩; obtain ⟨A2,p2,rfl,_,_⟩:=aj a1; have B2:=B1.trans (I.mono B1.size); replace x0:=ξ I x0; replace x1:=ξ I x1; have HZ:=η (eX I a5.out); have z0:w2.cell? ⟨w.heap.size+1,0,none⟩=some (.slice none 0 0):=dB HZ.out; have z1:w2.cell? ⟨w.heap.size+1,1,none⟩=some (.slice none 0 0):=dB HZ.out; have f0:w2.frozen? ⟨w.heap.size+1,0,none⟩=false:=bJ HZ.out; have f1:w2.frozen? ⟨w.heap.size+1,1,none⟩=false:=bJ HZ.out; have HF:=η (ι (fK (c:=c) HZ.out (ak.below U I) a1) (New.append ((a3.below I).mono J.drew.size) a2 B1.size (ak.lt U))); clear U a3 a1 a2)
   | (go_at_call 54; refine (k1 _ J.drew).mono ?_; rintro e w1 ⟨a0,v1,b3,rfl,U,a3⟩; obtain ⟨A1,p1,rfl,_,_⟩:=aj U; have B1:=J.drew.trans (a0.mono J.drew.size); replace x0:=ξ a0 x0; replace x1:=ξ a0 x1; have a5:=η (eX a0 a4.out)))
 go_wp2;refine bodyPost_ret (v:=.agg #[.slice A1 c.comes.length p1,.slice A2 c.goes.length p2]) (by simp [results,Tryz.results77,go_sem,z0,z1]) rfl ⟨(B2.setCell (by simp) _).setCell (by simp) _,_,_,rfl,HF.out.1,(HF.out.2.Yf _ _).Yf _ _⟩
end Go.Proofs.YtkjinanbccloeaaGreatDoor
