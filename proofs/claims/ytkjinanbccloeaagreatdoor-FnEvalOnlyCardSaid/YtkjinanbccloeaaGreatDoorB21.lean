/- Of the proof of FnEvalOnly: LevS, Fact. -/
import Derived.Deep.OwnRows
import Derived.Deep.CutRange
import Derived.Test.YtkjinanbccloeaaGreatDoorB13
import Derived.Test.YtkjinanbccloeaaGreatDoorB14
import Derived.Test.YtkjinanbccloeaaGreatDoorB15
set_option linter.unusedVariables false
set_option maxHeartbeats 4000000
set_option maxRecDepth 100000
namespace Go.Proofs.YtkjinanbccloeaaGreatDoor
open Go.RowKit D
attribute [local go_sem ↓] Go.wp_at_zero Go.wp_at_succ
structure D.lV (w:World) (rs:List Ru) (out:List Nat) (wr:World):Prop where
 blk:wr.heap[w.heap.size]? = some (.cells (uM out) 3 (0,0))
 len:out.length=rs.length
 bel:Below w.heap.size w wr
theorem D.lV.later {w:World} {rs:List Ru} {out:List Nat} {wr w':World} (h:lV w rs out wr) (y:Below wr.heap.size wr w'):lV w rs out w':=
 ⟨(y.block _ (ψ h.blk)).trans h.blk,h.len,h.bel.trans (y.mono h.bel.size)⟩
theorem D.lV.drewN {w:World} {rs:List Ru} {out:List Nat} {wr:World} (h:lV w rs out wr) (n:Nat):lV w rs out (wr.drewN n):=⟨h.blk,h.len,below_drewN h.bel n⟩
theorem D.lV.set {w:World} {rs:List Ru} {out:List Nat} {wr:World} (h:lV w rs out wr) (i v:Nat):lV w rs (out.set i v) (wr.setCell ⟨w.heap.size,i,none⟩ (.int .i64 (v:Nat))):=
 ⟨by rw [← zV]; exact bK h.blk,by rw [List.length_set]; exact h.len,h.bel.setCell ν _⟩
theorem D.lV.at {w:World} {rs:List Ru} {out:List Nat} {wr:World} (h:lV w rs out wr) {i:Nat} (y:i < rs.length):wr.cell? ⟨w.heap.size,i,none⟩=some (.int .i64 (fU out i:Nat)):=by
 rw [ai h.blk]; exact uN (by rw [h.len]; exact y)
theorem D.lV.free {w:World} {rs:List Ru} {out:List Nat} {wr:World} (h:lV w rs out wr) (o:Nat):wr.frozen? ⟨w.heap.size,o,none⟩=false:=ax h.blk
theorem D.Nz {out:List Nat} {i v c d:Nat} (h:∀ x,fU out x≤c) (hv:v≤d) (hc:c≤d):∀ x,fU (out.set i v) x≤d:=fun x=>by
 by_cases y:i < out.length
 ·rw [nY y]
  split
  ·exact hv
  ·exact τ (h x) hc
 ·rw [List.set_eq_of_length_le (by omega)]; exact τ (h x) hc
theorem D.FY {rs:List Ru} {i:Nat} (h:i < rs.length):dH rs i=rs[i]:=by unfold dH; rw [List.getD_eq_getElem?_getD,Ψ h]; rfl
theorem D.Dp {β:Type} (f:β→Nat→β) (b:β) (k:Nat):(List.range (k+1)).foldl f b=f ((List.range k).foldl f b) k:=by rw [List.range_succ,List.foldl_append]; rfl
theorem D.P8 {α β:Type} (f:β→α→β) (b:β) (xs:List α) (k:Nat) (h:k < xs.length):(xs.take (k+1)).foldl f b=f ((xs.take k).foldl f b) xs[k]:=by rw [ρ h,List.foldl_append]; rfl
theorem wU (rs:List Ru) (v:Value) (bs:List Nat) (w:World) (h:dS w [v] rs bs) (hf:rs.length≤8) (hok:rs.all dN=true):
  Calls Tryz.prog 109 #[v] w fun e w'=>Below w.heap.size w w'∧e=.returned (.slice (some ⟨w.heap.size,0,none⟩) rs.length rs.length)∧lV w rs (ay rs) w'∧∀ i,fU (ay rs) i≤1000000:=by
 obtain ⟨Ad,cap,rfl,hl,hm⟩:=ak h;have bR:=aA (τ hl hm);have b1:=fun w'=>run_make_row' (P:=Tryz.prog) 49 3 (.int .i64 0) 8 Tryz.underlying49 wL rfl .i64 .i64 rs.length (by omega) (by omega) w'
 simp only [wH] at b1;have b2:Hid (lV w rs (xR rs 0) (w.alloc (.cells (uM (List.replicate rs.length 0)) 3))):=η ⟨ω _ _,by simp [xR],ζ⟩;have b3:Hid (∀ x,fU (xR rs 0) x≤256 * 0):=η fun x=>by unfold xR; rw [CZ]; omega
 obtain ⟨N1,aq⟩:∃ N1:Nat,N1=(rs.length+1) * (rs.length+2):=⟨_,rfl⟩;have hmul:((rs.length:Int)+1) * ((rs.length:Int)+2)=(N1:Int):=by rw [aq]; simp
 have bA:N1≤90:=by rw [aq]; exact Nat.mul_le_mul (show rs.length+1≤9 by omega) (show rs.length+2≤10 by omega)
 have b5:Hid (ay rs=xR rs N1):=η (by rw [aq]; rfl);have bf:=η hok;have bB:(rs.length:Int)≤8:=by omega
 clear hl hm hok aq
 go_enter Tryz.func109,Tryz.ntmps109
 go_wp2;generalize w.alloc (.cells (uM (List.replicate rs.length 0)) 3)=w0 at *;clear b1
 go_loopw [4] (fun i wr=>∃ (m:Nat) (out:List Nat),m≤N1∧i=.int .i64 m∧out=xR rs m∧lV w rs out wr∧∀ x,fU out x≤256 * m) (fun i _=>N1 - (intOf i).toNat)
 case atStart=>exact ⟨0,_,ε,rfl,rfl,b2.out,b3.out⟩
 case round=>
  obtain ⟨m,out,hm,rfl,ho,y,hmx⟩:=hrel;clear b2 b3;by_cases bh:m < N1
  ·have bX:(0:Int)≤(m:Int):=by omega
   have bj:(m:Int) < (N1:Int):=by omega
   have HI:=η y;have I:=η hmx;have HO:=η ho;clear ho y hmx;go_wp2
   go_loopw [5] (fun v wr=>∃ (i:Nat) (o2:List Nat),i≤rs.length∧v=.int .i64 i∧o2=(List.range i).foldl (Pg rs) out∧lV w rs o2 wr∧∀ x,fU o2 x≤256 * m+32 * i) (fun i _=>rs.length - (intOf i).toNat)
   case atStart=>exact ⟨0,out,ε,rfl,rfl,HI.out,I.out⟩
   case round=>
    clear HI I;obtain ⟨i,o2,hi,rfl,ho,y,hmx⟩:=hrel;by_cases a5:i < rs.length
    ·obtain ⟨b0,o0,Ai,ci,Bi,di,c3,rfl,_,i0,i1,i2,az,_⟩:=gy h a5
     have bl:=η (Dp (Pg rs) out i);obtain ⟨_,c4,_,_,aD⟩:=iO az;have bn:=η aD;have bE:=(kF (List.all_eq_true.1 bf.out _ (δ a5))).1;have bo:=η (FY a5);have c5:(0:Int)≤(i:Int):=by omega
     have bp:(i:Int) < (rs.length:Int):=by omega
     have HI:=η y;have I:=η hmx;have bq:=η ho;have a7:=η a5;clear az aD ho y hmx;generalize rs[i]=ri at *;clear a5;obtain ⟨⟨hin,c6⟩,bi⟩:=ri;dsimp only at *;go_wp2
     go_loopw [6] (fun v wr=>∃ (k:Nat) (o3:List Nat),k≤rs.length∧v=.int .i64 k∧o3=(List.range k).foldl (vP rs i) o2∧lV w rs o3 wr∧∀ x,fU o3 x≤256 * m+32 * i+4 * k) (fun i _=>rs.length - (intOf i).toNat)
     case atStart=>exact ⟨0,o2,ε,rfl,rfl,HI.out,I.out⟩
     case round=>
      clear HI I;obtain ⟨k,o3,c7,rfl,ho,y,hmx⟩:=hrel;by_cases af:k < rs.length
      ·obtain ⟨b9,o9,Ak,ck,Bk,dk,c8,e9,_,k0,k1,k2,b6,_⟩:=gy h af
       obtain ⟨rfl,rfl⟩:b0=b9∧o0=o9:=by simpa using e9
       have a5:=a7.out;have j0:=ξ y.bel i0;have j2:=ξ y.bel i2;have I2:=η i2;have K0:=η k0;replace k0:=ξ y.bel k0;have br:=η (Dp (vP rs i) o2 k);have bt:=η (FY af);have a1:=y.at af;have a2:=y.at a5;have fz:=y.free i;have ar:=hmx k;have av:=hmx i;have c9:(0:Int)≤(k:Int):=by omega
       have bu:(k:Int) < (rs.length:Int):=by omega
       have HI:=η y;have I:=η hmx;have bv:=η ho;have ac:=η af;clear b6 ho y hmx e9 k1 k2;generalize rs[k]=rk at *;clear af a5;obtain ⟨⟨hk,ca⟩,bk⟩:=rk;dsimp only at *;obtain ⟨a,ha⟩:∃ a,a=fU o3 k:=⟨_,rfl⟩;obtain ⟨b,hb⟩:∃ b,b=fU o3 i:=⟨_,rfl⟩;rw [← ha] at a1 ar;rw [← hb] at a2 av;have HA:=η ha;have a3:=η hb;clear ha hb
       go_upto_region 11 with (fail)
       go_cut [59] from 30 to 121 (fun c wx=>c=.bool (decide (hk=hin) && decide (b < a))∧lV w rs o3 wx)
       case first=>
        skip
        cases hs:(hk.toList == hin.toList)
        ·have HD:Hid ((decide (hk=hin) && decide (b < a))=false):=η (by rw [← nZ,hs]; rfl)
         go_quiet (fail)
         go_wp2
         go_meet
         case rel=>exact ⟨by rw [HD.out],HI.out.drewN _⟩
        ·by_cases J:b < a
         ·have HD:Hid ((decide (hk=hin) && decide (b < a))=true):=η (by rw [← nZ,hs]; simp [J])
          have ag:(b:Int) < (a:Int):=by omega
          clear J
          go_quiet (fail)
          go_wp2
          go_meet
          case rel=>exact ⟨by rw [HD.out],HI.out.drewN _⟩
         ·have HD:Hid ((decide (hk=hin) && decide (b < a))=false):=η (by rw [← nZ,hs]; simp [J])
          have ag:¬ (b:Int) < (a:Int):=by omega
          clear J
          go_quiet (fail)
          go_wp2
          go_meet
          case rel=>exact ⟨by rw [HD.out],HI.out.drewN _⟩
       case rest=>
        obtain ⟨rfl,y⟩:=hcut;clear a1 a2 fz HI j0 j2 k0;have a1:=y.at ac.out;have a2:=y.at a7.out;have fz:=y.free i;rw [← HA.out] at a1;rw [← a3.out] at a2;have HI:=η y;have bw:w.heap.size < wc.heap.size:=ψ y.blk;clear y;obtain ⟨c,hc⟩:∃ c,c=(decide (hk=hin) && decide (b < a)):=⟨_,rfl⟩;rw [← hc];have HC:=η hc;clear hc
        go_upto_if 59 with (fail)
        go_cut [] from 30 to 121 (fun wx=>lV w rs (mg hin hk i k o3) wx)
        case first=>
         cases c
         ·have am:Hid (mg hin hk i k o3=o3):=η (by
           unfold mg; rw [if_neg]; rintro ⟨e,h⟩; have:=HC.out; rw [e,a3.out,HA.out] at this; simp at this; omega)
          go_wp2
          go_meet
          case rel=>rw [am.out]; exact HI.out
         ·have am:Hid (mg hin hk i k o3=o3.set i a):=η (by
           have:=HC.out.symm;simp only [ο,decide_eq_true_eq] at this
           unfold mg; rw [if_pos ⟨this.1,by rw [← HA.out,← a3.out]; exact this.2⟩,HA.out])
          have bL:=a7.out;have bO:=ac.out;go_wp2
          go_meet
          case rel=>rw [am.out]; exact HI.out.set i a
        case rest=>
         have aE:=η hcut
         have ao:Hid (∀ x,fU (mg hin hk i k o3) x≤256 * m+32 * i+4 * k):=η (by
          unfold mg; split
          ·exact Nz I.out (I.out k) ν
          ·exact I.out)
         clear hcut a1 a2 fz HI;obtain ⟨o4,aL⟩:∃ o4,o4=mg hin hk i k o3:=⟨_,rfl⟩;have am:=η aL.symm;rw [← aL] at aE ao;clear aL;go_wp2
         go_loopw [7] (fun v wr=>∃ (j:Nat) (out:List Nat),j≤bi.length∧v=.int .i64 j∧out=(bi.take j).foldl (jT rs.length hk i k) o4∧lV w rs out wr∧∀ x,fU out x≤256 * m+32 * i+4 * k+j) (fun i _=>bi.length - (intOf i).toNat)
         case atStart=>exact ⟨0,_,ε,rfl,rfl,aE.out,ao.out⟩
         case round=>
          clear aE ao I ar av HA a3;obtain ⟨j,out,hj,rfl,ho,y,hmx⟩:=hrel;have j2:=ξ y.bel I2.out;by_cases aw:j < bi.length
          ·have k0:=ξ y.bel K0.out
           have cb:b0 < wr.heap.size:=lt_of_cell k0;obtain ⟨b4,o5,Ag,cg,bg,rfl,_,f0,f1,f2,bx,_⟩:=iH bn.out aw;replace f0:=ξ y.bel f0;replace f1:=ξ y.bel f1;replace f2:=ξ y.bel f2;have cc:(0:Int)≤(j:Int):=by omega
           have bz:(j:Int) < (bi.length:Int):=by omega
           have a8:=η (P8 (jT rs.length hk i k) o4 bi j aw);have hA:Below wr.heap.size wr (wr.alloc (.cells #[.bool bi[j].no,.string bi[j].atom.name,.slice Ag bi[j].atom.args.length cg] 42)):=ζ;have a1:=y.at ac.out;have a2:=y.at a7.out;have fz:=y.free i;have ar:=hmx k;have av:=hmx i;have b7:=ac.out;have b8:=a7.out;have a9:=η (y.later hA);have aa:=η y;have I:=η hmx;have ab:=η ho;have bw:w.heap.size < wr.heap.size:=ψ y.blk;clear bx ho y hmx hA;have a0:=η aw;generalize bi[j]=p at *;clear aw;obtain ⟨no,⟨pn,U⟩⟩:=p;dsimp only at *;obtain ⟨a,ha⟩:∃ a,a=fU out k:=⟨_,rfl⟩;obtain ⟨b,hb⟩:∃ b,b=fU out i:=⟨_,rfl⟩;rw [← ha] at a1 ar;rw [← hb] at a2 av;have HA:=η ha;have a3:=η hb;clear ha hb b7 b8;cases hq:(pn.toList == hk.toList)
           ·have a4:Hid (jT rs.length hk i k out ⟨no,⟨pn,U⟩⟩=out):=η (by unfold jT; rw [if_neg]; intro e; have e:pn=hk:=e; rw [e] at hq; simp at hq)
            clear aa;go_wp2
            go_quiet (fail)
            go_wp2;go_roundw
            case rel=>exact ⟨j+1,out,a0.out,by go_num,by rw [a8.out,← ab.out,a4.out],a9.out.drewN _,fun x=>τ (I.out x) (by omega)⟩
            case measure=>have:=a0.out; simp [intOf]; omega
           ·have ae:Hid (pn=hk):=η (by have:=nZ pn hk; rw [hq] at this; exact of_decide_eq_true this.symm)
            cases no
            ·by_cases J:b < a
             ·have bc:(b:Int) < (a:Int):=by omega
              by_cases a6:b≤rs.length
              ·have ap:(b:Int)≤(rs.length:Int):=by omega
               have a4:Hid (jT rs.length hk i k out ⟨false,⟨pn,U⟩⟩=out.set i (a)):=η (by
                unfold jT; rw [if_pos ae.out,if_pos ⟨by simp only [zU]; rw [← HA.out,← a3.out]; simpa using J,by rw [← a3.out]; exact a6⟩]; simp only [zU]; rw [HA.out]; rfl)
               have aM:Hid (∀ x,fU (out.set i (a)) x≤256 * m+32 * i+4 * k+(j+1)):=η (Nz I.out (by have:=I.out k; rw [← HA.out] at this; omega) (by omega));clear aa J a6;go_wp2
               go_quiet (fail)
               have aR:=η ((a9.out.drewN nq).set i (a));go_wp2;go_roundw
               case rel=>exact ⟨j+1,_,a0.out,by go_num,by rw [a8.out,← ab.out,a4.out],aR.out,aM.out⟩
               case measure=>have:=a0.out; simp [intOf]; omega
              ·have ap:¬ (b:Int)≤(rs.length:Int):=by omega
               have a4:Hid (jT rs.length hk i k out ⟨false,⟨pn,U⟩⟩=out):=η (by
                unfold jT; rw [if_pos ae.out,if_neg fun h=>a6 (by have:=h.2; rw [← a3.out] at this; exact this)])
               clear aa J a6;go_wp2
               go_quiet (fail)
               go_wp2;go_roundw
               case rel=>exact ⟨j+1,out,a0.out,by go_num,by rw [a8.out,← ab.out,a4.out],a9.out.drewN _,fun x=>τ (I.out x) (by omega)⟩
               case measure=>have:=a0.out; simp [intOf]; omega
             ·have ag:¬ (b:Int) < (a:Int):=by omega
              have a4:Hid (jT rs.length hk i k out ⟨false,⟨pn,U⟩⟩=out):=η (by
                unfold jT; rw [if_pos ae.out,if_neg fun h=>J (by have:=h.1; simp only [zU] at this; rw [← HA.out,← a3.out] at this; simpa using this)])
              clear aa J;go_wp2
              go_quiet (fail)
              go_wp2;go_roundw
              case rel=>exact ⟨j+1,out,a0.out,by go_num,by rw [a8.out,← ab.out,a4.out],a9.out.drewN _,fun x=>τ (I.out x) (by omega)⟩
              case measure=>have:=a0.out; simp [intOf]; omega
            ·by_cases J:b < a+1
             ·have bc:(b:Int) < (a:Int)+1:=by omega
              by_cases a6:b≤rs.length
              ·have ap:(b:Int)≤(rs.length:Int):=by omega
               have a4:Hid (jT rs.length hk i k out ⟨true,⟨pn,U⟩⟩=out.set i (a+1)):=η (by
                unfold jT; rw [if_pos ae.out,if_pos ⟨by simp only [zU]; rw [← HA.out,← a3.out]; simpa using J,by rw [← a3.out]; exact a6⟩]; simp only [zU]; rw [HA.out]; rfl)
               have aM:Hid (∀ x,fU (out.set i (a+1)) x≤256 * m+32 * i+4 * k+(j+1)):=η (Nz I.out (by have:=I.out k; rw [← HA.out] at this; omega) (by omega));clear aa J a6;go_wp2
               go_quiet (fail)
               have aR:=η ((a9.out.drewN nq).set i (a+1));go_wp2;go_roundw
               case rel=>exact ⟨j+1,_,a0.out,by go_num,by rw [a8.out,← ab.out,a4.out],aR.out,aM.out⟩
               case measure=>have:=a0.out; simp [intOf]; omega
              ·have ap:¬ (b:Int)≤(rs.length:Int):=by omega
               have a4:Hid (jT rs.length hk i k out ⟨true,⟨pn,U⟩⟩=out):=η (by
                unfold jT; rw [if_pos ae.out,if_neg fun h=>a6 (by have:=h.2; rw [← a3.out] at this; exact this)])
               clear aa J a6;go_wp2
               go_quiet (fail)
               go_wp2;go_roundw
               case rel=>exact ⟨j+1,out,a0.out,by go_num,by rw [a8.out,← ab.out,a4.out],a9.out.drewN _,fun x=>τ (I.out x) (by omega)⟩
               case measure=>have:=a0.out; simp [intOf]; omega
             ·have ag:¬ (b:Int) < (a:Int)+1:=by omega
              have a4:Hid (jT rs.length hk i k out ⟨true,⟨pn,U⟩⟩=out):=η (by
                unfold jT; rw [if_pos ae.out,if_neg fun h=>J (by have:=h.1; simp only [zU] at this; rw [← HA.out,← a3.out] at this; simpa using this)])
              clear aa J;go_wp2
              go_quiet (fail)
              go_wp2;go_roundw
              case rel=>exact ⟨j+1,out,a0.out,by go_num,by rw [a8.out,← ab.out,a4.out],a9.out.drewN _,fun x=>τ (I.out x) (by omega)⟩
              case measure=>have:=a0.out; simp [intOf]; omega
          ·have he:j=bi.length:=by omega
           have bz:¬ (j:Int) < (bi.length:Int):=by omega
           have HZ:Hid (out=(List.range (k+1)).foldl (vP rs i) o2∧lV w rs out wr∧∀ x,fU out x≤256 * m+32 * i+4 * (k+1)):=η ⟨by
            rw [br.out,← bv.out,ho,he,ϕ ν];unfold vP;rw [bo.out,bt.out];show _=List.foldl _ (mg hin hk i k o3) bi
            rw [am.out],y,fun x=>τ (hmx x) (by omega)⟩
           clear ho y hmx he;go_wp2;go_roundw
           case rel=>exact ⟨k+1,out,ac.out,by go_num,HZ.out.1,HZ.out.2.1,HZ.out.2.2⟩
           case measure=>have:=ac.out; simp [intOf]; omega
      ·have he:k=rs.length:=by omega
       have bu:¬ (k:Int) < (rs.length:Int):=by omega
       have HZ:Hid (o3=(List.range (i+1)).foldl (Pg rs) out∧lV w rs o3 wr∧∀ x,fU o3 x≤256 * m+32 * (i+1)):=η ⟨by rw [bl.out,← bq.out,ho,he]; rfl,y,fun x=>τ (hmx x) (by omega)⟩;have a5:=a7.out;clear ho y hmx he;go_wp2;go_roundw
       case rel=>exact ⟨i+1,o3,a7.out,by go_num,HZ.out.1,HZ.out.2.1,HZ.out.2.2⟩
       case measure=>have:=a7.out; simp [intOf]; omega
    ·have he:i=rs.length:=by omega
     have bp:¬ (i:Int) < (rs.length:Int):=by omega
     have HZ:Hid (o2=xR rs (m+1)∧lV w rs o2 wr∧∀ x,fU o2 x≤256 * (m+1)):=η ⟨by rw [ho,he,HO.out]; rfl,y,fun x=>τ (hmx x) (by omega)⟩;clear ho y hmx he;go_wp2;go_roundw
     case rel=>exact ⟨m+1,o2,bh,by go_num,HZ.out.1,HZ.out.2.1,HZ.out.2.2⟩
     case measure=>simp [intOf]; omega
  ·have he:m=N1:=by omega
   have bj:¬ (m:Int) < (N1:Int):=by omega
   have HZ:Hid (lV w rs (ay rs) wr∧∀ i,fU (ay rs) i≤1000000):=η (by rw [b5.out,← he,← ho]; exact ⟨y,fun x=>τ (hmx x) (by omega)⟩);clear ho y hmx he;go_wp2;go_ret;exact ⟨HZ.out.1.bel,rfl,HZ.out⟩
theorem P9 (t:T) (w:World):
  Calls Tryz.prog 129 #[.agg #[.bool t.var,.string t.name]] w fun e w'=>e=.returned (.bool t.var)∧Below w.heap.size w w':=by
 go_enter Tryz.func129,Tryz.ntmps129
 go_wp2;go_ret;exact ⟨rfl,ζ⟩
def Found (b:Bool) (w:World) (e:Ending) (w':World):Prop:=(∃ z:Int,e=.returned (.int .i64 z)∧decide (0≤z)=b)∧Below w.heap.size w w'
theorem Hu (y:List T) (v:Value) (bs:List Nat) (w:World) (h:eP w [v] y bs):
  Calls Tryz.prog 185 #[v,.func (.func 129) #[] #[]] w (Found (jY y) w):=by
 obtain ⟨Ad,cap,rfl,hl,hm⟩:=ak h;have a1:=aA (τ hl hm);clear hm
 go_enter Tryz.func185,Tryz.ntmps185
 go_wp2
 go_loopw [8] (fun i wr=>∃ k:Nat,k≤y.length∧i=.int .i64 k∧jY (y.take k)=false∧Below w.heap.size w wr) (fun i _=>y.length - (intOf i).toNat)
 case atStart=>exact ⟨0,ε,rfl,rfl,ϑ⟩
 case round=>
  obtain ⟨k,hk,rfl,I,U⟩:=hrel;have HA:=η I;clear I;by_cases J:k < y.length
  ·obtain ⟨b,o,rfl,_,c0,c1,_⟩:=dY (aN.below h U) J
   clear h
   go_wp2_with fail
   refine (P9 y[k] _).mono ?_;rintro e w' ⟨rfl,a0⟩;have B':=U.trans (a0.mono U.size);cases hv:y[k].var
   ·have HV:=η hv
    go_wp2;go_roundw
    case rel=>exact ⟨k+1,by omega,by go_num,by rw [yK y k J,HA.out,HV.out]; rfl,B'⟩
    case measure=>simp [intOf]; omega
   ·have HV:=η (AB y k J hv)
    go_wp2;go_ret;exact ⟨⟨_,rfl,by rw [HV.out]; simp⟩,B'⟩
  ·have he:=η (show k=y.length by omega)
   go_wp2;go_ret;exact ⟨⟨_,rfl,by have:=HA.out; rw [he.out,ϕ ν] at this; rw [this]; rfl⟩,U⟩
theorem zL (y:List T) (v:Value) (bs:List Nat) (w:World) (h:eP w [v] y bs):
  Calls Tryz.prog 128 #[v,.func (.func 129) #[] #[]] w fun e w'=>e=.returned (.bool (jY y))∧Below w.heap.size w w':=by
 have J:=Hu y v bs w h;clear h
 go_enter Tryz.func128,Tryz.ntmps128
 go_wp2_with fail
 refine J.mono ?_;rintro e w' ⟨⟨z,rfl,I⟩,U⟩;have HZ:=η I;clear I;go_wp2;go_ret;exact ⟨aJ HZ.out,U⟩
theorem NC (a:A) (c0 c1:Value) (bs:List Nat) (w:World) (h:aG w [c0,c1] a bs):
  Calls Tryz.prog 65 #[.agg #[c0,c1]] w fun e w'=>e=.returned (.bool (dX a))∧Below w.heap.size w w':=by
 obtain ⟨Ad,cap,rfl,rfl⟩:=aY h;have k1:=fun w' (hb:Below w.heap.size w w')=>qX a _ _ bs w' (aj.below h hb)
 have k2:=fun w' (hb:Below w.heap.size w w')=>zL a.args _ bs w' (dm (aj.below h hb))
 unfold dX;generalize aX a=x at *;generalize jY a.args=y at *;clear h;have J:=(Below.refl w.heap.size w).alloc ν (.cells #[.string a.name,.slice Ad a.args.length cap] 33)
 go_enter Tryz.func65,Tryz.ntmps65
 go_wp2_with fail
 refine (k1 _ J).mono ?_;rintro e w1 ⟨rfl,I⟩;have U:=J.trans (I.mono J.size);have x1:w1.cell? ⟨w.heap.size,1,none⟩=some (.slice Ad a.args.length cap):=ξ I (by go_simp);clear k1 J;cases x
 ·go_wp2
  go_ret;exact ⟨rfl,U⟩
 ·go_wp2_with fail
  refine (k2 _ U).mono ?_;rintro e w2 ⟨rfl,a0⟩;go_wp2;go_ret;exact ⟨aJ (by simp),U.trans (a0.mono U.size)⟩
end Go.Proofs.YtkjinanbccloeaaGreatDoor
