/- Of the proof of FnDelta: AllS, LooseI, ChkS, Facts3. -/
import Derived.Test.YtkjinanbccloeaaGreatDoorA19
import Derived.Test.YtkjinanbccloeaaGreatDoorA18
import Derived.Test.YtkjinanbccloeaaGreatDoorA22
import Derived.Test.YtkjinanbccloeaaGreatDoorA23
set_option linter.unusedVariables false
set_option maxHeartbeats 8000000
set_option maxRecDepth 100000
namespace Go.Proofs.YtkjinanbccloeaaGreatDoor
open Go.RowKit D
attribute [local go_sem ↓] Go.wp_at_zero Go.wp_at_succ
theorem D.LK (w:World):jK w [.slice none 0 0] [] []:=⟨none,0,rfl,ν,ε,fun _=>rfl,fun h=>absurd rfl h⟩
theorem D.UH (w:World):jB w [.slice none 0 0,.slice none 0 0] [] []:=⟨_,_,[],[],rfl,rfl,LK w,LK w⟩
theorem D.Ry (w:World):∃ bs,tH (w.alloc (.cells #[.slice none 0 0,.slice none 0 0] 234)) [.slice (some ⟨w.heap.size,0,none⟩) 1 1] [[]] bs:=by
 have hr:aT 2 jB (w.alloc (.cells #[.slice none 0 0,.slice none 0 0] 234)) [.slice none 0 0,.slice none 0 0] [([]:Bd)] []:=aT.dH wX (UH _)
 have y:(w.alloc (.cells #[.slice none 0 0,.slice none 0 0] 234)).ownsRow w.heap.size 234 2 (.slice (some ⟨w.heap.size,0,none⟩) 1 1) 1 [.slice none 0 0,.slice none 0 0]:=
  ⟨rfl,.inr ⟨w.heap.size,1,_,rfl,ν,ω w _,ν,by decide,by simp,by simp⟩⟩
 obtain ⟨bs,h,_⟩:=hr.slice y;exact ⟨bs,h⟩
theorem WC (list:List A) (body:List Pt) (v0 v1:Value) (bl bb:List Nat) (w:World) (hl:aB w [v0] list bl) (hb:iY w [v1] body bb)
  (hasc:fU list=true) (hn:list.length≤300) (hm:body.length≤4) (hbl:∀ p ∈ body,p.atom.args.length≤1000):
  Calls Tryz.prog 171 #[v0,v1] w fun e w'=>Below w.heap.size w w'∧∃ v bs,e=.returned v∧tH w' [v] (allB list body) bs:=by
 obtain ⟨Al,pl,rfl,hl1,hl2⟩:=aj hl;obtain ⟨Ab,pb,rfl,hb1,hb2⟩:=aj hb;obtain ⟨i0,hi,hz0,hz1,hz2⟩:=info_parts Gs;have HL:=η hl;have HB:=η hb;have HBL:=η hbl;have HM:=η hm;clear hl hb hl1 hl2 hb1 hb2 hbl;obtain ⟨bs0,h0⟩:=Ry w;have H0:=η h0;have hA0:Below w.heap.size w (w.alloc (.cells #[.slice none 0 0,.slice none 0 0] 234)):=ζ;clear h0
 go_enter Tryz.func171,Tryz.ntmps171
 go_wp2_with fail
 generalize w.alloc (.cells #[.slice none 0 0,.slice none 0 0] 234)=w0 at *
 go_loopw [5,6,7,8,9,10,11] (fun o i _ _ _ _ _ wr=>∃ (k:Nat) (out:List Bd) (Am:Option Addr) (cm:Nat) (bs:List Nat),k≤body.length∧i=.int .i64 k∧o=.slice Am out.length cm∧Hid (out=xU list (body.take k))∧out.length≤300 ^ k∧Hid (∀ b ∈ out,b.length≤1000 * k)∧Hid (tH wr [.slice Am out.length cm] out bs)∧Hid (Below w.heap.size w wr)) (fun _ i _ _ _ _ _ _=>body.length - (intOf i).toNat)
 case atStart=>exact ⟨0,[[]],_,_,_,ε,rfl,rfl,η rfl,by simp,η (fun b hb=>by rw [List.mem_singleton.1 hb]; simp),H0,η hA0⟩
 case round=>
  obtain ⟨k,out,Am,cm,bs,hk,rfl,rfl,ho,hol,hoe,hO,hBw⟩:=hrel;clear H0 hA0;by_cases hlt:k < body.length
  ·have hk0:(0:Int)≤(k:Int):=by omega
   have hk1:(k:Int) < (body.length:Int):=by omega
   have hk4:k≤3:=by omega
   have hol3:out.length≤27000000:=τ hol (τ (Nat.pow_le_pow_right (by omega) hk4) (by decide));obtain ⟨pb1,po,Ae,ce,bk,rfl,_,e0,e1,e2,hel,_⟩:=jd (dJ.below HB.out hBw.out) hlt;have HAT:=η (jy hel);have HRS:=η (uV list body k hlt);have HAL:=η (HBL.out _ (δ hlt));generalize wr=wo at *;generalize body[k]=p at *;obtain ⟨pno,px⟩:=p;dsimp only at *;clear hel
   cases pno with
   | true=>
    have HE:Hid (out=xU list (body.take (k+1))):=η (by rw [HRS.out,← ho.out]; rfl);clear HRS HAT HAL e1 e2;go_wp2;go_roundw
    case rel=>exact ⟨k+1,out,Am,cm,bs,hlt,by go_num,rfl,HE,τ hol (Nat.pow_le_pow_right (by omega) (by omega)),η (fun b hb=>by have:=hoe.out b hb; omega),hO,hBw⟩
    case measure=>simp [intOf]; omega
   | false=>
    have HE:Hid (out.flatMap (jZ list px)=xU list (body.take (k+1))):=η (by rw [HRS.out,← ho.out]; rfl);clear HRS ho;have hA1:Below wo.heap.size wo (wo.alloc (.cells #[] 234)):=ζ;have hE1:aY 2 jB wo.heap.size 234 (wo.alloc (.cells #[] 234)) (.slice (some ⟨wo.heap.size,0,none⟩) 0 0) [] [] []:=aY.empty (ω wo _) ν
    go_wp2_with fail
    generalize wo.alloc (.cells #[] 234)=w1 at *
    go_loopw [7,8,9,10,11] (fun m i _ _ _ wr=>∃ (q:Nat) (xs:List Bd) (An:Option Addr) (cn:Nat) (L:List Value) (bn:List Nat),q≤out.length∧i=.int .i64 q∧m=.slice An xs.length cn∧Hid (xs=(out.take q).flatMap (jZ list px))∧Hid (aY 2 jB wo.heap.size 234 wr (.slice An xs.length cn) L xs bn)∧Hid (Below wo.heap.size wo wr)) (fun _ i _ _ _ _=>out.length - (intOf i).toNat)
    case atStart=>exact ⟨0,[],_,_,_,_,ε,rfl,rfl,η rfl,η hE1,η hA1⟩
    case round=>
     obtain ⟨q,xs,An,cn,L,bn,hq,rfl,rfl,hxs,hC,hB1⟩:=hrel;clear hE1 hA1;by_cases hqt:q < out.length
     ·have hq0:(0:Int)≤(q:Int):=by omega
      have hq1:(q:Int) < (out.length:Int):=by omega
      obtain ⟨ab1,ao,A1,p1,A2,p2,bq,rfl,_,d0,d1,hbd,hsub⟩:=yG hO.out hqt;have HFS:=η (QC list px out q hqt);have HBN:=η (hoe.out _ (δ hqt))
      have HXL:Hid (xs.length≤q * list.length):=η (by
       rw [hxs.out];refine τ (xW _) ?_;rw [List.length_take]
       exact Nat.mul_le_mul (Nat.min_le_left _ _) ν)
      have HBD:=η hbd;have HFAR:Hid (∀ c ∈ bq,c < wo.heap.size):=η fun c hc=>ni.lt hO.out c (hsub c hc)
      generalize wr=w2 at *;generalize out[q]=b0 at *;clear hbd hsub
      go_wp2_with fail
      go_loopw [7,9,10,11] (fun m i _ _ wr=>∃ (j:Nat) (ys:List Bd) (An:Option Addr) (cn:Nat) (L:List Value) (bn:List Nat),j≤list.length∧i=.int .i64 j∧m=.slice An ys.length cn∧Hid (ys=(out.take q).flatMap (jZ list px) ++ jZ (list.take j) px b0)∧Hid (aY 2 jB wo.heap.size 234 wr (.slice An ys.length cn) L ys bn)∧Hid (Below wo.heap.size wo wr)) (fun _ i _ _ _=>list.length - (intOf i).toNat)
      case atStart=>exact ⟨0,xs,An,cn,L,bn,ε,rfl,rfl,η (by rw [hxs.out]; simp [jZ]),hC,hB1⟩
      case round=>
       obtain ⟨j,ys,An,cn,L,bn,hj,rfl,rfl,hys,hC,hB2⟩:=hrel;by_cases hjt:j < list.length
       ·have hj0:(0:Int)≤(j:Int):=by omega
        have hj1:(j:Int) < (list.length:Int):=by omega
        have hBW:=hBw.out.trans (hB2.out.mono hBw.out.size);obtain ⟨lb1,lo,Af,cf,bf,rfl,_,f0,f1,hfe,_⟩:=dU (ak.below HL.out hBW) hjt;have g1:=ξ hB2.out e1;have g2:=ξ hB2.out e2;have g3:=ξ hB2.out d0;have g4:=ξ hB2.out d1;have n1:pb1 < wr.heap.size:=lt_of_cell g1;have n2:ab1 < wr.heap.size:=lt_of_cell g3;have n3:lb1 < wr.heap.size:=lt_of_cell f0;have HF1:=η (Oo list px b0 j hjt);generalize list[j]=f at *;have q5:=fun w' (hb:Below wr.heap.size wr w')=>QL px f b0 _ _ _ _ _ _ _ _ _ w' (au.below HAT.out (hB2.out.trans (hb.mono hB2.out.size))) (au.below hfe hb) (dh.below HBD.out (hB2.out.trans (hb.mono hB2.out.size))) (by have:=HBN.out; omega) (τ HAL.out (by omega))
        have Q5:=η q5;have hD1:Below wr.heap.size wr wr.drew:=Below.drew ϑ;have hD2:Below wr.heap.size wr (wr.alloc (.cells #[.slice none 0 0,.slice none 0 0] 234)).drew:=(ζ).drew;have HD2:=η hD2;have HD1:=η hD1;clear q5 hfe hD1 hD2
        go_wp2_with fail
        go_region_held3 (fun w'=>w'.cell? ⟨pb1,po+k * 3+1,none⟩=some (.string px.name)∧w'.cell? ⟨pb1,po+k * 3+2,none⟩=some (.slice Ae px.args.length ce)∧w'.cell? ⟨lb1,lo+j * 2,none⟩=some (.string f.name)∧w'.cell? ⟨lb1,lo+j * 2+1,none⟩=some (.slice Af f.args.length cf)∧w'.cell? ⟨ab1,ao+q * 2,none⟩=some (.slice A1 b0.length p1)∧w'.cell? ⟨ab1,ao+q * 2+1,none⟩=some (.slice A2 b0.length p2))
         (first | go_keep | exact hqk | exact hqk2)
         (first
          | (go_at_call 201; first
            | (refine (Q5.out _ HD1.out).mono ?_; rintro e w6 ⟨hb6,x0,x1,b6,rfl,h6,hfar6⟩; have B6:=HD1.out.trans (hb6.mono HD1.out.size); have hqk:=ι (ξ B6 g1) (ι (ξ B6 g2) (ι (ξ B6 f0) (ι (ξ B6 f1) (ι (ξ B6 g3) (ξ B6 g4))))); obtain ⟨B3,q3,B4,q4,hcs⟩:=mQ h6; simp only [List.cons.injEq,and_true] at hcs; obtain ⟨rfl,rfl⟩:=hcs; have m1:=lt_of_cell (ξ B6 g1); have m2:=lt_of_cell (ξ B6 g3); have m3:=lt_of_cell (ξ B6 f0))
            | (refine (Q5.out _ HD2.out).mono ?_; rintro e w6 ⟨hb6,x0,x1,b6,rfl,h6,hfar6⟩; have B6:=HD2.out.trans (hb6.mono HD2.out.size); have hqk:=ι (ξ B6 g1) (ι (ξ B6 g2) (ι (ξ B6 f0) (ι (ξ B6 f1) (ι (ξ B6 g3) (ξ B6 g4))))); obtain ⟨B3,q3,B4,q4,hcs⟩:=mQ h6; simp only [List.cons.injEq,and_true] at hcs; obtain ⟨rfl,rfl⟩:=hcs; have m1:=lt_of_cell (ξ B6 g1); have m2:=lt_of_cell (ξ B6 g3); have m3:=lt_of_cell (ξ B6 f0); have hM6:=(hb6.block wr.heap.size (by show wr.heap.size < (World.alloc wr _).heap.size; simp)).trans (ω wr (.cells #[.slice none 0 0,.slice none 0 0] 234)); have fz0:w6.frozen? ⟨wr.heap.size,0,none⟩=false:=ax hM6; have fz1:w6.frozen? ⟨wr.heap.size,1,none⟩=false:=ax hM6; have cz0:w6.cell? ⟨wr.heap.size,0,none⟩=some (.slice none 0 0):=ai hM6; have cz1:w6.cell? ⟨wr.heap.size,1,none⟩=some (.slice none 0 0):=ai hM6; have hqk2:=ι ((World.cell?_of_block (π _ ⟨wr.heap.size,1,none⟩ (.slice B4 (aF px f b0).1.length q4) _ (by show pb1 ≠ wr.heap.size; omega))).trans ((World.cell?_of_block (π _ ⟨wr.heap.size,0,none⟩ (.slice B3 (aF px f b0).1.length q3) _ (by show pb1 ≠ wr.heap.size; omega))).trans (ξ B6 g1))) (ι ((World.cell?_of_block (π _ ⟨wr.heap.size,1,none⟩ (.slice B4 (aF px f b0).1.length q4) _ (by show pb1 ≠ wr.heap.size; omega))).trans ((World.cell?_of_block (π _ ⟨wr.heap.size,0,none⟩ (.slice B3 (aF px f b0).1.length q3) _ (by show pb1 ≠ wr.heap.size; omega))).trans (ξ B6 g2))) (ι ((World.cell?_of_block (π _ ⟨wr.heap.size,1,none⟩ (.slice B4 (aF px f b0).1.length q4) _ (by show lb1 ≠ wr.heap.size; omega))).trans ((World.cell?_of_block (π _ ⟨wr.heap.size,0,none⟩ (.slice B3 (aF px f b0).1.length q3) _ (by show lb1 ≠ wr.heap.size; omega))).trans (ξ B6 f0))) (ι ((World.cell?_of_block (π _ ⟨wr.heap.size,1,none⟩ (.slice B4 (aF px f b0).1.length q4) _ (by show lb1 ≠ wr.heap.size; omega))).trans ((World.cell?_of_block (π _ ⟨wr.heap.size,0,none⟩ (.slice B3 (aF px f b0).1.length q3) _ (by show lb1 ≠ wr.heap.size; omega))).trans (ξ B6 f1))) (ι ((World.cell?_of_block (π _ ⟨wr.heap.size,1,none⟩ (.slice B4 (aF px f b0).1.length q4) _ (by show ab1 ≠ wr.heap.size; omega))).trans ((World.cell?_of_block (π _ ⟨wr.heap.size,0,none⟩ (.slice B3 (aF px f b0).1.length q3) _ (by show ab1 ≠ wr.heap.size; omega))).trans (ξ B6 g3))) ((World.cell?_of_block (π _ ⟨wr.heap.size,1,none⟩ (.slice B4 (aF px f b0).1.length q4) _ (by show ab1 ≠ wr.heap.size; omega))).trans ((World.cell?_of_block (π _ ⟨wr.heap.size,0,none⟩ (.slice B3 (aF px f b0).1.length q3) _ (by show ab1 ≠ wr.heap.size; omega))).trans (ξ B6 g4))))))))))
        all_goals
         have HFO:Hid (∀ c ∈ b6,(Value.slice An ys.length cn).ownBlock ≠ some c):=η fun c hc e=>by
          have h1:=jF hC.out.own c e
          rcases hfar6 c hc with h2 | h2
          ·have:=HFAR.out c h2
           omega
          ·simp at h2
           omega
         have HML:=η (Dt px f b0)
         first
          | (have hMf:=bW (o:=1) (u:=.slice B4 (aF px f b0).1.length q4) (bW (o:=0) (u:=.slice B3 (aF px f b0).1.length q3) hM6); have z0:((w6.setCell ⟨wr.heap.size,0,none⟩ (.slice B3 (aF px f b0).1.length q3)).setCell ⟨wr.heap.size,1,none⟩ (.slice B4 (aF px f b0).1.length q4)).cell? ⟨wr.heap.size,0,none⟩=some (.slice B3 (aF px f b0).1.length q3):=ai hMf; have z1:((w6.setCell ⟨wr.heap.size,0,none⟩ (.slice B3 (aF px f b0).1.length q3)).setCell ⟨wr.heap.size,1,none⟩ (.slice B4 (aF px f b0).1.length q4)).cell? ⟨wr.heap.size,1,none⟩=some (.slice B4 (aF px f b0).1.length q4):=ai hMf; clear hMf; have HBf:=η ((B6.setCell (p:=⟨wr.heap.size,0,none⟩) ν (.slice B3 (aF px f b0).1.length q3)).setCell (p:=⟨wr.heap.size,1,none⟩) ν (.slice B4 (aF px f b0).1.length q4)); have H6f:=η (qB (N:=wr.heap.size) (y0:=.slice B3 (aF px f b0).1.length q3) (y1:=.slice B4 (aF px f b0).1.length q4) h6 (fun hc=>by
            rcases hfar6 _ hc with h2 | h2
            ·have:=HFAR.out _ h2
             have:=hB2.out.size;omega
            ·exact absurd h2 (by show ¬ (World.alloc wr _).heap.size≤_; simp))); clear B6 hqk hqk2 m1 m2 m3 hb6 hfar6 h6 Q5 HD1 HD2 hM6 fz0 fz1 cz0 cz1; generalize hwf:(w6.setCell ⟨wr.heap.size,0,none⟩ (.slice B3 (aF px f b0).1.length q3)).setCell ⟨wr.heap.size,1,none⟩ (.slice B4 (aF px f b0).1.length q4)=wf at *; clear hwf)
          | (have hAf:=(Below.refl w6.heap.size w6).alloc ν (.cells #[.slice B3 (aF px f b0).1.length q3,.slice B4 (aF px f b0).1.length q4] 234); have HBf:=η (B6.trans (hAf.mono B6.size)); have hMf:=ω w6 (.cells #[.slice B3 (aF px f b0).1.length q3,.slice B4 (aF px f b0).1.length q4] 234); have z0:(w6.alloc (.cells #[.slice B3 (aF px f b0).1.length q3,.slice B4 (aF px f b0).1.length q4] 234)).cell? ⟨w6.heap.size,0,none⟩=some (.slice B3 (aF px f b0).1.length q3):=ai hMf; have z1:(w6.alloc (.cells #[.slice B3 (aF px f b0).1.length q3,.slice B4 (aF px f b0).1.length q4] 234)).cell? ⟨w6.heap.size,1,none⟩=some (.slice B4 (aF px f b0).1.length q4):=ai hMf; clear hMf; have H6f:=η (dh.below h6 hAf); clear hAf B6 hqk m1 m2 m3 hb6 hfar6 h6 Q5 HD1 HD2; generalize hwf:w6.alloc (.cells #[.slice B3 (aF px f b0).1.length q3,.slice B4 (aF px f b0).1.length q4] 234)=wf at *; clear hwf)
         have HXL2:Hid (ys.length≤8200000000):=η (by
          rw [hys.out,χ];have h1:=xW (list:=list) (a:=px) (out.take q);have h2:=F6 (list.take j) px b0;rw [List.length_take] at h1 h2;have h3:min q out.length * list.length≤27000000 * 300:=Nat.mul_le_mul (τ (Nat.min_le_right _ _) hol3) hn
          omega)
         cases hmf:(aF px f b0).2 with
         | false=>
          have HE2:Hid (ys=(out.take q).flatMap (jZ list px) ++ jZ (list.take (j+1)) px b0):=η (by rw [HF1.out,hmf,hys.out]; simp);have HC2:=η (hC.out.below dh HBf.out);have HB3:=η (hB2.out.trans (HBf.out.mono hB2.out.size));clear hmf HF1 hC hB2 HBf;go_wp2;go_roundw
          case rel=>exact ⟨j+1,ys,An,cn,L,bn,hjt,by go_num,rfl,HE2,HC2,HB3⟩
          case measure=>simp [intOf]; omega
         | true=>
          have HE2:Hid (ys ++ [(aF px f b0).1]=(out.take q).flatMap (jZ list px) ++ jZ (list.take (j+1)) px b0):=η (by rw [HF1.out,hmf,hys.out]; simp);have HC2:=η (hC.out.below dh HBf.out);have HB3:=η (hB2.out.trans (HBf.out.mono hB2.out.size));clear hmf HF1 hC hB2 HBf;generalize (aF px f b0).1=b1 at *;have hAt:Below wf.heap.size wf (wf.alloc (.cells #[.slice B3 b1.length q3,.slice B4 b1.length q4] 234)):=ζ
          have HLL:Hid (aY 2 jB wo.heap.size 234 (wf.alloc (.cells #[.slice B3 b1.length q3,.slice B4 b1.length q4] 234)) (.slice An ys.length cn) L ys bn∧aT 2 jB (wf.alloc (.cells #[.slice B3 b1.length q3,.slice B4 b1.length q4] 234)) [.slice B3 b1.length q3,.slice B4 b1.length q4] [b1] b6∧Lies (wf.alloc (.cells #[.slice B3 b1.length q3,.slice B4 b1.length q4] 234)) (some ⟨wf.heap.size,0,none⟩) [.slice B3 b1.length q3,.slice B4 b1.length q4]∧Below wo.heap.size wo (wf.alloc (.cells #[.slice B3 b1.length q3,.slice B4 b1.length q4] 234))∧wo.heap.size≤(wf.alloc (.cells #[.slice B3 b1.length q3,.slice B4 b1.length q4] 234)).heap.size):=
           η ⟨HC2.out.below dh hAt,aT.dH wX (dh.below H6f.out hAt),aS (ω wf _),HB3.out.trans (hAt.mono HB3.out.size),τ HB3.out.size hAt.size⟩
          have H63:Hid (ys.length+1≤maxLen):=η (by have:=HXL2.out; unfold maxLen; omega);have HBY:Hid ((ys.length+1) * 48≤140737488355328):=η (by have:=HXL2.out; omega);clear hAt HC2 HB3 H6f
          go_wp2_with (at_builtin; refine cO rfl _ _ _ rfl wo.heap.size 234 i0 (.agg #[.slice none 0 0,.slice none 0 0]) 2 48 Tryz.underlying230 hi hz0 hz1 hz2 rfl (Θ 1) dh (.slice An ys.length cn) ys.length L _ bn rfl HLL.out.1 rfl (some ⟨wf.heap.size,0,none⟩) 1 1 _ [b1] b6 rfl HLL.out.2.1 rfl HLL.out.2.2.1 HFO.out H63.out HBY.out wo wo.heap.size HLL.out.2.2.2.1 ν HLL.out.2.2.2.2 ?_; intro A4 c4 w4 hC4 hB4 hS4 hG4; have HZ:=η (ι hC4 hB4); clear hC4 hB4 hS4 hG4)
          go_roundw
          case rel=>exact ⟨j+1,ys ++ [b1],A4,c4,_,_,hjt,by go_num,by rw [χ]; rfl,HE2,by rw [χ]; exact η HZ.out.1,η HZ.out.2⟩
          case measure=>simp [intOf]; omega
       ·have he:j=list.length:=by omega
        have hj1:¬ (j:Int) < (list.length:Int):=by omega
        have HE2:Hid (ys=(out.take (q+1)).flatMap (jZ list px)):=η (by rw [hys.out,HFS.out,he,ϕ ν]);clear he hj;go_wp2;go_roundw
        case rel=>exact ⟨q+1,ys,An,cn,L,bn,hqt,by go_num,rfl,HE2,hC,hB2⟩
        case measure=>simp [intOf]; omega
     ·have he:q=out.length:=by omega
      have hq1:¬ (q:Int) < (out.length:Int):=by omega
      have HE2:Hid (xs=xU list (body.take (k+1))):=η (by rw [hxs.out,he,ϕ ν,HE.out])
      have HXL:Hid (xs.length≤300 ^ (k+1)):=η (by
       rw [hxs.out,he,ϕ ν];refine τ (xW _) ?_;rw [Nat.pow_succ]
       exact Nat.mul_le_mul hol hn)
      have HXE:Hid (∀ b ∈ xs,b.length≤1000 * (k+1)):=η (fun b hb=>by
       rw [hxs.out,he,ϕ ν] at hb;obtain ⟨b1,h1,h2⟩:=List.mem_flatMap.1 hb;have:=hoe.out b1 h1;have:=Oq h2;have:=HAL.out
       omega)
      obtain ⟨bx,hX,_⟩:=hC.out.slice;have HX:=η hX;have HBX:=η (hBw.out.trans (hB1.out.mono hBw.out.size));clear he hC hxs hX;go_wp2;go_roundw
      case rel=>exact ⟨k+1,xs,An,cn,bx,hlt,by go_num,rfl,HE2,HXL.out,HXE,HX,HBX⟩
      case measure=>simp [intOf]; omega
  ·have he:k=body.length:=by omega
   have hk1:¬ (k:Int) < (body.length:Int):=by omega
   have hk4:k≤4:=by omega
   have hol4:out.length≤10000000000:=τ hol (τ (Nat.pow_le_pow_right (by omega) hk4) (by decide));have HE:Hid (out.filter (jf list body)=allB list body):=η (by unfold allB; rw [ho.out,he,ϕ ν]);have q5:=EP list body out _ _ _ bl bb bs wr (ak.below HL.out hBw.out) (dJ.below HB.out hBw.out) hO.out hasc hol4 (fun p hp=>τ (HBL.out p hp) (by omega));rw [HE.out] at q5;clear he ho
   go_wp2_with fail
   refine q5.mono ?_;rintro e w5 ⟨hb5,v5,b5,rfl,h5⟩;have B5:=hBw.out.trans (hb5.mono hBw.out.size);have H5:=η h5;clear q5 h5 hb5;go_wp2;go_ret;exact ⟨B5,_,_,rfl,H5.out⟩
theorem D.LM (r:Ru):(!gK r.body r.head || tu r.body) = !fJ r.head r.body:=by
 rw [Bool.eq_iff_iff];have h1:=FU r.head r.body;have y:=qV r.body r.head;rw [← y] at h1
 cases ht:fJ r.head r.body <;> cases ha:gK r.body r.head <;> cases hl:tu r.body <;> simp_all
theorem D.OQ (rs:List Ru) (k:Nat) (h:k < rs.length) (h0:(rs.take k).all (fun r=>fJ r.head r.body)=true):((rs.take (k+1)).all fun r=>fJ r.head r.body)=fJ rs[k].head rs[k].body:=by
 rw [ρ h,List.all_append,h0]; simp
theorem D.Rz (rs:List Ru) (k:Nat) (h:k < rs.length) (h0:fJ rs[k].head rs[k].body=false):(rs.all fun r=>fJ r.head r.body)=false:=
 List.all_eq_false.2 ⟨_,δ h,by simp [h0]⟩
theorem ER (r:Ru) (c0 c1 c2:Value) (bs:List Nat) (w:World) (h:gY w [c0,c1,c2] r bs):
  Calls Tryz.prog 188 #[.agg #[c0,c1,c2]] w fun e w'=>e=.returned (.bool (!fJ r.head r.body))∧Below w.heap.size w w':=by
 obtain ⟨Ad,cap,Ae,I,rfl,rfl,rfl⟩:=pq h;have J:Below w.heap.size w (w.alloc (.cells #[.string r.head.name,.slice Ad r.head.args.length cap,.slice Ae r.body.length I] 40)):=ζ;obtain ⟨b1,b2,_,hh,hb⟩:=jm h;have c1:=fun w' (hw:Below w.heap.size w w')=>yF r.body r.head _ _ _ b2 b1 w' (dJ.below hb hw) (au.below hh hw)
 have c2:=fun w' (hw:Below w.heap.size w w')=>EO r.body _ b2 w' (dJ.below hb hw)
 rw [← LM r];clear h hh hb;obtain ⟨⟨nm,args⟩,body⟩:=r;dsimp only at *;cases ha:gK body ⟨nm,args⟩
 ·rw [ha] at c1
  clear c2 ha
  go_enter Tryz.func188,Tryz.ntmps188
  go_wp2_with fail
  refine (c1 _ J).mono ?_;rintro e w2 ⟨rfl,y⟩;have U:=J.trans (y.mono J.size);go_wp2;go_ret;exact ⟨rfl,U⟩
 ·rw [ha] at c1
  clear ha;generalize tu body=l at *
  go_enter Tryz.func188,Tryz.ntmps188
  go_wp2_with fail
  refine (c1 _ J).mono ?_;rintro e w2 ⟨rfl,y⟩;have U:=J.trans (y.mono J.size);have x2:w2.cell? ⟨w.heap.size,2,none⟩=some (.slice Ae body.length I):=ξ y (by go_simp)
  go_wp2_with fail
  refine (c2 _ U).mono ?_;rintro e w3 ⟨rfl,a0⟩;go_wp2;go_ret;exact ⟨aG (by simp),U.trans (a0.mono U.size)⟩
def XO (b:Bool) (w:World) (e:Ending) (w':World):Prop:=(∃ z:Int,e=.returned (.int .i64 z)∧decide (0≤z)=b)∧Below w.heap.size w w'
theorem Ef (rs:List Ru) (v:Value) (bs:List Nat) (w:World) (h:eu w [v] rs bs):
  Calls Tryz.prog 237 #[v,.func (.func 188) #[] #[]] w (XO (!rs.all fun r=>fJ r.head r.body) w):=by
 obtain ⟨Ad,cap,rfl,hl,hm⟩:=aj h;have a2:=aA (τ hl hm);clear hm
 go_enter Tryz.func237,Tryz.ntmps237
 go_wp2
 go_loopw [8] (fun i wr=>∃ k:Nat,k≤rs.length∧i=.int .i64 k∧(rs.take k).all (fun r=>fJ r.head r.body)=true∧Below w.heap.size w wr) (fun i _=>rs.length - (intOf i).toNat)
 case atStart=>exact ⟨0,ε,rfl,rfl,ϑ⟩
 case round=>
  obtain ⟨k,hk,rfl,I,hb⟩:=hrel;have HA:=η I;clear I;by_cases y:k < rs.length
  ·obtain ⟨b,o,Ae,ce,Af,cf,bk,rfl,_,d0,d1,d2,J,_⟩:=iP (aQ.below h hb) y
   have HS:=η (OQ rs k y HA.out);have U:=η (Rz rs k y);have a3:(0:Int)≤(k:Int):=by omega
   have a4:(k:Int) < (rs.length:Int):=by omega
   have a0:=η y;have c1:=ER rs[k] _ _ _ bk wr J;clear h J;generalize rs[k]=r at *;clear y;obtain ⟨⟨nm,args⟩,body⟩:=r;dsimp only at *
   go_wp2_with fail
   refine c1.mono ?_;rintro e w' ⟨rfl,a1⟩;have B':=hb.trans (a1.mono hb.size);clear c1;cases hv:fJ ⟨nm,args⟩ body
   ·have HV:=η (U.out hv)
    clear hv;go_wp2;go_ret;exact ⟨⟨_,rfl,by rw [HV.out]; simp⟩,B'⟩
   ·have HV:=η (HS.out.trans hv)
    clear hv;go_wp2;go_roundw
    case rel=>exact ⟨k+1,a0.out,by go_num,HV.out,B'⟩
    case measure=>have:=a0.out; simp [intOf]; omega
  ·have he:=η (show k=rs.length by omega)
   go_wp2;go_ret;exact ⟨⟨_,rfl,by have:=HA.out; rw [he.out,ϕ ν] at this; rw [this]; rfl⟩,hb⟩
theorem yJ (rs:List Ru) (v:Value) (bs:List Nat) (w:World) (h:eu w [v] rs bs):
  Calls Tryz.prog 187 #[v,.func (.func 188) #[] #[]] w fun e w'=>e=.returned (.bool (!rs.all fun r=>fJ r.head r.body))∧Below w.heap.size w w':=by
 have I:=Ef rs v bs w h;clear h
 go_enter Tryz.func187,Tryz.ntmps187
 go_wp2_with fail
 refine I.mono ?_;rintro e w' ⟨⟨z,rfl,y⟩,hb⟩;have J:=η y;clear y;go_wp2;go_ret;exact ⟨aG J.out,hb⟩
theorem LP (rs:List Ru) (v:Value) (bs:List Nat) (w:World) (h:eu w [v] rs bs) (hf:rs.length≤8) (hok:rs.all fC=true):
  Calls Tryz.prog 168 #[v] w fun e w'=>e=.returned (.bool (mP rs))∧Below w.heap.size w w':=by
 obtain ⟨Ad,cap,rfl,hl,hm⟩:=aj h;have a7:=aA (τ hl hm);have c1:=yI rs _ bs w h hf hok;have U:Hid (mP rs=(ay rs).any fun x=>decide (rs.length≤x)):=η rfl;have HL:=η (gG rs);clear hl hm h
 go_enter Tryz.func168,Tryz.ntmps168
 go_wp2_with fail
 refine c1.mono ?_;rintro e w1 ⟨hB,rfl,I,hmx⟩;clear c1 hB;have a4:=η hmx;clear hmx;generalize ay rs=xs at *;go_wp2
 go_loopw [4] (fun i wr=>∃ k:Nat,k≤rs.length∧i=.int .i64 k∧(∀ i,i < k→iV xs i < rs.length)∧nJ w rs xs wr) (fun i _=>rs.length - (intOf i).toNat)
 case atStart=>exact ⟨0,ε,rfl,fun i h=>by omega,I⟩
 case round=>
  obtain ⟨k,hk,rfl,y,I⟩:=hrel;have HA:=η y;have HI:=η I;clear y;by_cases J:k < rs.length
  ·have a8:(0:Int)≤(k:Int):=by omega
   have a5:(k:Int) < (rs.length:Int):=by omega
   have a1:=I.at J;have a6:=a4.out k;obtain ⟨a,ha⟩:∃ a,a=iV xs k:=⟨_,rfl⟩;rw [← ha] at a1 a6;by_cases a0:rs.length≤a
   ·have HZ:Hid (mP rs=true):=η (by
     rw [U.out,List.any_eq_true];have a2:k < xs.length:=by rw [HL.out]; exact J
     refine ⟨xs[k],δ a2,decide_eq_true ?_⟩;have:iV xs k=xs[k]:=by unfold iV; rw [List.getD_eq_getElem?_getD,Ψ a2]; rfl
     omega)
    have a3:(rs.length:Int)≤(a:Int):=by omega
    clear U HA ha I a0;go_wp2;go_ret;exact ⟨aG HZ.out.symm,HI.out.bel⟩
   ·have HZ:Hid (∀ i,i < k+1→iV xs i < rs.length):=η fun i hi=>by
     by_cases e:i=k
     ·subst e; omega
     ·exact HA.out i (by omega)
    have a3:¬ (rs.length:Int)≤(a:Int):=by omega
    clear U HA ha I a0;go_wp2;go_roundw
    case rel=>exact ⟨k+1,J,by go_num,HZ.out,HI.out⟩
    case measure=>simp [intOf]; omega
  ·have he:k=rs.length:=by omega
   have a5:¬ (k:Int) < (rs.length:Int):=by omega
   have HZ:Hid (mP rs=false):=η (by
    rw [U.out,List.any_eq_false];intro x hx;obtain ⟨i,hi,rfl⟩:=List.mem_iff_getElem.1 hx;have h1:=HA.out i (by rw [HL.out] at hi; omega);have:iV xs i=xs[i]:=by unfold iV; rw [List.getD_eq_getElem?_getD,Ψ hi]; rfl
    simp; omega)
   clear U HA I he;go_wp2;go_ret;exact ⟨aG HZ.out.symm,HI.out.bel⟩
theorem D.LQ {r:Ru} (h:fC r=true):iZ (fun p=>p.atom.args.length) r.body≤1000000∧r.head.args.length≤1000000:=by
 obtain ⟨h1,_,y⟩:=lD h;have J:=y r.head Γ;have U:=DZ (fun p:Pt=>p.atom.args.length) 3 r.body fun p I=>y p.atom (Δ _ (List.mem_map.2 ⟨p,I,rfl⟩))
 omega
theorem D.UI (rs:List Ru) (k:Nat) (h:k < rs.length) (h0:(rs.take k).all fC=true):(rs.take (k+1)).all fC=fC rs[k]:=by
 rw [ρ h,List.all_append,h0]; simp
theorem D.WE (rs:List Ru) (k:Nat) (h:k < rs.length) (h0:fC rs[k]=false):fH rs=1:=by
 unfold fH;rw [if_pos (List.all_eq_false.2 ⟨_,δ h,by simp [h0]⟩)]
theorem D.UJ (rs:List Ru) (k:Nat) (h:k < rs.length) (h0:(rs.take k).all (fun r=>fJ r.head r.body)=true):((rs.take (k+1)).all fun r=>fJ r.head r.body)=fJ rs[k].head rs[k].body:=by
 rw [ρ h,List.all_append,h0]; simp
theorem D.WG (rs:List Ru) (k:Nat) (h:k < rs.length) (h0:fJ rs[k].head rs[k].body=false):(rs.all fun r=>fJ r.head r.body)=false:=
 List.all_eq_false.2 ⟨_,δ h,by simp [h0]⟩
theorem uo (rs:List Ru) (v:Value) (bs:List Nat) (w:World) (h:eu w [v] rs bs):
  Calls Tryz.prog 105 #[v] w fun e w'=>e=.returned (.int .i64 (fH rs))∧Below w.heap.size w w':=by
 obtain ⟨Ad,cap,rfl,hl,hm⟩:=aj h;have ac:=aA (τ hl hm);have C1:=η fun w' (hb:Below w.heap.size w w') (hn:(aI rs).length≤1000000)=>OB rs _ bs w' (aQ.below h hb) hn
 have C3:=η fun w' (hb:Below w.heap.size w w') (hok:rs.all fC=true) (hf:rs.length≤8)=>LP rs _ bs w' (aQ.below h hb) hf hok
 clear hl hm
 go_enter Tryz.func105,Tryz.ntmps105
 go_wp2
 go_loopw [3] (fun i wr=>∃ k:Nat,k≤rs.length∧i=.int .i64 k∧(rs.take k).all fC=true∧Below w.heap.size w wr) (fun i _=>rs.length - (intOf i).toNat)
 case atStart=>exact ⟨0,ε,rfl,rfl,ϑ⟩
 case round=>
  obtain ⟨k,hk,rfl,J,hb⟩:=hrel;have HA:=η J;clear J;by_cases y:k < rs.length
  ·clear C1 C3
   obtain ⟨b,o,Ae,ce,Af,cf,bk,rfl,_,d0,d1,d2,a0,_⟩:=iP (aQ.below h hb) y;have HS:=η (UI rs k y HA.out);have I:=η (WE rs k y);have a7:(0:Int)≤(k:Int):=by omega
   have a3:(k:Int) < (rs.length:Int):=by omega
   have c1:=OC rs[k] _ _ _ bk wr a0;have a1:=η y;clear h a0;generalize rs[k]=r at *;clear y;obtain ⟨⟨nm,args⟩,body⟩:=r;dsimp only at *
   go_wp2_with fail
   refine c1.mono ?_;rintro e w2 ⟨rfl,a4⟩;have B2:=hb.trans (a4.mono hb.size);clear c1;cases h1:fC ⟨⟨nm,args⟩,body⟩
   ·have U:=η (I.out h1)
    clear h1 I HS;go_wp2;go_ret;exact ⟨eU (by simp [U.out]),B2⟩
   ·have U:=η (HS.out.trans h1)
    clear h1 I HS;go_wp2;go_roundw
    case rel=>exact ⟨k+1,a1.out,by go_num,U.out,B2⟩
    case measure=>have:=a1.out; simp [intOf]; omega
  ·have he:k=rs.length:=by omega
   have a3:¬ (k:Int) < (rs.length:Int):=by omega
   have hok:rs.all fC=true:=by have:=HA.out; rw [he,ϕ ν] at this; exact this
   clear HA he;by_cases hf:rs.length≤8
   ·have a8:¬ (8:Int) < (rs.length:Int):=by omega
    have hP:fH rs=if kC (aI rs)=false then 3 else if (rs.all fun r=>fJ r.head r.body)=false then 4 else if mP rs=true then 5 else 0:=by
     unfold fH; rw [if_neg (by simp [hok]),if_neg (by omega)]
    have a5:(aI rs).length≤1000000:=by have:=(lV hok).2; omega
    have C4:=η fun w' hb=>C1.out w' hb a5
    have C5:=η fun w' hb=>C3.out w' hb hok hf
    have HP:=η hP;have a9:=η hok;clear hok hf hP C1 C3 a5
    go_wp2_with fail
    refine (C4.out _ hb).mono ?_;rintro e w2 ⟨rfl,a4⟩;have B2:=hb.trans (a4.mono hb.size);clear C4;cases ha:kC (aI rs)
    ·have U:Hid (fH rs=3):=η (by rw [HP.out,if_pos ha])
     clear HP ha;go_wp2;go_ret;exact ⟨eU (by simp [U.out]),B2⟩
    ·replace HP:Hid (fH rs=if (rs.all fun r=>fJ r.head r.body)=false then 4 else if mP rs=true then 5 else 0):=η (by rw [HP.out,if_neg (by simp [ha])])
     clear ha hb a4;go_wp2
     go_loopw [4] (fun i wr=>∃ k:Nat,k≤rs.length∧i=.int .i64 k∧(rs.take k).all (fun r=>fJ r.head r.body)=true∧Below w.heap.size w wr) (fun i _=>rs.length - (intOf i).toNat)
     case atStart=>exact ⟨0,ε,rfl,rfl,B2⟩
     case round=>
      clear hk a3;obtain ⟨k,hk,rfl,J,hb⟩:=hrel;have HA:=η J;clear J;by_cases y:k < rs.length
      ·clear C5
       obtain ⟨b,o,Ae,ce,Af,cf,bk,rfl,_,d0,d1,d2,a0,_⟩:=iP (aQ.below h hb) y;have HS:=η (UJ rs k y HA.out);have I:=η (WG rs k y);have a7:(0:Int)≤(k:Int):=by omega
       have a3:(k:Int) < (rs.length:Int):=by omega
       have a2:=LQ (List.all_eq_true.1 a9.out _ (δ y));have c1:=Bl rs[k] _ _ _ bk wr a0 a2.1 a2.2;have a1:=η y;clear h a0 a2;generalize rs[k]=r at *;clear y;obtain ⟨⟨nm,args⟩,body⟩:=r;dsimp only at *
       go_wp2_with fail
       refine c1.mono ?_;rintro e w3 ⟨rfl,aa⟩;have B3:=hb.trans (aa.mono hb.size);clear c1;cases h1:fJ ⟨nm,args⟩ body
       ·have U:Hid (fH rs=4):=η (by rw [HP.out,if_pos (I.out h1)])
        clear h1 I HS HP;go_wp2;go_ret;exact ⟨eU (by simp [U.out]),B3⟩
       ·have U:=η (HS.out.trans h1)
        clear h1 I HS;go_wp2;go_roundw
        case rel=>exact ⟨k+1,a1.out,by go_num,U.out,B3⟩
        case measure=>have:=a1.out; simp [intOf]; omega
      ·have he:k=rs.length:=by omega
       have a3:¬ (k:Int) < (rs.length:Int):=by omega
       have a6:(rs.all fun r=>fJ r.head r.body)=true:=by have:=HA.out; rw [he,ϕ ν] at this; exact this
       replace HP:Hid (fH rs=if mP rs=true then 5 else 0):=η (by rw [HP.out,if_neg (by simp [a6])]);clear HA he a6 h
       go_wp2_with fail
       refine (C5.out _ hb).mono ?_;rintro e w4 ⟨rfl,ab⟩;have B4:=hb.trans (ab.mono hb.size);clear C5;cases hc:mP rs
       ·have U:Hid (fH rs=0):=η (by rw [HP.out,if_neg (by simp [hc])])
        clear HP hc;go_wp2;go_ret;exact ⟨eU (by simp [U.out]),B4⟩
       ·have U:Hid (fH rs=5):=η (by rw [HP.out,if_pos hc])
        clear HP hc;go_wp2;go_ret;exact ⟨eU (by simp [U.out]),B4⟩
   ·have a8:(8:Int) < (rs.length:Int):=by omega
    have U:Hid (fH rs=2):=η (by unfold fH; rw [if_neg (by simp [hok]),if_pos (by omega)]);clear hok hf C1 C3 h;go_wp2;go_ret;exact ⟨eU (by simp [U.out]),hb⟩
theorem nV (xs:List A) (v:Value) (bs:List Nat) (w:World) (h:aB w [v] xs bs):
  Calls Tryz.prog 140 #[v] w fun e w'=>e=.returned (.bool (aU xs))∧Below w.heap.size w w':=by
 obtain ⟨J,cap,rfl,U,hm⟩:=aj h;have I:=LD xs _ bs 300 w h (by omega);rw [← qO] at I;generalize aU xs=r at *;clear h hm
 go_enter Tryz.func140,Tryz.ntmps140
 go_wp2_with fail
 refine I.mono ?_;rintro e w1 ⟨rfl,y⟩;go_wp2;go_ret;exact ⟨rfl,y⟩
theorem nX (xs:List A) (v:Value) (bs:List Nat) (w:World) (h:aB w [v] xs bs):
  Calls Tryz.prog 18 #[v] w fun e w'=>e=.returned (.bool (aU xs))∧Below w.heap.size w w':=by
 obtain ⟨Ad,cap,rfl,hl,hm⟩:=aj h;have a9:=aA (τ hl hm);clear hm;by_cases I:xs.length≤300
 ·have a2:¬ (300:Int) < (xs.length:Int):=by omega
  have a3:¬ 300 < xs.length:=by omega
  have HE:Hid (aU xs=okB xs):=η (by rw [qO,decide_eq_true I,Bool.and_true]);clear I
  go_enter Tryz.func18,Tryz.ntmps18
  go_wp2
  go_loopw [10] (fun i wr=>∃ k:Nat,k≤xs.length∧i=.int .i64 k∧Je xs k∧Below w.heap.size w wr) (fun i _=>xs.length - (intOf i).toNat)
  case atStart=>exact ⟨0,ε,rfl,Ns _,ϑ⟩
  case round=>
   obtain ⟨k,hk,rfl,J,hb⟩:=hrel;have HA:=η J;clear J;by_cases U:k < xs.length
   ·have aa:(0:Int)≤(k:Int):=by omega
    have ab:(k:Int) < (xs.length:Int):=by omega
    obtain ⟨b,o,Ae,ce,bk,rfl,_,c0,c1,a4,_⟩:=dU (ak.below h hb) U;have hA:Below wr.heap.size wr (wr.alloc (.cells #[.string xs[k].name,.slice Ae xs[k].args.length ce] 33)):=ζ;have hg:=OL xs[k] _ _ bk _ (au.below a4 hA);have a5:=η (fun hf=>Nu (k:=k) HA.out U hf);have a6:=η (fun hf=>Pn U hf);generalize dN xs[k]=x at *;clear h a4
    go_wp2_with fail
    refine hg.mono ?_;rintro e w' ⟨rfl,a0⟩;have B':=hb.trans ((hA.trans (a0.mono hA.size)).mono hb.size);cases x
    ·go_wp2
     go_ret;exact ⟨aG (by rw [HE.out,a6.out (by simp)]),B'⟩
    ·go_wp2
     go_roundw
     case rel=>exact ⟨k+1,by omega,by go_num,a5.out (by simp),B'⟩
     case measure=>simp [intOf]; omega
   ·have he:k=xs.length:=by omega
    have HO:Hid (okB xs=fU xs):=η (by
     have hf:=HA.out;rw [he] at hf;unfold okB
     rw [show xs.all dN=true from by
      rw [List.all_eq_true]; intro y hy
      obtain ⟨j,hj,rfl⟩:=List.mem_iff_getElem.1 hy
      exact hf j hj hj,Bool.true_and])
    have ac:¬ (k:Int) < (xs.length:Int):=by omega
    have hs:=iy Ad xs.length cap wr;have a7:=fun w' (a0:Below wr.heap.size wr w')=>KA xs _ bs w' (ak.below (ak.below h hb) a0)
    clear h he HA
    go_wp2_with fail
    refine hs.mono ?_;rintro e w1 ⟨rfl,a1⟩
    go_wp2_with fail
    refine (a7 _ a1).mono ?_;rintro e w2 ⟨rfl,a8⟩;go_wp2;go_ret;exact ⟨aG (by rw [HE.out,HO.out]),hb.trans ((a1.trans (a8.mono a1.size)).mono hb.size)⟩
 ·have a2:(300:Int) < (xs.length:Int):=by omega
  have a3:300 < xs.length:=by omega
  have HE:Hid (aU xs=false):=η (by rw [qO,decide_eq_false I,Bool.and_false]);clear I h
  go_enter Tryz.func18,Tryz.ntmps18
  go_wp2;go_ret;exact ⟨aG HE.out.symm,ϑ⟩
end Go.Proofs.YtkjinanbccloeaaGreatDoor
