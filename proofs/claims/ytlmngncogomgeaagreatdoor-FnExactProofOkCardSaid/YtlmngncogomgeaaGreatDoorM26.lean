/- Of the proof of FnExactProofOk: AllS, ChkS, WdI. -/
import Derived.Test.YtlmngncogomgeaaGreatDoorM20
import Derived.Test.YtlmngncogomgeaaGreatDoorM21
import Derived.Test.YtlmngncogomgeaaGreatDoorM18
import Derived.Test.YtlmngncogomgeaaGreatDoorM19
set_option linter.unusedVariables false
set_option maxHeartbeats 8000000
set_option maxRecDepth 100000
namespace Go.Proofs.YtlmngncogomgeaaGreatDoor
open Go.RowKit D
attribute [local go_sem ↓] Go.wp_at_zero Go.wp_at_succ
theorem D.Jo (w:World):jA w [.slice none 0 0] [] []:=⟨none,0,rfl,ν,ε,fun _=>rfl,fun h=>absurd rfl h⟩
theorem D.Rz (w:World):iC w [.slice none 0 0,.slice none 0 0] [] []:=⟨_,_,[],[],rfl,rfl,Jo w,Jo w⟩
theorem D.O4 (w:World):∃ I,qQ (w.alloc (.cells #[.slice none 0 0,.slice none 0 0] 198)) [.slice (some ⟨w.heap.size,0,none⟩) 1 1] [[]] I:=by
 have hr:aV 2 iC (w.alloc (.cells #[.slice none 0 0,.slice none 0 0] 198)) [.slice none 0 0,.slice none 0 0] [([]:Bd)] []:=aV.dY vK (Rz _)
 have y:(w.alloc (.cells #[.slice none 0 0,.slice none 0 0] 198)).ownsRow w.heap.size 198 2 (.slice (some ⟨w.heap.size,0,none⟩) 1 1) 1 [.slice none 0 0,.slice none 0 0]:=
  ⟨rfl,.inr ⟨w.heap.size,1,_,rfl,ν,ω w _,ν,by decide,by simp,by simp⟩⟩
 obtain ⟨I,h,_⟩:=hr.slice y;exact ⟨I,h⟩
theorem Uw (list:List A) (body:List Pt) (v0 v1:Value) (bl bb:List Nat) (w:World) (hl:aQ w [v0] list bl) (hb:gJ w [v1] body bb)
  (hasc:iF list=true) (hn:list.length≤300) (hm:body.length≤4) (hbl:∀ p ∈ body,p.atom.args.length≤1000):
  Calls Tryz.prog 128 #[v0,v1] w fun e w'=>Below w.heap.size w w'∧∃ v bs,e=.returned v∧qQ w' [v] (allB list body) bs:=by
 obtain ⟨Al,pl,rfl,hl1,hl2⟩:=ai hl;obtain ⟨Ab,pb,rfl,hb1,hb2⟩:=ai hb;obtain ⟨i0,hi,hz0,hz1,hz2⟩:=info_parts Ez;have HL:=η hl;have HB:=η hb;have HBL:=η hbl;have HM:=η hm;clear hl hb hl1 hl2 hb1 hb2 hbl;obtain ⟨bs0,h0⟩:=O4 w;have H0:=η h0;have hA0:Below w.heap.size w (w.alloc (.cells #[.slice none 0 0,.slice none 0 0] 198)):=ζ;clear h0
 go_enter Tryz.func128,Tryz.ntmps128
 go_wp2_with fail
 generalize w.alloc (.cells #[.slice none 0 0,.slice none 0 0] 198)=w0 at *
 go_loopw [5,6,7,8,9,10,11] (fun o i _ _ _ _ _ wr=>∃ (k:Nat) (out:List Bd) (Am:Option Addr) (cm:Nat) (bs:List Nat),k≤body.length∧i=.int .i64 k∧o=.slice Am out.length cm∧Hid (out=wQ list (body.take k))∧out.length≤300 ^ k∧Hid (∀ b ∈ out,b.length≤1000 * k)∧Hid (qQ wr [.slice Am out.length cm] out bs)∧Hid (Below w.heap.size w wr)) (fun _ i _ _ _ _ _ _=>body.length - (intOf i).toNat)
 case atStart=>exact ⟨0,[[]],_,_,_,ε,rfl,rfl,η rfl,by simp,η (fun b hb=>by rw [ώ.1 hb]; simp),H0,η hA0⟩
 case round=>
  obtain ⟨k,out,Am,cm,bs,hk,rfl,rfl,ho,hol,hoe,hO,hBw⟩:=hrel;clear H0 hA0;by_cases hlt:k < body.length
  ·have hk0:(0:Int)≤(k:Int):=by omega
   have hk1:(k:Int) < (body.length:Int):=by omega
   have hk4:k≤3:=by omega
   have hol3:out.length≤27000000:=τ hol (τ (Nat.pow_le_pow_right (by omega) hk4) (by decide));obtain ⟨pb1,po,Ae,ce,bk,rfl,_,e0,e1,e2,hel,_⟩:=eU (aU.below HB.out hBw.out) hlt;have HAT:=η (eX hel);have HRS:=η (sG list body k hlt);have HAL:=η (HBL.out _ (δ hlt));generalize wr=wo at *;generalize body[k]=p at *;obtain ⟨pno,px⟩:=p;dsimp only at *;clear hel
   cases pno with
   | true=>
    have HE:Hid (out=wQ list (body.take (k+1))):=η (by rw [HRS.out,← ho.out]; rfl);clear HRS HAT HAL e1 e2;go_wp2;go_roundw
    case rel=>exact ⟨k+1,out,Am,cm,bs,hlt,by go_num,rfl,HE,τ hol (Nat.pow_le_pow_right (by omega) (by omega)),η (fun b hb=>by have:=hoe.out b hb; omega),hO,hBw⟩
    case measure=>simp [intOf]; omega
   | false=>
    have HE:Hid (out.flatMap (jB list px)=wQ list (body.take (k+1))):=η (by rw [HRS.out,← ho.out]; rfl);clear HRS ho;have hA1:Below wo.heap.size wo (wo.alloc (.cells #[] 198)):=ζ;have hE1:cu 2 iC wo.heap.size 198 (wo.alloc (.cells #[] 198)) (.slice (some ⟨wo.heap.size,0,none⟩) 0 0) [] [] []:=cu.empty (ω wo _) ν
    go_wp2_with fail
    generalize wo.alloc (.cells #[] 198)=w1 at *
    go_loopw [7,8,9,10,11] (fun m i _ _ _ wr=>∃ (q:Nat) (xs:List Bd) (An:Option Addr) (cn:Nat) (L:List Value) (bn:List Nat),q≤out.length∧i=.int .i64 q∧m=.slice An xs.length cn∧Hid (xs=(out.take q).flatMap (jB list px))∧Hid (cu 2 iC wo.heap.size 198 wr (.slice An xs.length cn) L xs bn)∧Hid (Below wo.heap.size wo wr)) (fun _ i _ _ _ _=>out.length - (intOf i).toNat)
    case atStart=>exact ⟨0,[],_,_,_,_,ε,rfl,rfl,η rfl,η hE1,η hA1⟩
    case round=>
     obtain ⟨q,xs,An,cn,L,bn,hq,rfl,rfl,hxs,hC,hB1⟩:=hrel;clear hE1 hA1;by_cases hqt:q < out.length
     ·have hq0:(0:Int)≤(q:Int):=by omega
      have hq1:(q:Int) < (out.length:Int):=by omega
      obtain ⟨ab1,ao,A1,p1,A2,p2,bq,rfl,_,d0,d1,hbd,hsub⟩:=xC hO.out hqt;have HFS:=η (Ou list px out q hqt);have HBN:=η (hoe.out _ (δ hqt))
      have HXL:Hid (xs.length≤q * list.length):=η (by
       rw [hxs.out];refine τ (wR _) ?_;rw [List.length_take]
       exact Nat.mul_le_mul (Nat.min_le_left _ _) ν)
      have HBD:=η hbd;have HFAR:Hid (∀ c ∈ bq,c < wo.heap.size):=η fun c hc=>lm.lt hO.out c (hsub c hc)
      generalize wr=w2 at *;generalize out[q]=b0 at *;clear hbd hsub
      go_wp2_with fail
      go_loopw [7,9,10,11] (fun m i _ _ wr=>∃ (j:Nat) (ys:List Bd) (An:Option Addr) (cn:Nat) (L:List Value) (bn:List Nat),j≤list.length∧i=.int .i64 j∧m=.slice An ys.length cn∧Hid (ys=(out.take q).flatMap (jB list px) ++ jB (list.take j) px b0)∧Hid (cu 2 iC wo.heap.size 198 wr (.slice An ys.length cn) L ys bn)∧Hid (Below wo.heap.size wo wr)) (fun _ i _ _ _=>list.length - (intOf i).toNat)
      case atStart=>exact ⟨0,xs,An,cn,L,bn,ε,rfl,rfl,η (by rw [hxs.out]; simp [jB]),hC,hB1⟩
      case round=>
       obtain ⟨j,ys,An,cn,L,bn,hj,rfl,rfl,hys,hC,hB2⟩:=hrel;by_cases hjt:j < list.length
       ·have hj0:(0:Int)≤(j:Int):=by omega
        have hj1:(j:Int) < (list.length:Int):=by omega
        have hBW:=hBw.out.trans (hB2.out.mono hBw.out.size);obtain ⟨lb1,lo,Af,cf,bf,rfl,_,f0,f1,hfe,_⟩:=dQ (au.below HL.out hBW) hjt;have g1:=ξ hB2.out e1;have g2:=ξ hB2.out e2;have g3:=ξ hB2.out d0;have g4:=ξ hB2.out d1;have n1:pb1 < wr.heap.size:=lt_of_cell g1;have n2:ab1 < wr.heap.size:=lt_of_cell g3;have n3:lb1 < wr.heap.size:=lt_of_cell f0;have HF1:=η (Ll list px b0 j hjt);generalize list[j]=f at *;have q5:=fun w' (hb:Below wr.heap.size wr w')=>yL px f b0 _ _ _ _ _ _ _ _ _ w' (ak.below HAT.out (hB2.out.trans (hb.mono hB2.out.size))) (ak.below hfe hb) (bJ.below HBD.out (hB2.out.trans (hb.mono hB2.out.size))) (by have:=HBN.out; omega) (τ HAL.out (by omega))
        have Q5:=η q5;have hD1:Below wr.heap.size wr wr.drew:=Below.drew ϑ;have hD2:Below wr.heap.size wr (wr.alloc (.cells #[.slice none 0 0,.slice none 0 0] 198)).drew:=(ζ).drew;have HD2:=η hD2;have HD1:=η hD1;clear q5 hfe hD1 hD2
        go_wp2_with fail
        go_region_held3 (fun w'=>w'.cell? ⟨pb1,po+k * 3+1,none⟩=some (.string px.name)∧w'.cell? ⟨pb1,po+k * 3+2,none⟩=some (.slice Ae px.args.length ce)∧w'.cell? ⟨lb1,lo+j * 2,none⟩=some (.string f.name)∧w'.cell? ⟨lb1,lo+j * 2+1,none⟩=some (.slice Af f.args.length cf)∧w'.cell? ⟨ab1,ao+q * 2,none⟩=some (.slice A1 b0.length p1)∧w'.cell? ⟨ab1,ao+q * 2+1,none⟩=some (.slice A2 b0.length p2))
         (first | go_keep | exact hqk | exact hqk2)
         (first
          | (go_at_call 135; first
            | (refine (Q5.out _ HD1.out).mono ?_; rintro e w6 ⟨hb6,x0,x1,b6,rfl,h6,hfar6⟩; have B6:=HD1.out.trans (hb6.mono HD1.out.size); have hqk:=ι (ξ B6 g1) (ι (ξ B6 g2) (ι (ξ B6 f0) (ι (ξ B6 f1) (ι (ξ B6 g3) (ξ B6 g4))))); obtain ⟨B3,q3,B4,q4,hcs⟩:=jD h6; simp only [List.cons.injEq,and_true] at hcs; obtain ⟨rfl,rfl⟩:=hcs; have m1:=lt_of_cell (ξ B6 g1); have m2:=lt_of_cell (ξ B6 g3); have m3:=lt_of_cell (ξ B6 f0))
            | (refine (Q5.out _ HD2.out).mono ?_; rintro e w6 ⟨hb6,x0,x1,b6,rfl,h6,hfar6⟩; have B6:=HD2.out.trans (hb6.mono HD2.out.size); have hqk:=ι (ξ B6 g1) (ι (ξ B6 g2) (ι (ξ B6 f0) (ι (ξ B6 f1) (ι (ξ B6 g3) (ξ B6 g4))))); obtain ⟨B3,q3,B4,q4,hcs⟩:=jD h6; simp only [List.cons.injEq,and_true] at hcs; obtain ⟨rfl,rfl⟩:=hcs; have m1:=lt_of_cell (ξ B6 g1); have m2:=lt_of_cell (ξ B6 g3); have m3:=lt_of_cell (ξ B6 f0); have hM6:=(hb6.block wr.heap.size (by show wr.heap.size < (World.alloc wr _).heap.size; simp)).trans (ω wr (.cells #[.slice none 0 0,.slice none 0 0] 198)); have fz0:w6.frozen? ⟨wr.heap.size,0,none⟩=false:=aB hM6; have fz1:w6.frozen? ⟨wr.heap.size,1,none⟩=false:=aB hM6; have cz0:w6.cell? ⟨wr.heap.size,0,none⟩=some (.slice none 0 0):=aj hM6; have cz1:w6.cell? ⟨wr.heap.size,1,none⟩=some (.slice none 0 0):=aj hM6; have hqk2:=ι ((World.cell?_of_block (π _ ⟨wr.heap.size,1,none⟩ (.slice B4 (aC px f b0).1.length q4) _ (by show pb1 ≠ wr.heap.size; omega))).trans ((World.cell?_of_block (π _ ⟨wr.heap.size,0,none⟩ (.slice B3 (aC px f b0).1.length q3) _ (by show pb1 ≠ wr.heap.size; omega))).trans (ξ B6 g1))) (ι ((World.cell?_of_block (π _ ⟨wr.heap.size,1,none⟩ (.slice B4 (aC px f b0).1.length q4) _ (by show pb1 ≠ wr.heap.size; omega))).trans ((World.cell?_of_block (π _ ⟨wr.heap.size,0,none⟩ (.slice B3 (aC px f b0).1.length q3) _ (by show pb1 ≠ wr.heap.size; omega))).trans (ξ B6 g2))) (ι ((World.cell?_of_block (π _ ⟨wr.heap.size,1,none⟩ (.slice B4 (aC px f b0).1.length q4) _ (by show lb1 ≠ wr.heap.size; omega))).trans ((World.cell?_of_block (π _ ⟨wr.heap.size,0,none⟩ (.slice B3 (aC px f b0).1.length q3) _ (by show lb1 ≠ wr.heap.size; omega))).trans (ξ B6 f0))) (ι ((World.cell?_of_block (π _ ⟨wr.heap.size,1,none⟩ (.slice B4 (aC px f b0).1.length q4) _ (by show lb1 ≠ wr.heap.size; omega))).trans ((World.cell?_of_block (π _ ⟨wr.heap.size,0,none⟩ (.slice B3 (aC px f b0).1.length q3) _ (by show lb1 ≠ wr.heap.size; omega))).trans (ξ B6 f1))) (ι ((World.cell?_of_block (π _ ⟨wr.heap.size,1,none⟩ (.slice B4 (aC px f b0).1.length q4) _ (by show ab1 ≠ wr.heap.size; omega))).trans ((World.cell?_of_block (π _ ⟨wr.heap.size,0,none⟩ (.slice B3 (aC px f b0).1.length q3) _ (by show ab1 ≠ wr.heap.size; omega))).trans (ξ B6 g3))) ((World.cell?_of_block (π _ ⟨wr.heap.size,1,none⟩ (.slice B4 (aC px f b0).1.length q4) _ (by show ab1 ≠ wr.heap.size; omega))).trans ((World.cell?_of_block (π _ ⟨wr.heap.size,0,none⟩ (.slice B3 (aC px f b0).1.length q3) _ (by show ab1 ≠ wr.heap.size; omega))).trans (ξ B6 g4))))))))))
        all_goals
         have HFO:Hid (∀ c ∈ b6,(Value.slice An ys.length cn).ownBlock ≠ some c):=η fun c hc e=>by
          have h1:=ja hC.out.own c e
          rcases hfar6 c hc with h2 | h2
          ·have:=HFAR.out c h2
           omega
          ·simp at h2
           omega
         have HML:=η (vz px f b0)
         first
          | (have hMf:=bY (o:=1) (u:=.slice B4 (aC px f b0).1.length q4) (bY (o:=0) (u:=.slice B3 (aC px f b0).1.length q3) hM6); have z0:((w6.setCell ⟨wr.heap.size,0,none⟩ (.slice B3 (aC px f b0).1.length q3)).setCell ⟨wr.heap.size,1,none⟩ (.slice B4 (aC px f b0).1.length q4)).cell? ⟨wr.heap.size,0,none⟩=some (.slice B3 (aC px f b0).1.length q3):=aj hMf; have z1:((w6.setCell ⟨wr.heap.size,0,none⟩ (.slice B3 (aC px f b0).1.length q3)).setCell ⟨wr.heap.size,1,none⟩ (.slice B4 (aC px f b0).1.length q4)).cell? ⟨wr.heap.size,1,none⟩=some (.slice B4 (aC px f b0).1.length q4):=aj hMf; clear hMf; have HBf:=η ((B6.setCell (p:=⟨wr.heap.size,0,none⟩) ν (.slice B3 (aC px f b0).1.length q3)).setCell (p:=⟨wr.heap.size,1,none⟩) ν (.slice B4 (aC px f b0).1.length q4)); have H6f:=η (lY (N:=wr.heap.size) (y0:=.slice B3 (aC px f b0).1.length q3) (y1:=.slice B4 (aC px f b0).1.length q4) h6 (fun hc=>by
            rcases hfar6 _ hc with h2 | h2
            ·have:=HFAR.out _ h2
             have:=hB2.out.size;omega
            ·exact absurd h2 (by show ¬ (World.alloc wr _).heap.size≤_; simp))); clear B6 hqk hqk2 m1 m2 m3 hb6 hfar6 h6 Q5 HD1 HD2 hM6 fz0 fz1 cz0 cz1; generalize hwf:(w6.setCell ⟨wr.heap.size,0,none⟩ (.slice B3 (aC px f b0).1.length q3)).setCell ⟨wr.heap.size,1,none⟩ (.slice B4 (aC px f b0).1.length q4)=wf at *; clear hwf)
          | (have hAf:=(Below.refl w6.heap.size w6).alloc ν (.cells #[.slice B3 (aC px f b0).1.length q3,.slice B4 (aC px f b0).1.length q4] 198); have HBf:=η (B6.trans (hAf.mono B6.size)); have hMf:=ω w6 (.cells #[.slice B3 (aC px f b0).1.length q3,.slice B4 (aC px f b0).1.length q4] 198); have z0:(w6.alloc (.cells #[.slice B3 (aC px f b0).1.length q3,.slice B4 (aC px f b0).1.length q4] 198)).cell? ⟨w6.heap.size,0,none⟩=some (.slice B3 (aC px f b0).1.length q3):=aj hMf; have z1:(w6.alloc (.cells #[.slice B3 (aC px f b0).1.length q3,.slice B4 (aC px f b0).1.length q4] 198)).cell? ⟨w6.heap.size,1,none⟩=some (.slice B4 (aC px f b0).1.length q4):=aj hMf; clear hMf; have H6f:=η (bJ.below h6 hAf); clear hAf B6 hqk m1 m2 m3 hb6 hfar6 h6 Q5 HD1 HD2; generalize hwf:w6.alloc (.cells #[.slice B3 (aC px f b0).1.length q3,.slice B4 (aC px f b0).1.length q4] 198)=wf at *; clear hwf)
         have HXL2:Hid (ys.length≤8200000000):=η (by
          rw [hys.out,χ];have h1:=wR (list:=list) (a:=px) (out.take q);have h2:=Eh (list.take j) px b0;rw [List.length_take] at h1 h2;have h3:min q out.length * list.length≤27000000 * 300:=Nat.mul_le_mul (τ (Nat.min_le_right _ _) hol3) hn
          omega)
         cases hmf:(aC px f b0).2 with
         | false=>
          have HE2:Hid (ys=(out.take q).flatMap (jB list px) ++ jB (list.take (j+1)) px b0):=η (by rw [HF1.out,hmf,hys.out]; simp);have HC2:=η (hC.out.below bJ HBf.out);have HB3:=η (hB2.out.trans (HBf.out.mono hB2.out.size));clear hmf HF1 hC hB2 HBf;go_wp2;go_roundw
          case rel=>exact ⟨j+1,ys,An,cn,L,bn,hjt,by go_num,rfl,HE2,HC2,HB3⟩
          case measure=>simp [intOf]; omega
         | true=>
          have HE2:Hid (ys ++ [(aC px f b0).1]=(out.take q).flatMap (jB list px) ++ jB (list.take (j+1)) px b0):=η (by rw [HF1.out,hmf,hys.out]; simp);have HC2:=η (hC.out.below bJ HBf.out);have HB3:=η (hB2.out.trans (HBf.out.mono hB2.out.size));clear hmf HF1 hC hB2 HBf;generalize (aC px f b0).1=b1 at *;have hAt:Below wf.heap.size wf (wf.alloc (.cells #[.slice B3 b1.length q3,.slice B4 b1.length q4] 198)):=ζ
          have HLL:Hid (cu 2 iC wo.heap.size 198 (wf.alloc (.cells #[.slice B3 b1.length q3,.slice B4 b1.length q4] 198)) (.slice An ys.length cn) L ys bn∧aV 2 iC (wf.alloc (.cells #[.slice B3 b1.length q3,.slice B4 b1.length q4] 198)) [.slice B3 b1.length q3,.slice B4 b1.length q4] [b1] b6∧Lies (wf.alloc (.cells #[.slice B3 b1.length q3,.slice B4 b1.length q4] 198)) (some ⟨wf.heap.size,0,none⟩) [.slice B3 b1.length q3,.slice B4 b1.length q4]∧Below wo.heap.size wo (wf.alloc (.cells #[.slice B3 b1.length q3,.slice B4 b1.length q4] 198))∧wo.heap.size≤(wf.alloc (.cells #[.slice B3 b1.length q3,.slice B4 b1.length q4] 198)).heap.size):=
           η ⟨HC2.out.below bJ hAt,aV.dY vK (bJ.below H6f.out hAt),aS (ω wf _),HB3.out.trans (hAt.mono HB3.out.size),τ HB3.out.size hAt.size⟩
          have H63:Hid (ys.length+1≤maxLen):=η (by have:=HXL2.out; unfold maxLen; omega);have HBY:Hid ((ys.length+1) * 48≤140737488355328):=η (by have:=HXL2.out; omega);clear hAt HC2 HB3 H6f
          go_wp2_with (at_builtin; refine gU rfl _ _ _ rfl wo.heap.size 198 i0 (.agg #[.slice none 0 0,.slice none 0 0]) 2 48 Tryz.underlying194 hi hz0 hz1 hz2 rfl (Θ 1) bJ (.slice An ys.length cn) ys.length L _ bn rfl HLL.out.1 rfl (some ⟨wf.heap.size,0,none⟩) 1 1 _ [b1] b6 rfl HLL.out.2.1 rfl HLL.out.2.2.1 HFO.out H63.out HBY.out wo wo.heap.size HLL.out.2.2.2.1 ν HLL.out.2.2.2.2 ?_; intro A4 c4 w4 hC4 hB4 hS4 hG4; have HZ:=η (ι hC4 hB4); clear hC4 hB4 hS4 hG4)
          go_roundw
          case rel=>exact ⟨j+1,ys ++ [b1],A4,c4,_,_,hjt,by go_num,by rw [χ]; rfl,HE2,by rw [χ]; exact η HZ.out.1,η HZ.out.2⟩
          case measure=>simp [intOf]; omega
       ·have he:j=list.length:=by omega
        have hj1:¬ (j:Int) < (list.length:Int):=by omega
        have HE2:Hid (ys=(out.take (q+1)).flatMap (jB list px)):=η (by rw [hys.out,HFS.out,he,ϕ ν]);clear he hj;go_wp2;go_roundw
        case rel=>exact ⟨q+1,ys,An,cn,L,bn,hqt,by go_num,rfl,HE2,hC,hB2⟩
        case measure=>simp [intOf]; omega
     ·have he:q=out.length:=by omega
      have hq1:¬ (q:Int) < (out.length:Int):=by omega
      have HE2:Hid (xs=wQ list (body.take (k+1))):=η (by rw [hxs.out,he,ϕ ν,HE.out])
      have HXL:Hid (xs.length≤300 ^ (k+1)):=η (by
       rw [hxs.out,he,ϕ ν];refine τ (wR _) ?_;rw [Nat.pow_succ]
       exact Nat.mul_le_mul hol hn)
      have HXE:Hid (∀ b ∈ xs,b.length≤1000 * (k+1)):=η (fun b hb=>by
       rw [hxs.out,he,ϕ ν] at hb;obtain ⟨b1,h1,h2⟩:=List.mem_flatMap.1 hb;have:=hoe.out b1 h1;have:=Ls h2;have:=HAL.out
       omega)
      obtain ⟨bx,hX,_⟩:=hC.out.slice;have HX:=η hX;have HBX:=η (hBw.out.trans (hB1.out.mono hBw.out.size));clear he hC hxs hX;go_wp2;go_roundw
      case rel=>exact ⟨k+1,xs,An,cn,bx,hlt,by go_num,rfl,HE2,HXL.out,HXE,HX,HBX⟩
      case measure=>simp [intOf]; omega
  ·have he:k=body.length:=by omega
   have hk1:¬ (k:Int) < (body.length:Int):=by omega
   have hk4:k≤4:=by omega
   have hol4:out.length≤10000000000:=τ hol (τ (Nat.pow_le_pow_right (by omega) hk4) (by decide));have HE:Hid (out.filter (dW list body)=allB list body):=η (by unfold allB; rw [ho.out,he,ϕ ν]);have q5:=DI list body out _ _ _ bl bb bs wr (au.below HL.out hBw.out) (aU.below HB.out hBw.out) hO.out hasc hol4 (fun p hp=>τ (HBL.out p hp) (by omega));rw [HE.out] at q5;clear he ho
   go_wp2_with fail
   refine q5.mono ?_;rintro e w5 ⟨hb5,v5,b5,rfl,h5⟩;have B5:=hBw.out.trans (hb5.mono hBw.out.size);have H5:=η h5;clear q5 h5 hb5;go_wp2;go_ret;exact ⟨B5,_,_,rfl,H5.out⟩
theorem Jp (rs:List Ru) (v:Value) (bs:List Nat) (w:World) (h:dD w [v] rs bs) (hf:rs.length≤8) (hok:rs.all dS=true):
  Calls Tryz.prog 175 #[v] w fun e w'=>e=.returned (.bool (kW rs))∧Below w.heap.size w w':=by
 obtain ⟨Ad,cap,rfl,hl,hm⟩:=ai h;have a7:=ay (τ hl hm);have c1:=xE rs _ bs w h hf hok;have U:Hid (kW rs=(aF rs).any fun x=>decide (rs.length≤x)):=η rfl;have HL:=η (fF rs);clear hl hm h
 go_enter Tryz.func175,Tryz.ntmps175
 go_wp2_with fail
 refine c1.mono ?_;rintro e w1 ⟨hB,rfl,I,hmx⟩;clear c1 hB;have a4:=η hmx;clear hmx;generalize aF rs=xs at *;go_wp2
 go_loopw [4] (fun i wr=>∃ k:Nat,k≤rs.length∧i=.int .i64 k∧(∀ i,i < k→iw xs i < rs.length)∧lJ w rs xs wr) (fun i _=>rs.length - (intOf i).toNat)
 case atStart=>exact ⟨0,ε,rfl,fun i h=>by omega,I⟩
 case round=>
  obtain ⟨k,hk,rfl,y,I⟩:=hrel;have HA:=η y;have HI:=η I;clear y;by_cases J:k < rs.length
  ·have a8:(0:Int)≤(k:Int):=by omega
   have a5:(k:Int) < (rs.length:Int):=by omega
   have a1:=I.at J;have a6:=a4.out k;obtain ⟨a,ha⟩:∃ a,a=iw xs k:=⟨_,rfl⟩;rw [← ha] at a1 a6;by_cases a0:rs.length≤a
   ·have HZ:Hid (kW rs=true):=η (by
     rw [U.out,List.any_eq_true];have a2:k < xs.length:=by rw [HL.out]; exact J
     refine ⟨xs[k],δ a2,decide_eq_true ?_⟩;have:iw xs k=xs[k]:=by unfold iw; rw [List.getD_eq_getElem?_getD,Ψ a2]; rfl
     omega)
    have a3:(rs.length:Int)≤(a:Int):=by omega
    clear U HA ha I a0;go_wp2;go_ret;exact ⟨aA HZ.out.symm,HI.out.bel⟩
   ·have HZ:Hid (∀ i,i < k+1→iw xs i < rs.length):=η fun i hi=>by
     by_cases e:i=k
     ·subst e; omega
     ·exact HA.out i (by omega)
    have a3:¬ (rs.length:Int)≤(a:Int):=by omega
    clear U HA ha I a0;go_wp2;go_roundw
    case rel=>exact ⟨k+1,J,by go_num,HZ.out,HI.out⟩
    case measure=>simp [intOf]; omega
  ·have he:k=rs.length:=by omega
   have a5:¬ (k:Int) < (rs.length:Int):=by omega
   have HZ:Hid (kW rs=false):=η (by
    rw [U.out,List.any_eq_false];intro x hx;obtain ⟨i,hi,rfl⟩:=List.mem_iff_getElem.1 hx;have h1:=HA.out i (by rw [HL.out] at hi; omega);have:iw xs i=xs[i]:=by unfold iw; rw [List.getD_eq_getElem?_getD,Ψ hi]; rfl
    simp; omega)
   clear U HA I he;go_wp2;go_ret;exact ⟨aA HZ.out.symm,HI.out.bel⟩
theorem D.Jq {r:Ru} (h:dS r=true):dh (fun p=>p.atom.args.length) r.body≤1000000∧r.head.args.length≤1000000:=by
 obtain ⟨h1,_,y⟩:=jX h;have J:=y r.head Γ;have U:=L8 (fun p:Pt=>p.atom.args.length) 3 r.body fun p I=>y p.atom (Δ _ (List.mem_map.2 ⟨p,I,rfl⟩))
 omega
theorem D.RD (rs:List Ru) (k:Nat) (h:k < rs.length) (h0:(rs.take k).all dS=true):(rs.take (k+1)).all dS=dS rs[k]:=by
 rw [ρ h,List.all_append,h0]; simp
theorem D.Ux (rs:List Ru) (k:Nat) (h:k < rs.length) (h0:dS rs[k]=false):eH rs=1:=by
 unfold eH;rw [if_pos (List.all_eq_false.2 ⟨_,δ h,by simp [h0]⟩)]
theorem D.RF (rs:List Ru) (k:Nat) (h:k < rs.length) (h0:(rs.take k).all (fun r=>eG r.head r.body)=true):((rs.take (k+1)).all fun r=>eG r.head r.body)=eG rs[k].head rs[k].body:=by
 rw [ρ h,List.all_append,h0]; simp
theorem D.Uy (rs:List Ru) (k:Nat) (h:k < rs.length) (h0:eG rs[k].head rs[k].body=false):(rs.all fun r=>eG r.head r.body)=false:=
 List.all_eq_false.2 ⟨_,δ h,by simp [h0]⟩
theorem CY (rs:List Ru) (v:Value) (bs:List Nat) (w:World) (h:dD w [v] rs bs):
  Calls Tryz.prog 118 #[v] w fun e w'=>e=.returned (.int .i64 (eH rs))∧Below w.heap.size w w':=by
 obtain ⟨Ad,cap,rfl,hl,hm⟩:=ai h;have ac:=ay (τ hl hm);have C1:=η fun w' (I:Below w.heap.size w w') (hn:(aH rs).length≤1000000)=>L6 rs _ bs w' (aI.below h I) hn
 have C3:=η fun w' (I:Below w.heap.size w w') (hok:rs.all dS=true) (hf:rs.length≤8)=>Jp rs _ bs w' (aI.below h I) hf hok
 clear hl hm
 go_enter Tryz.func118,Tryz.ntmps118
 go_wp2
 go_loopw [3] (fun i wr=>∃ k:Nat,k≤rs.length∧i=.int .i64 k∧(rs.take k).all dS=true∧Below w.heap.size w wr) (fun i _=>rs.length - (intOf i).toNat)
 case atStart=>exact ⟨0,ε,rfl,rfl,ϑ⟩
 case round=>
  obtain ⟨k,hk,rfl,U,I⟩:=hrel;have HA:=η U;clear U;by_cases y:k < rs.length
  ·clear C1 C3
   obtain ⟨b,o,Ae,ce,Af,cf,bk,rfl,_,d0,d1,d2,a0,_⟩:=eF (aI.below h I) y;have HS:=η (RD rs k y HA.out);have J:=η (Ux rs k y);have a7:(0:Int)≤(k:Int):=by omega
   have a3:(k:Int) < (rs.length:Int):=by omega
   have c1:=L9 rs[k] _ _ _ bk wr a0;have a1:=η y;clear h a0;generalize rs[k]=r at *;clear y;obtain ⟨⟨nm,args⟩,body⟩:=r;dsimp only at *
   go_wp2_with fail
   refine c1.mono ?_;rintro e w2 ⟨rfl,a4⟩;have B2:=I.trans (a4.mono I.size);clear c1;cases h1:dS ⟨⟨nm,args⟩,body⟩
   ·have HZ:=η (J.out h1)
    clear h1 J HS;go_wp2;go_ret;exact ⟨dO (by simp [HZ.out]),B2⟩
   ·have HZ:=η (HS.out.trans h1)
    clear h1 J HS;go_wp2;go_roundw
    case rel=>exact ⟨k+1,a1.out,by go_num,HZ.out,B2⟩
    case measure=>have:=a1.out; simp [intOf]; omega
  ·have he:k=rs.length:=by omega
   have a3:¬ (k:Int) < (rs.length:Int):=by omega
   have hok:rs.all dS=true:=by have:=HA.out; rw [he,ϕ ν] at this; exact this
   clear HA he;by_cases hf:rs.length≤8
   ·have a8:¬ (8:Int) < (rs.length:Int):=by omega
    have hP:eH rs=if jC (aH rs)=false then 3 else if (rs.all fun r=>eG r.head r.body)=false then 4 else if kW rs=true then 5 else 0:=by
     unfold eH; rw [if_neg (by simp [hok]),if_neg (by omega)]
    have a5:(aH rs).length≤1000000:=by have:=(kJ hok).2; omega
    have C4:=η fun w' I=>C1.out w' I a5
    have C5:=η fun w' I=>C3.out w' I hok hf
    have HP:=η hP;have a9:=η hok;clear hok hf hP C1 C3 a5
    go_wp2_with fail
    refine (C4.out _ I).mono ?_;rintro e w2 ⟨rfl,a4⟩;have B2:=I.trans (a4.mono I.size);clear C4;cases ha:jC (aH rs)
    ·have HZ:Hid (eH rs=3):=η (by rw [HP.out,if_pos ha])
     clear HP ha;go_wp2;go_ret;exact ⟨dO (by simp [HZ.out]),B2⟩
    ·replace HP:Hid (eH rs=if (rs.all fun r=>eG r.head r.body)=false then 4 else if kW rs=true then 5 else 0):=η (by rw [HP.out,if_neg (by simp [ha])])
     clear ha I a4;go_wp2
     go_loopw [4] (fun i wr=>∃ k:Nat,k≤rs.length∧i=.int .i64 k∧(rs.take k).all (fun r=>eG r.head r.body)=true∧Below w.heap.size w wr) (fun i _=>rs.length - (intOf i).toNat)
     case atStart=>exact ⟨0,ε,rfl,rfl,B2⟩
     case round=>
      clear hk a3;obtain ⟨k,hk,rfl,U,I⟩:=hrel;have HA:=η U;clear U;by_cases y:k < rs.length
      ·clear C5
       obtain ⟨b,o,Ae,ce,Af,cf,bk,rfl,_,d0,d1,d2,a0,_⟩:=eF (aI.below h I) y;have HS:=η (RF rs k y HA.out);have J:=η (Uy rs k y);have a7:(0:Int)≤(k:Int):=by omega
       have a3:(k:Int) < (rs.length:Int):=by omega
       have a2:=Jq (ό.1 a9.out _ (δ y));have c1:=Jb rs[k] _ _ _ bk wr a0 a2.1 a2.2;have a1:=η y;clear h a0 a2;generalize rs[k]=r at *;clear y;obtain ⟨⟨nm,args⟩,body⟩:=r;dsimp only at *
       go_wp2_with fail
       refine c1.mono ?_;rintro e w3 ⟨rfl,aa⟩;have B3:=I.trans (aa.mono I.size);clear c1;cases h1:eG ⟨nm,args⟩ body
       ·have HZ:Hid (eH rs=4):=η (by rw [HP.out,if_pos (J.out h1)])
        clear h1 J HS HP;go_wp2;go_ret;exact ⟨dO (by simp [HZ.out]),B3⟩
       ·have HZ:=η (HS.out.trans h1)
        clear h1 J HS;go_wp2;go_roundw
        case rel=>exact ⟨k+1,a1.out,by go_num,HZ.out,B3⟩
        case measure=>have:=a1.out; simp [intOf]; omega
      ·have he:k=rs.length:=by omega
       have a3:¬ (k:Int) < (rs.length:Int):=by omega
       have a6:(rs.all fun r=>eG r.head r.body)=true:=by have:=HA.out; rw [he,ϕ ν] at this; exact this
       replace HP:Hid (eH rs=if kW rs=true then 5 else 0):=η (by rw [HP.out,if_neg (by simp [a6])]);clear HA he a6 h
       go_wp2_with fail
       refine (C5.out _ I).mono ?_;rintro e w4 ⟨rfl,ab⟩;have B4:=I.trans (ab.mono I.size);clear C5;cases hc:kW rs
       ·have HZ:Hid (eH rs=0):=η (by rw [HP.out,if_neg (by simp [hc])])
        clear HP hc;go_wp2;go_ret;exact ⟨dO (by simp [HZ.out]),B4⟩
       ·have HZ:Hid (eH rs=5):=η (by rw [HP.out,if_pos hc])
        clear HP hc;go_wp2;go_ret;exact ⟨dO (by simp [HZ.out]),B4⟩
   ·have a8:(8:Int) < (rs.length:Int):=by omega
    have HZ:Hid (eH rs=2):=η (by unfold eH; rw [if_neg (by simp [hok]),if_pos (by omega)]);clear hok hf C1 C3 h;go_wp2;go_ret;exact ⟨dO (by simp [HZ.out]),I⟩
theorem D.EG {B:Nat} {a w:World} (h:Below B a w) (n:Nat):Below B a (w.drewN n):=⟨h.os,h.tape,h.output,h.size,h.block⟩
theorem vM (vars:List ByteArray) (hv:ji vars) (b:Bd) (t:T) (ht:t.var=true→t.name ∈ vars) (blk o:Nat) (w:World) (h:fQ vars b blk o w):
  Calls Tryz.prog 146 #[.pointer (some ⟨blk,o,none⟩),.agg #[.int .i64 (jE vars t),.string (jF t)]] w fun e w'=>e=.returned (.string (dw b t).name)∧Below w.heap.size w w':=by
 obtain ⟨tv,y⟩:=t;have I:Below w.heap.size w (w.alloc (.cells #[.int .i64 (jE vars ⟨tv,y⟩),.string (jF ⟨tv,y⟩)] 225)):=ζ;have HB:=η I;cases tv
 ·have J:jE vars ⟨false,y⟩ = -1:=rfl
  have U:jF ⟨false,y⟩=y:=rfl;have e3:(dw b ⟨false,y⟩).name=y:=rfl;rw [J,U] at HB ⊢;rw [e3];clear h I ht J U e3
  go_enter Tryz.func146,Tryz.ntmps146
  go_wp2;go_ret;exact ⟨rfl,HB.out⟩
 ·have hn:=ht rfl
  have hi:vars.idxOf y < vars.length:=List.idxOf_lt_length_of_mem hn;have hf:=hv.few;have J:jE vars ⟨true,y⟩=((vars.idxOf y:Nat):Int):=rfl
  have e3:(dw b ⟨true,y⟩).name=Ey vars b (vars.idxOf y):=by
   unfold Ey;rw [dif_pos hi];have:vars[vars.idxOf y]=y:=List.getElem_idxOf hi;rw [this]; rfl
  have U:jF ⟨true,y⟩=⟨#[]⟩:=rfl;rw [J,U] at HB I ⊢;rw [e3];have hB:=(h.keep (I.block _ h.lt));have y0:=hB.wd (vars.idxOf y) (by omega);have k0:¬ ((vars.idxOf y:Nat):Int) < 0:=by omega
  have k1:((vars.idxOf y:Nat):Int) < 12:=by omega
  have k2:(0:Int)≤((vars.idxOf y:Nat):Int):=by omega
  generalize vars.idxOf y=j at *;clear h I ht hB J e3 U hi hn
  go_enter Tryz.func146,Tryz.ntmps146
  go_wp2
  go_quiet (fail)
  go_wp2;go_ret;exact ⟨rfl,EG HB.out _⟩
end Go.Proofs.YtlmngncogomgeaaGreatDoor
