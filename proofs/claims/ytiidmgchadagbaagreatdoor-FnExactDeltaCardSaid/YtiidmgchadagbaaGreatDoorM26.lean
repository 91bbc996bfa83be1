/- Of the proof of FnExactDelta: AllS, LooseI, ChkS. -/
import Derived.Test.YtiidmgchadagbaaGreatDoorM20
import Derived.Test.YtiidmgchadagbaaGreatDoorM19
import Derived.Test.YtiidmgchadagbaaGreatDoorM23
set_option linter.unusedVariables false
set_option maxHeartbeats 8000000
set_option maxRecDepth 100000
namespace Go.Proofs.YtiidmgchadagbaaGreatDoor
open Go.RowKit D
attribute [local go_sem ↓] Go.wp_at_zero Go.wp_at_succ
theorem D.JW (w:World):jL w [.slice none 0 0] [] []:=⟨none,0,rfl,Nat.le_refl _,Nat.zero_le _,fun _=>rfl,fun h=>absurd rfl h⟩
theorem D.Tm (w:World):jl w [.slice none 0 0,.slice none 0 0] [] []:=⟨_,_,[],[],rfl,rfl,JW w,JW w⟩
theorem D.Qm (w:World):∃ bs,sQ (w.alloc (.cells #[.slice none 0 0,.slice none 0 0] 141)) [.slice (some ⟨w.heap.size,0,none⟩) 1 1] [[]] bs:=by
 have hr:aV 2 jl (w.alloc (.cells #[.slice none 0 0,.slice none 0 0] 141)) [.slice none 0 0,.slice none 0 0] [([]:Bd)] []:=aV.dB wH (Tm _)
 have hown:(w.alloc (.cells #[.slice none 0 0,.slice none 0 0] 141)).ownsRow w.heap.size 141 2 (.slice (some ⟨w.heap.size,0,none⟩) 1 1) 1 [.slice none 0 0,.slice none 0 0]:=
  ⟨rfl,.inr ⟨w.heap.size,1,_,rfl,Nat.le_refl _,heap_alloc_new w _,Nat.le_refl _,by decide,by simp,by simp⟩⟩
 obtain ⟨bs,h,_⟩:=hr.slice hown;exact ⟨bs,h⟩
theorem Vd (list:List A) (body:List Pt) (v0 v1:Value) (bl bb:List Nat) (w:World) (hl:aI w [v0] list bl) (hb:gm w [v1] body bb)
  (hasc:ig list=true) (hn:list.length≤300) (hm:body.length≤4) (hbl:∀ p ∈ body,p.atom.args.length≤1000):
  Calls Tryz.prog 95 #[v0,v1] w fun e w'=>Below w.heap.size w w'∧∃ v bs,e=.returned v∧sQ w' [v] (allB list body) bs:=by
 obtain ⟨Al,pl,rfl,hl1,hl2⟩:=af hl;obtain ⟨Ab,pb,rfl,hb1,hb2⟩:=af hb;obtain ⟨i0,hi,hz0,hz1,hz2⟩:=info_parts Fa;have HL:=η hl;have HB:=η hb;have HBL:=η hbl;have HM:=η hm;clear hl hb hl1 hl2 hb1 hb2 hbl;obtain ⟨bs0,h0⟩:=Qm w;have H0:=η h0;have hA0:Below w.heap.size w (w.alloc (.cells #[.slice none 0 0,.slice none 0 0] 141)):=(Below.refl _ _).alloc (Nat.le_refl _) _;clear h0
 go_enter Tryz.func95,Tryz.ntmps95
 go_wp2_with fail
 generalize w.alloc (.cells #[.slice none 0 0,.slice none 0 0] 141)=w0 at *
 go_loopw [5,6,7,8,9,10,11] (fun o i _ _ _ _ _ wr=>∃ (k:Nat) (out:List Bd) (Am:Option Addr) (cm:Nat) (bs:List Nat),k≤body.length∧i=.int .i64 k∧o=.slice Am out.length cm∧Hid (out=xB list (body.take k))∧out.length≤300 ^ k∧Hid (∀ b ∈ out,b.length≤1000 * k)∧Hid (sQ wr [.slice Am out.length cm] out bs)∧Hid (Below w.heap.size w wr)) (fun _ i _ _ _ _ _ _=>body.length - (intOf i).toNat)
 case atStart=>exact ⟨0,[[]],_,_,_,Nat.zero_le _,rfl,rfl,η rfl,by simp,η (fun b hb=>by rw [List.mem_singleton.1 hb]; simp),H0,η hA0⟩
 case round=>
  obtain ⟨k,out,Am,cm,bs,hk,rfl,rfl,ho,hol,hoe,hO,hBw⟩:=hrel;clear H0 hA0;by_cases hlt:k < body.length
  ·have hk0:(0:Int)≤(k:Int):=by omega
   have hk1:(k:Int) < (body.length:Int):=by omega
   have hk4:k≤3:=by omega
   have hol3:out.length≤27000000:=Nat.le_trans hol (Nat.le_trans (Nat.pow_le_pow_right (by omega) hk4) (by decide));obtain ⟨pb1,po,Ae,ce,bk,rfl,_,e0,e1,e2,hel,_⟩:=gJ (aY.below HB.out hBw.out) hlt;have HAT:=η (gK hel);have HRS:=η (uK list body k hlt);have HAL:=η (HBL.out _ (List.getElem_mem hlt));generalize wr=wo at *;generalize body[k]=p at *;obtain ⟨pno,px⟩:=p;dsimp only at *;clear hel
   cases pno with
   | true=>
    have HE:Hid (out=xB list (body.take (k+1))):=η (by rw [HRS.out,← ho.out]; rfl);clear HRS HAT HAL e1 e2;go_wp2;go_roundw
    case rel=>exact ⟨k+1,out,Am,cm,bs,hlt,by go_num,rfl,HE,Nat.le_trans hol (Nat.pow_le_pow_right (by omega) (by omega)),η (fun b hb=>by have:=hoe.out b hb; omega),hO,hBw⟩
    case measure=>simp [intOf]; omega
   | false=>
    have HE:Hid (out.flatMap (jP list px)=xB list (body.take (k+1))):=η (by rw [HRS.out,← ho.out]; rfl);clear HRS ho;have hA1:Below wo.heap.size wo (wo.alloc (.cells #[] 141)):=(Below.refl _ _).alloc (Nat.le_refl _) _;have hE1:cO 2 jl wo.heap.size 141 (wo.alloc (.cells #[] 141)) (.slice (some ⟨wo.heap.size,0,none⟩) 0 0) [] [] []:=cO.empty (heap_alloc_new wo _) (Nat.le_refl _)
    go_wp2_with fail
    generalize wo.alloc (.cells #[] 141)=w1 at *
    go_loopw [7,8,9,10,11] (fun m i _ _ _ wr=>∃ (q:Nat) (xs:List Bd) (An:Option Addr) (cn:Nat) (L:List Value) (bn:List Nat),q≤out.length∧i=.int .i64 q∧m=.slice An xs.length cn∧Hid (xs=(out.take q).flatMap (jP list px))∧Hid (cO 2 jl wo.heap.size 141 wr (.slice An xs.length cn) L xs bn)∧Hid (Below wo.heap.size wo wr)) (fun _ i _ _ _ _=>out.length - (intOf i).toNat)
    case atStart=>exact ⟨0,[],_,_,_,_,Nat.zero_le _,rfl,rfl,η rfl,η hE1,η hA1⟩
    case round=>
     obtain ⟨q,xs,An,cn,L,bn,hq,rfl,rfl,hxs,hC,hB1⟩:=hrel;clear hE1 hA1;by_cases hqt:q < out.length
     ·have hq0:(0:Int)≤(q:Int):=by omega
      have hq1:(q:Int) < (out.length:Int):=by omega
      obtain ⟨ab1,ao,A1,p1,A2,p2,bq,rfl,_,d0,d1,hbd,hsub⟩:=yc hO.out hqt;have HFS:=η (Pv list px out q hqt);have HBN:=η (hoe.out _ (List.getElem_mem hqt))
      have HXL:Hid (xs.length≤q * list.length):=η (by
       rw [hxs.out];refine Nat.le_trans (xC _) ?_;rw [List.length_take]
       exact Nat.mul_le_mul (Nat.min_le_left _ _) (Nat.le_refl _))
      have HBD:=η hbd;have HFAR:Hid (∀ c ∈ bq,c < wo.heap.size):=η fun c hc=>mJ.lt hO.out c (hsub c hc)
      generalize wr=w2 at *;generalize out[q]=b0 at *;clear hbd hsub
      go_wp2_with fail
      go_loopw [7,9,10,11] (fun m i _ _ wr=>∃ (j:Nat) (ys:List Bd) (An:Option Addr) (cn:Nat) (L:List Value) (bn:List Nat),j≤list.length∧i=.int .i64 j∧m=.slice An ys.length cn∧Hid (ys=(out.take q).flatMap (jP list px) ++ jP (list.take j) px b0)∧Hid (cO 2 jl wo.heap.size 141 wr (.slice An ys.length cn) L ys bn)∧Hid (Below wo.heap.size wo wr)) (fun _ i _ _ _=>list.length - (intOf i).toNat)
      case atStart=>exact ⟨0,xs,An,cn,L,bn,Nat.zero_le _,rfl,rfl,η (by rw [hxs.out]; simp [jP]),hC,hB1⟩
      case round=>
       obtain ⟨j,ys,An,cn,L,bn,hj,rfl,rfl,hys,hC,hB2⟩:=hrel;by_cases hjt:j < list.length
       ·have hj0:(0:Int)≤(j:Int):=by omega
        have hj1:(j:Int) < (list.length:Int):=by omega
        have hBW:=hBw.out.trans (hB2.out.mono hBw.out.size);obtain ⟨lb1,lo,Af,cf,bf,rfl,_,f0,f1,hfe,_⟩:=dG (ai.below HL.out hBW) hjt;have g1:=cell_later hB2.out e1;have g2:=cell_later hB2.out e2;have g3:=cell_later hB2.out d0;have g4:=cell_later hB2.out d1;have n1:pb1 < wr.heap.size:=lt_of_cell g1;have n2:ab1 < wr.heap.size:=lt_of_cell g3;have n3:lb1 < wr.heap.size:=lt_of_cell f0;have HF1:=η (MS list px b0 j hjt);generalize list[j]=f at *;have q5:=fun w' (hb:Below wr.heap.size wr w')=>PL px f b0 _ _ _ _ _ _ _ _ _ w' (aj.below HAT.out (hB2.out.trans (hb.mono hB2.out.size))) (aj.below hfe hb) (dh.below HBD.out (hB2.out.trans (hb.mono hB2.out.size))) (by have:=HBN.out; omega) (Nat.le_trans HAL.out (by omega))
        have Q5:=η q5;have hD1:Below wr.heap.size wr wr.drew:=Below.drew (Below.refl _ _);have hD2:Below wr.heap.size wr (wr.alloc (.cells #[.slice none 0 0,.slice none 0 0] 141)).drew:=((Below.refl _ _).alloc (Nat.le_refl _) _).drew;have HD2:=η hD2;have HD1:=η hD1;clear q5 hfe hD1 hD2
        go_wp2_with fail
        go_region_held3 (fun w'=>w'.cell? ⟨pb1,po+k * 3+1,none⟩=some (.string px.name)∧w'.cell? ⟨pb1,po+k * 3+2,none⟩=some (.slice Ae px.args.length ce)∧w'.cell? ⟨lb1,lo+j * 2,none⟩=some (.string f.name)∧w'.cell? ⟨lb1,lo+j * 2+1,none⟩=some (.slice Af f.args.length cf)∧w'.cell? ⟨ab1,ao+q * 2,none⟩=some (.slice A1 b0.length p1)∧w'.cell? ⟨ab1,ao+q * 2+1,none⟩=some (.slice A2 b0.length p2))
         (first | go_keep | exact hqk | exact hqk2)
         (first
          | (go_at_call 125; first
            | (refine (Q5.out _ HD1.out).mono ?_; rintro e w6 ⟨hb6,x0,x1,b6,rfl,h6,hfar6⟩; have B6:=HD1.out.trans (hb6.mono HD1.out.size); have hqk:=And.intro (cell_later B6 g1) (And.intro (cell_later B6 g2) (And.intro (cell_later B6 f0) (And.intro (cell_later B6 f1) (And.intro (cell_later B6 g3) (cell_later B6 g4))))); obtain ⟨B3,q3,B4,q4,hcs⟩:=lZ h6; simp only [List.cons.injEq,and_true] at hcs; obtain ⟨rfl,rfl⟩:=hcs; have m1:=lt_of_cell (cell_later B6 g1); have m2:=lt_of_cell (cell_later B6 g3); have m3:=lt_of_cell (cell_later B6 f0))
            | (refine (Q5.out _ HD2.out).mono ?_; rintro e w6 ⟨hb6,x0,x1,b6,rfl,h6,hfar6⟩; have B6:=HD2.out.trans (hb6.mono HD2.out.size); have hqk:=And.intro (cell_later B6 g1) (And.intro (cell_later B6 g2) (And.intro (cell_later B6 f0) (And.intro (cell_later B6 f1) (And.intro (cell_later B6 g3) (cell_later B6 g4))))); obtain ⟨B3,q3,B4,q4,hcs⟩:=lZ h6; simp only [List.cons.injEq,and_true] at hcs; obtain ⟨rfl,rfl⟩:=hcs; have m1:=lt_of_cell (cell_later B6 g1); have m2:=lt_of_cell (cell_later B6 g3); have m3:=lt_of_cell (cell_later B6 f0); have hM6:=(hb6.block wr.heap.size (by show wr.heap.size < (World.alloc wr _).heap.size; simp)).trans (heap_alloc_new wr (.cells #[.slice none 0 0,.slice none 0 0] 141)); have fz0:w6.frozen? ⟨wr.heap.size,0,none⟩=false:=aB hM6; have fz1:w6.frozen? ⟨wr.heap.size,1,none⟩=false:=aB hM6; have cz0:w6.cell? ⟨wr.heap.size,0,none⟩=some (.slice none 0 0):=ak hM6; have cz1:w6.cell? ⟨wr.heap.size,1,none⟩=some (.slice none 0 0):=ak hM6; have hqk2:=And.intro ((World.cell?_of_block (Below.heap_setCell _ ⟨wr.heap.size,1,none⟩ (.slice B4 (aK px f b0).1.length q4) _ (by show pb1 ≠ wr.heap.size; omega))).trans ((World.cell?_of_block (Below.heap_setCell _ ⟨wr.heap.size,0,none⟩ (.slice B3 (aK px f b0).1.length q3) _ (by show pb1 ≠ wr.heap.size; omega))).trans (cell_later B6 g1))) (And.intro ((World.cell?_of_block (Below.heap_setCell _ ⟨wr.heap.size,1,none⟩ (.slice B4 (aK px f b0).1.length q4) _ (by show pb1 ≠ wr.heap.size; omega))).trans ((World.cell?_of_block (Below.heap_setCell _ ⟨wr.heap.size,0,none⟩ (.slice B3 (aK px f b0).1.length q3) _ (by show pb1 ≠ wr.heap.size; omega))).trans (cell_later B6 g2))) (And.intro ((World.cell?_of_block (Below.heap_setCell _ ⟨wr.heap.size,1,none⟩ (.slice B4 (aK px f b0).1.length q4) _ (by show lb1 ≠ wr.heap.size; omega))).trans ((World.cell?_of_block (Below.heap_setCell _ ⟨wr.heap.size,0,none⟩ (.slice B3 (aK px f b0).1.length q3) _ (by show lb1 ≠ wr.heap.size; omega))).trans (cell_later B6 f0))) (And.intro ((World.cell?_of_block (Below.heap_setCell _ ⟨wr.heap.size,1,none⟩ (.slice B4 (aK px f b0).1.length q4) _ (by show lb1 ≠ wr.heap.size; omega))).trans ((World.cell?_of_block (Below.heap_setCell _ ⟨wr.heap.size,0,none⟩ (.slice B3 (aK px f b0).1.length q3) _ (by show lb1 ≠ wr.heap.size; omega))).trans (cell_later B6 f1))) (And.intro ((World.cell?_of_block (Below.heap_setCell _ ⟨wr.heap.size,1,none⟩ (.slice B4 (aK px f b0).1.length q4) _ (by show ab1 ≠ wr.heap.size; omega))).trans ((World.cell?_of_block (Below.heap_setCell _ ⟨wr.heap.size,0,none⟩ (.slice B3 (aK px f b0).1.length q3) _ (by show ab1 ≠ wr.heap.size; omega))).trans (cell_later B6 g3))) ((World.cell?_of_block (Below.heap_setCell _ ⟨wr.heap.size,1,none⟩ (.slice B4 (aK px f b0).1.length q4) _ (by show ab1 ≠ wr.heap.size; omega))).trans ((World.cell?_of_block (Below.heap_setCell _ ⟨wr.heap.size,0,none⟩ (.slice B3 (aK px f b0).1.length q3) _ (by show ab1 ≠ wr.heap.size; omega))).trans (cell_later B6 g4))))))))))
        all_goals
         have HFO:Hid (∀ c ∈ b6,(Value.slice An ys.length cn).ownBlock ≠ some c):=η fun c hc e=>by
          have h1:=jq hC.out.own c e
          rcases hfar6 c hc with h2 | h2
          ·have:=HFAR.out c h2
           omega
          ·simp at h2
           omega
         have HML:=η (BU px f b0)
         first
          | (have hMf:=bZ (o:=1) (u:=.slice B4 (aK px f b0).1.length q4) (bZ (o:=0) (u:=.slice B3 (aK px f b0).1.length q3) hM6); have z0:((w6.setCell ⟨wr.heap.size,0,none⟩ (.slice B3 (aK px f b0).1.length q3)).setCell ⟨wr.heap.size,1,none⟩ (.slice B4 (aK px f b0).1.length q4)).cell? ⟨wr.heap.size,0,none⟩=some (.slice B3 (aK px f b0).1.length q3):=ak hMf; have z1:((w6.setCell ⟨wr.heap.size,0,none⟩ (.slice B3 (aK px f b0).1.length q3)).setCell ⟨wr.heap.size,1,none⟩ (.slice B4 (aK px f b0).1.length q4)).cell? ⟨wr.heap.size,1,none⟩=some (.slice B4 (aK px f b0).1.length q4):=ak hMf; clear hMf; have HBf:=η ((B6.setCell (p:=⟨wr.heap.size,0,none⟩) (Nat.le_refl _) (.slice B3 (aK px f b0).1.length q3)).setCell (p:=⟨wr.heap.size,1,none⟩) (Nat.le_refl _) (.slice B4 (aK px f b0).1.length q4)); have H6f:=η (ql (N:=wr.heap.size) (y0:=.slice B3 (aK px f b0).1.length q3) (y1:=.slice B4 (aK px f b0).1.length q4) h6 (fun hc=>by
            rcases hfar6 _ hc with h2 | h2
            ·have:=HFAR.out _ h2
             have:=hB2.out.size;omega
            ·exact absurd h2 (by show ¬ (World.alloc wr _).heap.size≤_; simp))); clear B6 hqk hqk2 m1 m2 m3 hb6 hfar6 h6 Q5 HD1 HD2 hM6 fz0 fz1 cz0 cz1; generalize hwf:(w6.setCell ⟨wr.heap.size,0,none⟩ (.slice B3 (aK px f b0).1.length q3)).setCell ⟨wr.heap.size,1,none⟩ (.slice B4 (aK px f b0).1.length q4)=wf at *; clear hwf)
          | (have hAf:=(Below.refl w6.heap.size w6).alloc (Nat.le_refl _) (.cells #[.slice B3 (aK px f b0).1.length q3,.slice B4 (aK px f b0).1.length q4] 141); have HBf:=η (B6.trans (hAf.mono B6.size)); have hMf:=heap_alloc_new w6 (.cells #[.slice B3 (aK px f b0).1.length q3,.slice B4 (aK px f b0).1.length q4] 141); have z0:(w6.alloc (.cells #[.slice B3 (aK px f b0).1.length q3,.slice B4 (aK px f b0).1.length q4] 141)).cell? ⟨w6.heap.size,0,none⟩=some (.slice B3 (aK px f b0).1.length q3):=ak hMf; have z1:(w6.alloc (.cells #[.slice B3 (aK px f b0).1.length q3,.slice B4 (aK px f b0).1.length q4] 141)).cell? ⟨w6.heap.size,1,none⟩=some (.slice B4 (aK px f b0).1.length q4):=ak hMf; clear hMf; have H6f:=η (dh.below h6 hAf); clear hAf B6 hqk m1 m2 m3 hb6 hfar6 h6 Q5 HD1 HD2; generalize hwf:w6.alloc (.cells #[.slice B3 (aK px f b0).1.length q3,.slice B4 (aK px f b0).1.length q4] 141)=wf at *; clear hwf)
         have HXL2:Hid (ys.length≤8200000000):=η (by
          rw [hys.out,List.length_append];have h1:=xC (list:=list) (a:=px) (out.take q);have h2:=EN (list.take j) px b0;rw [List.length_take] at h1 h2;have h3:min q out.length * list.length≤27000000 * 300:=Nat.mul_le_mul (Nat.le_trans (Nat.min_le_right _ _) hol3) hn
          omega)
         cases hmf:(aK px f b0).2 with
         | false=>
          have HE2:Hid (ys=(out.take q).flatMap (jP list px) ++ jP (list.take (j+1)) px b0):=η (by rw [HF1.out,hmf,hys.out]; simp);have HC2:=η (hC.out.below dh HBf.out);have HB3:=η (hB2.out.trans (HBf.out.mono hB2.out.size));clear hmf HF1 hC hB2 HBf;go_wp2;go_roundw
          case rel=>exact ⟨j+1,ys,An,cn,L,bn,hjt,by go_num,rfl,HE2,HC2,HB3⟩
          case measure=>simp [intOf]; omega
         | true=>
          have HE2:Hid (ys ++ [(aK px f b0).1]=(out.take q).flatMap (jP list px) ++ jP (list.take (j+1)) px b0):=η (by rw [HF1.out,hmf,hys.out]; simp);have HC2:=η (hC.out.below dh HBf.out);have HB3:=η (hB2.out.trans (HBf.out.mono hB2.out.size));clear hmf HF1 hC hB2 HBf;generalize (aK px f b0).1=b1 at *;have hAt:Below wf.heap.size wf (wf.alloc (.cells #[.slice B3 b1.length q3,.slice B4 b1.length q4] 141)):=(Below.refl _ _).alloc (Nat.le_refl _) _
          have HLL:Hid (cO 2 jl wo.heap.size 141 (wf.alloc (.cells #[.slice B3 b1.length q3,.slice B4 b1.length q4] 141)) (.slice An ys.length cn) L ys bn∧aV 2 jl (wf.alloc (.cells #[.slice B3 b1.length q3,.slice B4 b1.length q4] 141)) [.slice B3 b1.length q3,.slice B4 b1.length q4] [b1] b6∧Lies (wf.alloc (.cells #[.slice B3 b1.length q3,.slice B4 b1.length q4] 141)) (some ⟨wf.heap.size,0,none⟩) [.slice B3 b1.length q3,.slice B4 b1.length q4]∧Below wo.heap.size wo (wf.alloc (.cells #[.slice B3 b1.length q3,.slice B4 b1.length q4] 141))∧wo.heap.size≤(wf.alloc (.cells #[.slice B3 b1.length q3,.slice B4 b1.length q4] 141)).heap.size):=
           η ⟨HC2.out.below dh hAt,aV.dB wH (dh.below H6f.out hAt),aS (heap_alloc_new wf _),HB3.out.trans (hAt.mono HB3.out.size),Nat.le_trans HB3.out.size hAt.size⟩
          have H63:Hid (ys.length+1≤maxLen):=η (by have:=HXL2.out; unfold maxLen; omega);have HBY:Hid ((ys.length+1) * 48≤140737488355328):=η (by have:=HXL2.out; omega);clear hAt HC2 HB3 H6f
          go_wp2_with (at_builtin; refine iH rfl _ _ _ rfl wo.heap.size 141 i0 (.agg #[.slice none 0 0,.slice none 0 0]) 2 48 Tryz.underlying136 hi hz0 hz1 hz2 rfl (Nat.zero_lt_succ 1) dh (.slice An ys.length cn) ys.length L _ bn rfl HLL.out.1 rfl (some ⟨wf.heap.size,0,none⟩) 1 1 _ [b1] b6 rfl HLL.out.2.1 rfl HLL.out.2.2.1 HFO.out H63.out HBY.out wo wo.heap.size HLL.out.2.2.2.1 (Nat.le_refl _) HLL.out.2.2.2.2 ?_; intro A4 c4 w4 hC4 hB4 hS4 hG4; have HZ:=η (And.intro hC4 hB4); clear hC4 hB4 hS4 hG4)
          go_roundw
          case rel=>exact ⟨j+1,ys ++ [b1],A4,c4,_,_,hjt,by go_num,by rw [List.length_append]; rfl,HE2,by rw [List.length_append]; exact η HZ.out.1,η HZ.out.2⟩
          case measure=>simp [intOf]; omega
       ·have he:j=list.length:=by omega
        have hj1:¬ (j:Int) < (list.length:Int):=by omega
        have HE2:Hid (ys=(out.take (q+1)).flatMap (jP list px)):=η (by rw [hys.out,HFS.out,he,List.take_of_length_le (Nat.le_refl _)]);clear he hj;go_wp2;go_roundw
        case rel=>exact ⟨q+1,ys,An,cn,L,bn,hqt,by go_num,rfl,HE2,hC,hB2⟩
        case measure=>simp [intOf]; omega
     ·have he:q=out.length:=by omega
      have hq1:¬ (q:Int) < (out.length:Int):=by omega
      have HE2:Hid (xs=xB list (body.take (k+1))):=η (by rw [hxs.out,he,List.take_of_length_le (Nat.le_refl _),HE.out])
      have HXL:Hid (xs.length≤300 ^ (k+1)):=η (by
       rw [hxs.out,he,List.take_of_length_le (Nat.le_refl _)];refine Nat.le_trans (xC _) ?_;rw [Nat.pow_succ]
       exact Nat.mul_le_mul hol hn)
      have HXE:Hid (∀ b ∈ xs,b.length≤1000 * (k+1)):=η (fun b hb=>by
       rw [hxs.out,he,List.take_of_length_le (Nat.le_refl _)] at hb;obtain ⟨b1,h1,h2⟩:=List.mem_flatMap.1 hb;have:=hoe.out b1 h1;have:=MV h2;have:=HAL.out
       omega)
      obtain ⟨bx,hX,_⟩:=hC.out.slice;have HX:=η hX;have HBX:=η (hBw.out.trans (hB1.out.mono hBw.out.size));clear he hC hxs hX;go_wp2;go_roundw
      case rel=>exact ⟨k+1,xs,An,cn,bx,hlt,by go_num,rfl,HE2,HXL.out,HXE,HX,HBX⟩
      case measure=>simp [intOf]; omega
  ·have he:k=body.length:=by omega
   have hk1:¬ (k:Int) < (body.length:Int):=by omega
   have hk4:k≤4:=by omega
   have hol4:out.length≤10000000000:=Nat.le_trans hol (Nat.le_trans (Nat.pow_le_pow_right (by omega) hk4) (by decide));have HE:Hid (out.filter (iZ list body)=allB list body):=η (by unfold allB; rw [ho.out,he,List.take_of_length_le (Nat.le_refl _)]);have q5:=Ea list body out _ _ _ bl bb bs wr (ai.below HL.out hBw.out) (aY.below HB.out hBw.out) hO.out hasc hol4 (fun p hp=>Nat.le_trans (HBL.out p hp) (by omega));rw [HE.out] at q5;clear he ho
   go_wp2_with fail
   refine q5.mono ?_;rintro e w5 ⟨hb5,v5,b5,rfl,h5⟩;have B5:=hBw.out.trans (hb5.mono hBw.out.size);have H5:=η h5;clear q5 h5 hb5;go_wp2;go_ret;exact ⟨B5,_,_,rfl,H5.out⟩
theorem D.JX (r:Ru):(!gI r.body r.head || sO r.body) = !fM r.head r.body:=by
 rw [Bool.eq_iff_iff];have h1:=EH r.head r.body;have h2:=qO r.body r.head;rw [← h2] at h1
 cases ht:fM r.head r.body <;> cases ha:gI r.body r.head <;> cases hl:sO r.body <;> simp_all
theorem D.NI (rs:List Ru) (k:Nat) (h:k < rs.length) (h0:(rs.take k).all (fun r=>fM r.head r.body)=true):((rs.take (k+1)).all fun r=>fM r.head r.body)=fM rs[k].head rs[k].body:=by
 rw [List.take_succ_eq_append_getElem h,List.all_append,h0]; simp
theorem D.Qn (rs:List Ru) (k:Nat) (h:k < rs.length) (h0:fM rs[k].head rs[k].body=false):(rs.all fun r=>fM r.head r.body)=false:=
 List.all_eq_false.2 ⟨_,List.getElem_mem h,by simp [h0]⟩
theorem Eb (r:Ru) (c0 c1 c2:Value) (bs:List Nat) (w:World) (h:jK w [c0,c1,c2] r bs):
  Calls Tryz.prog 186 #[.agg #[c0,c1,c2]] w fun e w'=>e=.returned (.bool (!fM r.head r.body))∧Below w.heap.size w w':=by
 obtain ⟨Ad,cap,Ae,cape,rfl,rfl,rfl⟩:=jo h;have hA:Below w.heap.size w (w.alloc (.cells #[.string r.head.name,.slice Ad r.head.args.length cap,.slice Ae r.body.length cape] 71)):=(Below.refl _ _).alloc (Nat.le_refl _) _;obtain ⟨b1,b2,_,hh,hb⟩:=gu h;have c1:=fun w' (hw:Below w.heap.size w w')=>x9 r.body r.head _ _ _ b2 b1 w' (aY.below hb hw) (aj.below hh hw)
 have c2:=fun w' (hw:Below w.heap.size w w')=>D9 r.body _ b2 w' (aY.below hb hw)
 rw [← JX r];clear h hh hb;obtain ⟨⟨nm,args⟩,body⟩:=r;dsimp only at *;cases ha:gI body ⟨nm,args⟩
 ·rw [ha] at c1
  clear c2 ha
  go_enter Tryz.func186,Tryz.ntmps186
  go_wp2_with fail
  refine (c1 _ hA).mono ?_;rintro e w2 ⟨rfl,hb2⟩;have B2:=hA.trans (hb2.mono hA.size);go_wp2;go_ret;exact ⟨rfl,B2⟩
 ·rw [ha] at c1
  clear ha;generalize sO body=l at *
  go_enter Tryz.func186,Tryz.ntmps186
  go_wp2_with fail
  refine (c1 _ hA).mono ?_;rintro e w2 ⟨rfl,hb2⟩;have B2:=hA.trans (hb2.mono hA.size);have x2:w2.cell? ⟨w.heap.size,2,none⟩=some (.slice Ae body.length cape):=cell_later hb2 (by go_simp)
  go_wp2_with fail
  refine (c2 _ B2).mono ?_;rintro e w3 ⟨rfl,hb3⟩;go_wp2;go_ret;exact ⟨aO (by simp),B2.trans (hb3.mono B2.size)⟩
def Wl (b:Bool) (w:World) (e:Ending) (w':World):Prop:=(∃ z:Int,e=.returned (.int .i64 z)∧decide (0≤z)=b)∧Below w.heap.size w w'
theorem Dn (rs:List Ru) (v:Value) (bs:List Nat) (w:World) (h:dO w [v] rs bs):
  Calls Tryz.prog 204 #[v,.func (.func 186) #[] #[]] w (Wl (!rs.all fun r=>fM r.head r.body) w):=by
 obtain ⟨Ad,cap,rfl,hl,hm⟩:=af h;have hlm:=au (Nat.le_trans hl hm);clear hm
 go_enter Tryz.func204,Tryz.ntmps204
 go_wp2
 go_loopw [8] (fun i wr=>∃ k:Nat,k≤rs.length∧i=.int .i64 k∧(rs.take k).all (fun r=>fM r.head r.body)=true∧Below w.heap.size w wr) (fun i _=>rs.length - (intOf i).toNat)
 case atStart=>exact ⟨0,Nat.zero_le _,rfl,rfl,Below.refl _ _⟩
 case round=>
  obtain ⟨k,hk,rfl,hall,hb⟩:=hrel;have HA:=η hall;clear hall;by_cases hlt:k < rs.length
  ·obtain ⟨b,o,Ae,ce,Af,cf,bk,rfl,_,d0,d1,d2,hel,_⟩:=gq (aC.below h hb) hlt
   have HS:=η (NI rs k hlt HA.out);have HBAD:=η (Qn rs k hlt);have hk0:(0:Int)≤(k:Int):=by omega
   have hk1:(k:Int) < (rs.length:Int):=by omega
   have HLT:=η hlt;have c1:=Eb rs[k] _ _ _ bk wr hel;clear h hel;generalize rs[k]=r at *;clear hlt;obtain ⟨⟨nm,args⟩,body⟩:=r;dsimp only at *
   go_wp2_with fail
   refine c1.mono ?_;rintro e w' ⟨rfl,hb'⟩;have B':=hb.trans (hb'.mono hb.size);clear c1;cases hv:fM ⟨nm,args⟩ body
   ·have HV:=η (HBAD.out hv)
    clear hv;go_wp2;go_ret;exact ⟨⟨_,rfl,by rw [HV.out]; simp⟩,B'⟩
   ·have HV:=η (HS.out.trans hv)
    clear hv;go_wp2;go_roundw
    case rel=>exact ⟨k+1,HLT.out,by go_num,HV.out,B'⟩
    case measure=>have:=HLT.out; simp [intOf]; omega
  ·have he:=η (show k=rs.length by omega)
   go_wp2;go_ret;exact ⟨⟨_,rfl,by have:=HA.out; rw [he.out,List.take_of_length_le (Nat.le_refl _)] at this; rw [this]; rfl⟩,hb⟩
theorem yj (rs:List Ru) (v:Value) (bs:List Nat) (w:World) (h:dO w [v] rs bs):
  Calls Tryz.prog 185 #[v,.func (.func 186) #[] #[]] w fun e w'=>e=.returned (.bool (!rs.all fun r=>fM r.head r.body))∧Below w.heap.size w w':=by
 have hi:=Dn rs v bs w h;clear h
 go_enter Tryz.func185,Tryz.ntmps185
 go_wp2_with fail
 refine hi.mono ?_;rintro e w' ⟨⟨z,rfl,hz⟩,hb⟩;have HZ:=η hz;clear hz;go_wp2;go_ret;exact ⟨aO HZ.out,hb⟩
theorem JY (rs:List Ru) (v:Value) (bs:List Nat) (w:World) (h:dO w [v] rs bs) (hf:rs.length≤8) (hok:rs.all fC=true):
  Calls Tryz.prog 90 #[v] w fun e w'=>e=.returned (.bool (lY rs))∧Below w.heap.size w w':=by
 obtain ⟨Ad,cap,rfl,hl,hm⟩:=af h;have hlm:=au (Nat.le_trans hl hm);have c1:=yh rs _ bs w h hf hok;have HC:Hid (lY rs=(ax rs).any fun x=>decide (rs.length≤x)):=η rfl;have HL:=η (gy rs);clear hl hm h
 go_enter Tryz.func90,Tryz.ntmps90
 go_wp2_with fail
 refine c1.mono ?_;rintro e w1 ⟨hB,rfl,hI,hmx⟩;clear c1 hB;have HMX:=η hmx;clear hmx;generalize ax rs=xs at *;go_wp2
 go_loopw [4] (fun i wr=>∃ k:Nat,k≤rs.length∧i=.int .i64 k∧(∀ i,i < k→iP xs i < rs.length)∧mY w rs xs wr) (fun i _=>rs.length - (intOf i).toNat)
 case atStart=>exact ⟨0,Nat.zero_le _,rfl,fun i h=>by omega,hI⟩
 case round=>
  obtain ⟨k,hk,rfl,hall,hI⟩:=hrel;have HA:=η hall;have HI:=η hI;clear hall;by_cases hlt:k < rs.length
  ·have hk0:(0:Int)≤(k:Int):=by omega
   have hk1:(k:Int) < (rs.length:Int):=by omega
   have a1:=hI.at hlt;have hma:=HMX.out k;obtain ⟨a,ha⟩:∃ a,a=iP xs k:=⟨_,rfl⟩;rw [← ha] at a1 hma;by_cases hge:rs.length≤a
   ·have HZ:Hid (lY rs=true):=η (by
     rw [HC.out,List.any_eq_true];have hkx:k < xs.length:=by rw [HL.out]; exact hlt
     refine ⟨xs[k],List.getElem_mem hkx,decide_eq_true ?_⟩;have:iP xs k=xs[k]:=by unfold iP; rw [List.getD_eq_getElem?_getD,List.getElem?_eq_getElem hkx]; rfl
     omega)
    have hge1:(rs.length:Int)≤(a:Int):=by omega
    clear HC HA ha hI hge;go_wp2;go_ret;exact ⟨aO HZ.out.symm,HI.out.bel⟩
   ·have HZ:Hid (∀ i,i < k+1→iP xs i < rs.length):=η fun i hi=>by
     by_cases e:i=k
     ·subst e; omega
     ·exact HA.out i (by omega)
    have hge1:¬ (rs.length:Int)≤(a:Int):=by omega
    clear HC HA ha hI hge;go_wp2;go_roundw
    case rel=>exact ⟨k+1,hlt,by go_num,HZ.out,HI.out⟩
    case measure=>simp [intOf]; omega
  ·have he:k=rs.length:=by omega
   have hk1:¬ (k:Int) < (rs.length:Int):=by omega
   have HZ:Hid (lY rs=false):=η (by
    rw [HC.out,List.any_eq_false];intro x hx;obtain ⟨i,hi,rfl⟩:=List.mem_iff_getElem.1 hx;have h1:=HA.out i (by rw [HL.out] at hi; omega);have:iP xs i=xs[i]:=by unfold iP; rw [List.getD_eq_getElem?_getD,List.getElem?_eq_getElem hi]; rfl
    simp; omega)
   clear HC HA hI he;go_wp2;go_ret;exact ⟨aO HZ.out.symm,HI.out.bel⟩
theorem D.JZ {r:Ru} (h:fC r=true):bI (fun p=>p.atom.args.length) r.body≤1000000∧r.head.args.length≤1000000:=by
 obtain ⟨h1,_,h3⟩:=kV h;have h4:=h3 r.head (List.mem_cons_self ..);have h5:=Nl (fun p:Pt=>p.atom.args.length) 3 r.body fun p hp=>h3 p.atom (List.mem_cons_of_mem _ (List.mem_map.2 ⟨p,hp,rfl⟩))
 omega
theorem D.Tn (rs:List Ru) (k:Nat) (h:k < rs.length) (h0:(rs.take k).all fC=true):(rs.take (k+1)).all fC=fC rs[k]:=by
 rw [List.take_succ_eq_append_getElem h,List.all_append,h0]; simp
theorem D.Ve (rs:List Ru) (k:Nat) (h:k < rs.length) (h0:fC rs[k]=false):fO rs=1:=by
 unfold fO;rw [if_pos (List.all_eq_false.2 ⟨_,List.getElem_mem h,by simp [h0]⟩)]
theorem D.Tq (rs:List Ru) (k:Nat) (h:k < rs.length) (h0:(rs.take k).all (fun r=>fM r.head r.body)=true):((rs.take (k+1)).all fun r=>fM r.head r.body)=fM rs[k].head rs[k].body:=by
 rw [List.take_succ_eq_append_getElem h,List.all_append,h0]; simp
theorem D.Vf (rs:List Ru) (k:Nat) (h:k < rs.length) (h0:fM rs[k].head rs[k].body=false):(rs.all fun r=>fM r.head r.body)=false:=
 List.all_eq_false.2 ⟨_,List.getElem_mem h,by simp [h0]⟩
theorem Dp (rs:List Ru) (v:Value) (bs:List Nat) (w:World) (h:dO w [v] rs bs):
  Calls Tryz.prog 55 #[v] w fun e w'=>e=.returned (.int .i64 (fO rs))∧Below w.heap.size w w':=by
 obtain ⟨Ad,cap,rfl,hl,hm⟩:=af h;have hlm:=au (Nat.le_trans hl hm);have C1:=η fun w' (hb:Below w.heap.size w w') (hn:(aQ rs).length≤1000000)=>Nk rs _ bs w' (aC.below h hb) hn
 have C3:=η fun w' (hb:Below w.heap.size w w') (hok:rs.all fC=true) (hf:rs.length≤8)=>JY rs _ bs w' (aC.below h hb) hf hok
 clear hl hm
 go_enter Tryz.func55,Tryz.ntmps55
 go_wp2
 go_loopw [3] (fun i wr=>∃ k:Nat,k≤rs.length∧i=.int .i64 k∧(rs.take k).all fC=true∧Below w.heap.size w wr) (fun i _=>rs.length - (intOf i).toNat)
 case atStart=>exact ⟨0,Nat.zero_le _,rfl,rfl,Below.refl _ _⟩
 case round=>
  obtain ⟨k,hk,rfl,hall,hb⟩:=hrel;have HA:=η hall;clear hall;by_cases hlt:k < rs.length
  ·clear C1 C3
   obtain ⟨b,o,Ae,ce,Af,cf,bk,rfl,_,d0,d1,d2,hel,_⟩:=gq (aC.below h hb) hlt;have HS:=η (Tn rs k hlt HA.out);have HBAD:=η (Ve rs k hlt);have hk0:(0:Int)≤(k:Int):=by omega
   have hk1:(k:Int) < (rs.length:Int):=by omega
   have c1:=Np rs[k] _ _ _ bk wr hel;have HLT:=η hlt;clear h hel;generalize rs[k]=r at *;clear hlt;obtain ⟨⟨nm,args⟩,body⟩:=r;dsimp only at *
   go_wp2_with fail
   refine c1.mono ?_;rintro e w2 ⟨rfl,hb2⟩;have B2:=hb.trans (hb2.mono hb.size);clear c1;cases h1:fC ⟨⟨nm,args⟩,body⟩
   ·have HZ:=η (HBAD.out h1)
    clear h1 HBAD HS;go_wp2;go_ret;exact ⟨eF (by simp [HZ.out]),B2⟩
   ·have HZ:=η (HS.out.trans h1)
    clear h1 HBAD HS;go_wp2;go_roundw
    case rel=>exact ⟨k+1,HLT.out,by go_num,HZ.out,B2⟩
    case measure=>have:=HLT.out; simp [intOf]; omega
  ·have he:k=rs.length:=by omega
   have hk1:¬ (k:Int) < (rs.length:Int):=by omega
   have hok:rs.all fC=true:=by have:=HA.out; rw [he,List.take_of_length_le (Nat.le_refl _)] at this; exact this
   clear HA he;by_cases hf:rs.length≤8
   ·have hf1:¬ (8:Int) < (rs.length:Int):=by omega
    have hP:fO rs=if jQ (aQ rs)=false then 3 else if (rs.all fun r=>fM r.head r.body)=false then 4 else if lY rs=true then 5 else 0:=by
     unfold fO; rw [if_neg (by simp [hok]),if_neg (by omega)]
    have hn40:(aQ rs).length≤1000000:=by have:=(lD hok).2; omega
    have C4:=η fun w' hb=>C1.out w' hb hn40
    have C5:=η fun w' hb=>C3.out w' hb hok hf
    have HP:=η hP;have HOK:=η hok;clear hok hf hP C1 C3 hn40
    go_wp2_with fail
    refine (C4.out _ hb).mono ?_;rintro e w2 ⟨rfl,hb2⟩;have B2:=hb.trans (hb2.mono hb.size);clear C4;cases ha:jQ (aQ rs)
    ·have HZ:Hid (fO rs=3):=η (by rw [HP.out,if_pos ha])
     clear HP ha;go_wp2;go_ret;exact ⟨eF (by simp [HZ.out]),B2⟩
    ·replace HP:Hid (fO rs=if (rs.all fun r=>fM r.head r.body)=false then 4 else if lY rs=true then 5 else 0):=η (by rw [HP.out,if_neg (by simp [ha])])
     clear ha hb hb2;go_wp2
     go_loopw [4] (fun i wr=>∃ k:Nat,k≤rs.length∧i=.int .i64 k∧(rs.take k).all (fun r=>fM r.head r.body)=true∧Below w.heap.size w wr) (fun i _=>rs.length - (intOf i).toNat)
     case atStart=>exact ⟨0,Nat.zero_le _,rfl,rfl,B2⟩
     case round=>
      clear hk hk1;obtain ⟨k,hk,rfl,hall,hb⟩:=hrel;have HA:=η hall;clear hall;by_cases hlt:k < rs.length
      ·clear C5
       obtain ⟨b,o,Ae,ce,Af,cf,bk,rfl,_,d0,d1,d2,hel,_⟩:=gq (aC.below h hb) hlt;have HS:=η (Tq rs k hlt HA.out);have HBAD:=η (Vf rs k hlt);have hk0:(0:Int)≤(k:Int):=by omega
       have hk1:(k:Int) < (rs.length:Int):=by omega
       have hsum:=JZ (List.all_eq_true.1 HOK.out _ (List.getElem_mem hlt));have c1:=JF rs[k] _ _ _ bk wr hel hsum.1 hsum.2;have HLT:=η hlt;clear h hel hsum;generalize rs[k]=r at *;clear hlt;obtain ⟨⟨nm,args⟩,body⟩:=r;dsimp only at *
       go_wp2_with fail
       refine c1.mono ?_;rintro e w3 ⟨rfl,hb3⟩;have B3:=hb.trans (hb3.mono hb.size);clear c1;cases h1:fM ⟨nm,args⟩ body
       ·have HZ:Hid (fO rs=4):=η (by rw [HP.out,if_pos (HBAD.out h1)])
        clear h1 HBAD HS HP;go_wp2;go_ret;exact ⟨eF (by simp [HZ.out]),B3⟩
       ·have HZ:=η (HS.out.trans h1)
        clear h1 HBAD HS;go_wp2;go_roundw
        case rel=>exact ⟨k+1,HLT.out,by go_num,HZ.out,B3⟩
        case measure=>have:=HLT.out; simp [intOf]; omega
      ·have he:k=rs.length:=by omega
       have hk1:¬ (k:Int) < (rs.length:Int):=by omega
       have hti:(rs.all fun r=>fM r.head r.body)=true:=by have:=HA.out; rw [he,List.take_of_length_le (Nat.le_refl _)] at this; exact this
       replace HP:Hid (fO rs=if lY rs=true then 5 else 0):=η (by rw [HP.out,if_neg (by simp [hti])]);clear HA he hti h
       go_wp2_with fail
       refine (C5.out _ hb).mono ?_;rintro e w4 ⟨rfl,hb4⟩;have B4:=hb.trans (hb4.mono hb.size);clear C5;cases hc:lY rs
       ·have HZ:Hid (fO rs=0):=η (by rw [HP.out,if_neg (by simp [hc])])
        clear HP hc;go_wp2;go_ret;exact ⟨eF (by simp [HZ.out]),B4⟩
       ·have HZ:Hid (fO rs=5):=η (by rw [HP.out,if_pos hc])
        clear HP hc;go_wp2;go_ret;exact ⟨eF (by simp [HZ.out]),B4⟩
   ·have hf1:(8:Int) < (rs.length:Int):=by omega
    have HZ:Hid (fO rs=2):=η (by unfold fO; rw [if_neg (by simp [hok]),if_pos (by omega)]);clear hok hf C1 C3 h;go_wp2;go_ret;exact ⟨eF (by simp [HZ.out]),hb⟩
end Go.Proofs.YtiidmgchadagbaaGreatDoor
