/- Of the proof of FnExactDelta: DltS, DltI. -/
import Derived.Test.YtiidmgchadagbaaGreatDoorM44
set_option linter.unusedVariables false
set_option maxHeartbeats 2000000
set_option maxRecDepth 100000
namespace Go.Proofs.YtiidmgchadagbaaGreatDoor
open Go.RowKit D
attribute [local go_sem ↓] Go.wp_at_zero Go.wp_at_succ
theorem DN (rs:List Ru) (xs:List A) (c:Ch) (v1 v2 c0 c1:Value) (b1 b2 b3:List Nat) (w:World) (h:dO w [v1] rs b1) (h2:aI w [v2] xs b2) (h3:dU w [c0,c1] c b3):
  Calls Tryz.prog 23 #[v1,v2,.agg #[c0,c1]] w (Va (bW rs xs c) w.heap.size w):=by
 obtain ⟨Ad,cap,rfl,_,_⟩:=af h;obtain ⟨Ad2,cap2,rfl,_,_⟩:=af h2;obtain ⟨Aa,ca,Ag,cg,rfl,rfl⟩:=eG h3;have hA:Below w.heap.size w ((w.alloc (.cells #[.slice Aa c.comes.length ca,.slice Ag c.goes.length cg] 46)).alloc (.cells #[.slice none 0 0,.slice none 0 0] 46)):=((Below.refl _ _).alloc (Nat.le_refl _) _).alloc (by simp) _;have k1:=fun w' (hb':Below w.heap.size w w')=>KD rs xs _ _ b1 b2 w' (aC.below h hb') (ai.below h2 hb')
 have k2:=fun w' (hb':Below w.heap.size w w')=>Ed c _ _ b3 w' (aA.below h3 hb')
 have k3:=fun w' (hb':Below w.heap.size w w')=>eval_any rs xs _ _ b1 b2 w' (aC.below h hb') (ai.below h2 hb')
 have k4:=fun (hx:bH xs=true) (hc:jC c=true) w' (hb':Below w.heap.size w w')=>TI xs c _ _ _ b2 b3 w' (ai.below h2 hb') (aA.below h3 hb') (fE hx) (fE (kQ hc).2) (kW hx) (kW (kQ hc).1)
 have k5:=fun ys v' bs' w' (hb':Below w.heap.size w w') (h':aI w' [v'] ys bs')=>eval_any rs ys _ _ b1 bs' w' (aC.below h hb') h'
 have HD:=η (show bW rs xs c=_ from rfl);have HX:=η fun (h0:fP rs xs=true)=>vH h0
 have HZ:Hid (((w.alloc (.cells #[.slice Aa c.comes.length ca,.slice Ag c.goes.length cg] 46)).alloc (.cells #[.slice none 0 0,.slice none 0 0] 46)).heap[w.heap.size+1]? = some (.cells #[.slice none 0 0,.slice none 0 0] 46 (0,0))):=η (Bj w _ _).2;have x0:((w.alloc (.cells #[.slice Aa c.comes.length ca,.slice Ag c.goes.length cg] 46)).alloc (.cells #[.slice none 0 0,.slice none 0 0] 46)).cell? ⟨w.heap.size,0,none⟩=some (.slice Aa c.comes.length ca):=by go_simp
 have x1:((w.alloc (.cells #[.slice Aa c.comes.length ca,.slice Ag c.goes.length cg] 46)).alloc (.cells #[.slice none 0 0,.slice none 0 0] 46)).cell? ⟨w.heap.size,1,none⟩=some (.slice Ag c.goes.length cg):=by go_simp
 clear h h2 h3 HD
 go_enter Tryz.func23,Tryz.ntmps23
 go_wp2_with fail
 refine (k1 _ hA).mono ?_;rintro e w1 ⟨rfl,hb1⟩;have B1:=hA.trans (hb1.mono hA.size);replace HZ:=η (bG hb1 HZ.out);replace x0:=cell_later hb1 x0;replace x1:=cell_later hb1 x1;clear k1 hA hb1
 cases hok:fP rs xs with
 | false=>
  have HG2:Hid (bW rs xs c=(⟨[],[]⟩,false)):=η (by unfold bW; rw [hok]; rfl);clear hok k2 k3 k4 k5 HX;have z0:w1.cell? ⟨w.heap.size+1,0,none⟩=some (.slice none 0 0):=aP HZ.out;have z1:w1.cell? ⟨w.heap.size+1,1,none⟩=some (.slice none 0 0):=aP HZ.out;have f0:w1.frozen? ⟨w.heap.size+1,0,none⟩=false:=aF HZ.out;have f1:w1.frozen? ⟨w.heap.size+1,1,none⟩=false:=aF HZ.out;have HF:=η (fF (c:=⟨[],[]⟩) HZ.out (dA _) (dA _));go_wp2;refine bodyPost_ret (v:=.tuple #[.agg #[.slice none 0 0,.slice none 0 0],.bool false]) (by simp [results,Tryz.results23,go_sem,z0,z1]) rfl ⟨(B1.setCell (by dsimp only; omega) _).setCell (by dsimp only; omega) _,_,_,by rw [HG2.out],by rw [HG2.out]; exact HF.out⟩
 | true=>
  have hx:=HX.out hok;have HGF:=η hx;have HOK:=η hok;clear HX hok
  go_wp2_with fail
  refine (k2 _ B1).mono ?_;rintro e w2 ⟨rfl,hb2⟩;have B2:=B1.trans (hb2.mono B1.size);replace HZ:=η (bG hb2 HZ.out);replace x0:=cell_later hb2 x0;replace x1:=cell_later hb2 x1;clear k2 hb2
  cases hc:jC c with
  | false=>
   have HG2:Hid (bW rs xs c=(⟨[],[]⟩,false)):=η (by unfold bW; rw [HOK.out,hc]; rfl);clear hc hx k3 k4 k5;have z0:w2.cell? ⟨w.heap.size+1,0,none⟩=some (.slice none 0 0):=aP HZ.out;have z1:w2.cell? ⟨w.heap.size+1,1,none⟩=some (.slice none 0 0):=aP HZ.out;have f0:w2.frozen? ⟨w.heap.size+1,0,none⟩=false:=aF HZ.out;have f1:w2.frozen? ⟨w.heap.size+1,1,none⟩=false:=aF HZ.out;have HF:=η (fF (c:=⟨[],[]⟩) HZ.out (dA _) (dA _));go_wp2;refine bodyPost_ret (v:=.tuple #[.agg #[.slice none 0 0,.slice none 0 0],.bool false]) (by simp [results,Tryz.results23,go_sem,z0,z1]) rfl ⟨(B2.setCell (by dsimp only; omega) _).setCell (by dsimp only; omega) _,_,_,by rw [HG2.out],by rw [HG2.out]; exact HF.out⟩
  | true=>
   have HC:=η hc;have K4:=η (k4 hx hc);clear k4 hc hx;have K3:=η k3;have K5:=η k5;clear k3 k5;have HD:Hid (bW rs xs c=if ((dJ rs xs).2 && (dJ rs (behind xs c)).2)=true then (tJ (dJ rs xs).1 (dJ rs (behind xs c)).1,true) else (⟨[],[]⟩,false)):=η (by unfold bW; rw [HOK.out,HC.out]; rfl)
   go_wp2_with fail
   refine (K3.out _ B2).mono ?_;rintro e w3 ⟨hb3,va,ba,rfl,hRa⟩;obtain ⟨A3,p3,rfl,_,_⟩:=af hRa;have B3:=B2.trans (hb3.mono B2.size);replace HZ:=η (bG hb3 HZ.out);replace x0:=cell_later hb3 x0;replace x1:=cell_later hb3 x1;have HRa:=η hRa;clear hb3 hRa K3
   go_wp2_with fail
   refine (K4.out _ B3).mono ?_;rintro e w4 ⟨hb4,v4,b4,rfl,h4⟩;obtain ⟨A4,p4,rfl,_,_⟩:=af h4;have B4:=B3.trans (hb4.mono B3.size);replace HZ:=η (bG hb4 HZ.out);replace x0:=cell_later hb4 x0;replace x1:=cell_later hb4 x1;replace HRa:=η (ai.below HRa.out hb4);have k5:=K5.out _ _ _ _ B4 h4;clear hb4 h4 K4 K5
   go_wp2_with fail
   refine k5.mono ?_;rintro e w5 ⟨hb5,vb,bb,rfl,hRb⟩;obtain ⟨A5,p5,rfl,_,_⟩:=af hRb;have B5:=B4.trans (hb5.mono B4.size);replace HZ:=η (bG hb5 HZ.out);replace x0:=cell_later hb5 x0;replace x1:=cell_later hb5 x1;replace HRa:=η (ai.below HRa.out hb5);have HRb:=η hRb;clear hb5 hRb k5
   cases he1:(dJ rs xs).2 with
   | false=>
    have HG2:Hid (bW rs xs c=(⟨[],[]⟩,false)):=η (by rw [HD.out,he1]; simp);clear he1;have z0:w5.cell? ⟨w.heap.size+1,0,none⟩=some (.slice none 0 0):=aP HZ.out;have z1:w5.cell? ⟨w.heap.size+1,1,none⟩=some (.slice none 0 0):=aP HZ.out;have f0:w5.frozen? ⟨w.heap.size+1,0,none⟩=false:=aF HZ.out;have f1:w5.frozen? ⟨w.heap.size+1,1,none⟩=false:=aF HZ.out;have HF:=η (fF (c:=⟨[],[]⟩) HZ.out (dA _) (dA _));go_wp2;refine bodyPost_ret (v:=.tuple #[.agg #[.slice none 0 0,.slice none 0 0],.bool false]) (by simp [results,Tryz.results23,go_sem,z0,z1]) rfl ⟨(B5.setCell (by dsimp only; omega) _).setCell (by dsimp only; omega) _,_,_,by rw [HG2.out],by rw [HG2.out]; exact HF.out⟩
   | true=>
    have HE1:=η he1;clear he1
    cases he2:(dJ rs (behind xs c)).2 with
    | false=>
     have HG2:Hid (bW rs xs c=(⟨[],[]⟩,false)):=η (by rw [HD.out,he2]; simp);clear he2;have z0:w5.cell? ⟨w.heap.size+1,0,none⟩=some (.slice none 0 0):=aP HZ.out;have z1:w5.cell? ⟨w.heap.size+1,1,none⟩=some (.slice none 0 0):=aP HZ.out;have f0:w5.frozen? ⟨w.heap.size+1,0,none⟩=false:=aF HZ.out;have f1:w5.frozen? ⟨w.heap.size+1,1,none⟩=false:=aF HZ.out;have HF:=η (fF (c:=⟨[],[]⟩) HZ.out (dA _) (dA _));go_wp2;refine bodyPost_ret (v:=.tuple #[.agg #[.slice none 0 0,.slice none 0 0],.bool false]) (by simp [results,Tryz.results23,go_sem,z0,z1]) rfl ⟨(B5.setCell (by dsimp only; omega) _).setCell (by dsimp only; omega) _,_,_,by rw [HG2.out],by rw [HG2.out]; exact HF.out⟩
    | true=>
     have HG2:Hid (bW rs xs c=(tJ (dJ rs xs).1 (dJ rs (behind xs c)).1,true)):=η (by rw [HD.out,HE1.out,he2]; rfl);clear he2 HD;generalize bW rs xs c=G at *;have k6:=Ee _ _ _ _ ba bb w5 HRa.out HRb.out;generalize tJ (dJ rs xs).1 (dJ rs (behind xs c)).1=C at *;clear HRa HRb
     go_wp2_with fail
     refine k6.mono ?_;rintro e w7 ⟨hb7,cs7,b7,rfl,h7⟩;obtain ⟨A7,p7,E7,q7,rfl⟩:=eU h7;have B7:=B5.trans (hb7.mono B5.size);replace HZ:=η (bG hb7 HZ.out);replace x0:=cell_later hb7 x0;replace x1:=cell_later hb7 x1;have H7:=η h7;clear hb7 h7 k6;have z0:w7.cell? ⟨w.heap.size+1,0,none⟩=some (.slice none 0 0):=aP HZ.out;have z1:w7.cell? ⟨w.heap.size+1,1,none⟩=some (.slice none 0 0):=aP HZ.out;have f0:w7.frozen? ⟨w.heap.size+1,0,none⟩=false:=aF HZ.out;have f1:w7.frozen? ⟨w.heap.size+1,1,none⟩=false:=aF HZ.out;obtain ⟨e1,e2,hbe,hC4,hD4⟩:=dZ H7.out;have HF:=η (fF (c:=C) HZ.out hC4 hD4);clear hC4 hD4;go_wp2;refine bodyPost_ret (v:=.tuple #[.agg #[.slice A7 C.comes.length p7,.slice E7 C.goes.length q7],.bool true]) (by simp [results,Tryz.results23,go_sem,z0,z1]) rfl ⟨(B7.setCell (by dsimp only; omega) _).setCell (by dsimp only; omega) _,_,_,by rw [HG2.out],by rw [HG2.out]; exact HF.out⟩
theorem wM (rs:List Ru) (xs:List A) (c:Ch) (v1 v2 c0 c1:Value) (b1 b2 b3:List Nat) (w:World) (h:dO w [v1] rs b1) (h2:aI w [v2] xs b2) (h3:dU w [c0,c1] c b3) (hg:qp w):
  Calls Tryz.prog 25 #[v1,v2,.agg #[c0,c1]] w (Vb (bW rs xs c) w.heap.size w):=by
 obtain ⟨Ad,cap,rfl,_,_⟩:=af h;obtain ⟨Ad2,cap2,rfl,_,_⟩:=af h2;obtain ⟨Aa,ca,Ag,cg,rfl,rfl⟩:=eG h3;have hA:Below w.heap.size w ((w.alloc (.cells #[.slice Aa c.comes.length ca,.slice Ag c.goes.length cg] 46)).alloc (.cells #[.slice none 0 0,.slice none 0 0] 46)):=((Below.refl _ _).alloc (Nat.le_refl _) _).alloc (by simp) _;have k1:=fun w' (hb':Below w.heap.size w w')=>uD rs xs _ _ b1 b2 w' (aC.below h hb') (ai.below h2 hb') (hg.below hb')
 have k2:=fun w' (hb':Below w.heap.size w w')=>Ef c _ _ b3 w' (aA.below h3 hb')
 have k3:=fun w' (hb':Below w.heap.size w w')=>FV rs xs _ _ b1 b2 w' (aC.below h hb') (ai.below h2 hb') (hg.below hb')
 have k4:=fun (hx:bH xs=true) (hc:jC c=true) w' (hb':Below w.heap.size w w')=>Ku xs c _ _ _ b2 b3 w' (ai.below h2 hb') (aA.below h3 hb') (by have:=jM hx; omega) (by have:=jM (kQ hc).1; omega) (by have:=jM (kQ hc).2; omega)
 have k5:=fun ys v' bs' w' (hb':Below w.heap.size w w') (h':aI w' [v'] ys bs')=>FV rs ys _ _ b1 bs' w' (aC.below h hb') h' (hg.below hb')
 have HD:=η (show bW rs xs c=_ from rfl);have HX:=η fun (h0:fP rs xs=true)=>vH h0
 have HZ:Hid (((w.alloc (.cells #[.slice Aa c.comes.length ca,.slice Ag c.goes.length cg] 46)).alloc (.cells #[.slice none 0 0,.slice none 0 0] 46)).heap[w.heap.size+1]? = some (.cells #[.slice none 0 0,.slice none 0 0] 46 (0,0))):=η (Bj w _ _).2;have x0:((w.alloc (.cells #[.slice Aa c.comes.length ca,.slice Ag c.goes.length cg] 46)).alloc (.cells #[.slice none 0 0,.slice none 0 0] 46)).cell? ⟨w.heap.size,0,none⟩=some (.slice Aa c.comes.length ca):=by go_simp
 have x1:((w.alloc (.cells #[.slice Aa c.comes.length ca,.slice Ag c.goes.length cg] 46)).alloc (.cells #[.slice none 0 0,.slice none 0 0] 46)).cell? ⟨w.heap.size,1,none⟩=some (.slice Ag c.goes.length cg):=by go_simp
 clear h h2 h3 hg HD
 go_enter Tryz.func25,Tryz.ntmps25
 go_wp2_with fail
 refine (k1 _ hA).mono ?_;rintro e w1 ⟨rfl,hb1⟩;have B1:=hA.trans (hb1.mono hA.size);replace HZ:=η (bG hb1 HZ.out);replace x0:=cell_later hb1 x0;replace x1:=cell_later hb1 x1;clear k1 hA hb1
 cases hok:fP rs xs with
 | false=>
  have HG2:Hid (bW rs xs c=(⟨[],[]⟩,false)):=η (by unfold bW; rw [hok]; rfl);clear hok k2 k3 k4 k5 HX;have z0:w1.cell? ⟨w.heap.size+1,0,none⟩=some (.slice none 0 0):=aP HZ.out;have z1:w1.cell? ⟨w.heap.size+1,1,none⟩=some (.slice none 0 0):=aP HZ.out;have f0:w1.frozen? ⟨w.heap.size+1,0,none⟩=false:=aF HZ.out;have f1:w1.frozen? ⟨w.heap.size+1,1,none⟩=false:=aF HZ.out;have HF:=η (fF (c:=⟨[],[]⟩) HZ.out (dA _) (dA _));go_wp2;refine bodyPost_ret (v:=.tuple #[.agg #[.slice none 0 0,.slice none 0 0],.bool false]) (by simp [results,Tryz.results25,go_sem,z0,z1]) rfl ⟨(B1.setCell (by dsimp only; omega) _).setCell (by dsimp only; omega) _,_,[],by rw [HG2.out],by rw [HG2.out]; exact HF.out,New.nil _ _⟩
 | true=>
  have hx:=HX.out hok;have HGF:=η hx;have HOK:=η hok;clear HX hok
  go_wp2_with fail
  refine (k2 _ B1).mono ?_;rintro e w2 ⟨rfl,hb2⟩;have B2:=B1.trans (hb2.mono B1.size);replace HZ:=η (bG hb2 HZ.out);replace x0:=cell_later hb2 x0;replace x1:=cell_later hb2 x1;clear k2 hb2
  cases hc:jC c with
  | false=>
   have HG2:Hid (bW rs xs c=(⟨[],[]⟩,false)):=η (by unfold bW; rw [HOK.out,hc]; rfl);clear hc hx k3 k4 k5;have z0:w2.cell? ⟨w.heap.size+1,0,none⟩=some (.slice none 0 0):=aP HZ.out;have z1:w2.cell? ⟨w.heap.size+1,1,none⟩=some (.slice none 0 0):=aP HZ.out;have f0:w2.frozen? ⟨w.heap.size+1,0,none⟩=false:=aF HZ.out;have f1:w2.frozen? ⟨w.heap.size+1,1,none⟩=false:=aF HZ.out;have HF:=η (fF (c:=⟨[],[]⟩) HZ.out (dA _) (dA _));go_wp2;refine bodyPost_ret (v:=.tuple #[.agg #[.slice none 0 0,.slice none 0 0],.bool false]) (by simp [results,Tryz.results25,go_sem,z0,z1]) rfl ⟨(B2.setCell (by dsimp only; omega) _).setCell (by dsimp only; omega) _,_,[],by rw [HG2.out],by rw [HG2.out]; exact HF.out,New.nil _ _⟩
  | true=>
   have HC:=η hc;have K4:=η (k4 hx hc);clear k4 hc hx;have K3:=η k3;have K5:=η k5;clear k3 k5;have HD:Hid (bW rs xs c=if ((dJ rs xs).2 && (dJ rs (behind xs c)).2)=true then (tJ (dJ rs xs).1 (dJ rs (behind xs c)).1,true) else (⟨[],[]⟩,false)):=η (by unfold bW; rw [HOK.out,HC.out]; rfl)
   go_wp2_with fail
   refine (K4.out _ B2).mono ?_;rintro e w3 ⟨hb3,v3,b3',U',hU,rfl,h3⟩;obtain ⟨A3,p3,rfl,_,_⟩:=af h3;have B3:=B2.trans (hb3.mono B2.size);replace HZ:=η (bG hb3 HZ.out);replace x0:=cell_later hb3 x0;replace x1:=cell_later hb3 x1;have hbu:dw (fQ xs c.goes) c.comes=behind xs c:=GY HGF.out HC.out;rw [hbu] at hU ⊢;by_cases hfit:(behind xs c).length≤300
   case neg=>
    rw [decide_eq_false hfit];clear K4 hb3 h3;have he0:dJ rs (behind xs c)=([],false):=Hy fun e=>absurd (oK e).n (by omega)
    have HG2:Hid (bW rs xs c=(⟨[],[]⟩,false)):=η (by rw [HD.out,he0]; simp);clear K3 K5 hU hbu he0;have z0:w3.cell? ⟨w.heap.size+1,0,none⟩=some (.slice none 0 0):=aP HZ.out;have z1:w3.cell? ⟨w.heap.size+1,1,none⟩=some (.slice none 0 0):=aP HZ.out;have f0:w3.frozen? ⟨w.heap.size+1,0,none⟩=false:=aF HZ.out;have f1:w3.frozen? ⟨w.heap.size+1,1,none⟩=false:=aF HZ.out;have HF:=η (fF (c:=⟨[],[]⟩) HZ.out (dA _) (dA _));go_wp2;refine bodyPost_ret (v:=.tuple #[.agg #[.slice none 0 0,.slice none 0 0],.bool false]) (by simp [results,Tryz.results25,go_sem,z0,z1]) rfl ⟨(B3.setCell (by dsimp only; omega) _).setCell (by dsimp only; omega) _,_,[],by rw [HG2.out],by rw [HG2.out]; exact HF.out,New.nil _ _⟩
   rw [decide_eq_true hfit];rw [if_pos hfit] at hU;subst hU;have H3:=η h3;clear hb3 h3 K4 hbu
   go_wp2_with fail
   refine (K3.out _ B3).mono ?_;rintro e w4 ⟨hb4,A4,p4,ba,rfl,hRa⟩;have B4:=B3.trans (hb4.mono B3.size);replace HZ:=η (bG hb4 HZ.out);replace x0:=cell_later hb4 x0;replace x1:=cell_later hb4 x1;have HRa:=η hRa;replace H3:=η (ai.below H3.out hb4);clear hb4 hRa K3
   cases he1:(dJ rs xs).2 with
   | false=>
    have HG2:Hid (bW rs xs c=(⟨[],[]⟩,false)):=η (by rw [HD.out,he1]; simp);clear he1 K5;have z0:w4.cell? ⟨w.heap.size+1,0,none⟩=some (.slice none 0 0):=aP HZ.out;have z1:w4.cell? ⟨w.heap.size+1,1,none⟩=some (.slice none 0 0):=aP HZ.out;have f0:w4.frozen? ⟨w.heap.size+1,0,none⟩=false:=aF HZ.out;have f1:w4.frozen? ⟨w.heap.size+1,1,none⟩=false:=aF HZ.out;have HF:=η (fF (c:=⟨[],[]⟩) HZ.out (dA _) (dA _));go_wp2;refine bodyPost_ret (v:=.tuple #[.agg #[.slice none 0 0,.slice none 0 0],.bool false]) (by simp [results,Tryz.results25,go_sem,z0,z1]) rfl ⟨(B4.setCell (by dsimp only; omega) _).setCell (by dsimp only; omega) _,_,[],by rw [HG2.out],by rw [HG2.out]; exact HF.out,New.nil _ _⟩
   | true=>
    have HE1:=η he1;clear he1;have k5:=K5.out _ _ _ _ B4 H3.out;clear K5 H3
    go_wp2_with fail
    refine k5.mono ?_;rintro e w5 ⟨hb5,A5,p5,bb,rfl,hRb⟩;have B5:=B4.trans (hb5.mono B4.size);replace HZ:=η (bG hb5 HZ.out);replace x0:=cell_later hb5 x0;replace x1:=cell_later hb5 x1;replace HRa:=η (ai.below HRa.out hb5);have HRb:=η hRb;clear hb5 hRb k5
    cases he2:(dJ rs (behind xs c)).2 with
    | false=>
     have HG2:Hid (bW rs xs c=(⟨[],[]⟩,false)):=η (by rw [HD.out,he2]; simp);clear he2;have z0:w5.cell? ⟨w.heap.size+1,0,none⟩=some (.slice none 0 0):=aP HZ.out;have z1:w5.cell? ⟨w.heap.size+1,1,none⟩=some (.slice none 0 0):=aP HZ.out;have f0:w5.frozen? ⟨w.heap.size+1,0,none⟩=false:=aF HZ.out;have f1:w5.frozen? ⟨w.heap.size+1,1,none⟩=false:=aF HZ.out;have HF:=η (fF (c:=⟨[],[]⟩) HZ.out (dA _) (dA _));go_wp2;refine bodyPost_ret (v:=.tuple #[.agg #[.slice none 0 0,.slice none 0 0],.bool false]) (by simp [results,Tryz.results25,go_sem,z0,z1]) rfl ⟨(B5.setCell (by dsimp only; omega) _).setCell (by dsimp only; omega) _,_,[],by rw [HG2.out],by rw [HG2.out]; exact HF.out,New.nil _ _⟩
    | true=>
     have HG2:Hid (bW rs xs c=(tJ (dJ rs xs).1 (dJ rs (behind xs c)).1,true)):=η (by rw [HD.out,HE1.out,he2]; rfl);clear he2 HD;generalize bW rs xs c=G at *;have hf1:bH (dJ rs xs).1=true:=yG;have hf2:bH (dJ rs (behind xs c)).1=true:=yG;have hof:(⟨fQ (dJ rs (behind xs c)).1 (dJ rs xs).1,fQ (dJ rs xs).1 (dJ rs (behind xs c)).1⟩:Ch)=tJ (dJ rs xs).1 (dJ rs (behind xs c)).1:=by unfold tJ; rw [hf1,hf2,vN (fE hf1) (fE hf2),vN (fE hf2) (fE hf1)]; rfl
     have hcf:CV (tJ (dJ rs xs).1 (dJ rs (behind xs c)).1).comes∧CV (tJ (dJ rs xs).1 (dJ rs (behind xs c)).1).goes:=by
      unfold tJ; rw [hf1,hf2]; exact ⟨Jz (kW hf2) _,Jz (kW hf1) _⟩
     have k6:=Dz _ _ _ _ ba bb w5 HRa.out HRb.out (by have:=jM hf1; omega) (by have:=jM hf2; omega);rw [hof] at k6;generalize tJ (dJ rs xs).1 (dJ rs (behind xs c)).1=C at *;clear HRa HRb hf1 hf2 hof
     go_wp2_with fail
     refine k6.mono ?_;rintro e w6 ⟨hb6,cs6,b6,rfl,h6⟩;obtain ⟨A6,p6,E6,q6,rfl⟩:=eU h6;have B6:=B5.trans (hb6.mono B5.size);replace HZ:=η (bG hb6 HZ.out);replace x0:=cell_later hb6 x0;replace x1:=cell_later hb6 x1;have HZ6:Hid (w.heap.size+1 < w6.heap.size):=η (lt_of_block HZ.out);have k7:=Di C _ _ b6 w6 h6 hcf.1 hcf.2;clear hb6 h6 k6 hcf
     go_wp2_with fail
     refine k7.mono ?_;rintro e w7 ⟨hb7,cs7,b7,rfl,h7,n7⟩;obtain ⟨A7,p7,E7,q7,rfl⟩:=eU h7;have B7:=B6.trans (hb7.mono B6.size);replace HZ:=η (bG hb7 HZ.out);replace x0:=cell_later hb7 x0;replace x1:=cell_later hb7 x1;have H7:=η h7;have N7:=η n7;clear hb7 h7 n7 k7;have z0:w7.cell? ⟨w.heap.size+1,0,none⟩=some (.slice none 0 0):=aP HZ.out;have z1:w7.cell? ⟨w.heap.size+1,1,none⟩=some (.slice none 0 0):=aP HZ.out;have f0:w7.frozen? ⟨w.heap.size+1,0,none⟩=false:=aF HZ.out;have f1:w7.frozen? ⟨w.heap.size+1,1,none⟩=false:=aF HZ.out;obtain ⟨e1,e2,hbe,hC4,hD4⟩:=dZ H7.out;have HF:=η (fF (c:=C) HZ.out hC4 hD4);clear hC4 hD4
     have HN:Hid (New w.heap.size ((w7.setCell ⟨w.heap.size+1,0,none⟩ (.slice A7 C.comes.length p7)).setCell ⟨w.heap.size+1,1,none⟩ (.slice E7 C.goes.length q7)) (e1 ++ e2)):=η (by
      rw [← hbe];have h9:=B6.size;refine ⟨N7.out.nodup,fun b hb=>?_⟩;have h8:=N7.out.own b hb;have hz9:w.heap.size+1 < w6.heap.size:=HZ6.out;refine ⟨by omega,?_⟩;rw [Below.heap_setCell _ _ _ _ (by dsimp only; omega),Below.heap_setCell _ _ _ _ (by dsimp only; omega)]
      exact h8.2)
     go_wp2;refine bodyPost_ret (v:=.tuple #[.agg #[.slice A7 C.comes.length p7,.slice E7 C.goes.length q7],.bool true]) (by simp [results,Tryz.results25,go_sem,z0,z1]) rfl ⟨(B7.setCell (by dsimp only; omega) _).setCell (by dsimp only; omega) _,_,_,by rw [HG2.out],by rw [HG2.out]; exact HF.out,HN.out⟩
end Go.Proofs.YtiidmgchadagbaaGreatDoor
