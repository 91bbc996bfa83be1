/- Of the proof of FnDeltaNeeds: ProgC, ChI, FrmI, ChS, OfS, DrawRs. -/
import Derived.Test.YtkjinanbccloeaaGreatDoorE18
import Derived.Test.YtkjinanbccloeaaGreatDoorE19
set_option linter.unusedVariables false
set_option maxHeartbeats 4000000
set_option maxRecDepth 100000
namespace Go.Proofs.YtkjinanbccloeaaGreatDoor
open Go.RowKit D
attribute [local go_sem ↓] Go.wp_at_zero Go.wp_at_succ
def D.oC (w:World):Prop:=w.cell? ⟨1,0,none⟩=some (.iface 350 (.agg #[.pointer (some ⟨2,186,none⟩)]))
theorem D.oC.below {w w':World} (h:oC w) (hb:Below w.heap.size w w'):oC w':=ξ hb h
theorem D.XH (rs:List Ru) (k:Nat) (h:k < rs.length) (h0:(rs.take k).all eY=true):(rs.take (k+1)).all eY=eY rs[k]:=by
 rw [ρ h,List.all_append,h0]; simp
theorem D.YH (rs:List Ru) (k:Nat) (h:k < rs.length) (h0:eY rs[k]=false):eU rs=1:=by
 unfold eU;rw [if_pos (List.all_eq_false.2 ⟨_,δ h,by simp [h0]⟩)]
theorem FP (rs:List Ru) (v:Value) (bs:List Nat) (w:World) (h:dW w [v] rs bs) (hg:oC w):
  Calls Tryz.prog 130 #[v] w fun e w'=>e=.returned (.int .i64 (eU rs))∧Below w.heap.size w w':=by
 obtain ⟨Ad,cap,rfl,hl,hm⟩:=aj h;have am:=ay (τ hl hm);have c1:=fun w' (hb:Below w.heap.size w w') (hok:rs.all eY=true) (hf:rs.length≤8)=>sG rs _ bs w' (aS.below h hb) hok hf
 have c2:=fun w' (hb:Below w.heap.size w w')=>zh rs _ bs w' (aS.below h hb)
 have c3:=fun w' (hb:Below w.heap.size w w') (hok:rs.all eY=true) (hf:rs.length≤8)=>y9 rs _ bs w' (aS.below h hb) hf hok
 have C1:=η c1;have C2:=η c2;have C3:=η c3;have HG:=η hg;clear hl hm c1 c2 c3 hg
 go_enter Tryz.func130,Tryz.ntmps130
 go_wp2
 go_loopw [12] (fun i wr=>∃ k:Nat,k≤rs.length∧i=.int .i64 k∧(rs.take k).all eY=true∧Below w.heap.size w wr) (fun i _=>rs.length - (intOf i).toNat)
 case atStart=>exact ⟨0,ε,rfl,rfl,ϑ⟩
 case round=>
  obtain ⟨k,hk,rfl,a1,hb⟩:=hrel;have HA:=η a1;clear a1;by_cases a0:k < rs.length
  ·clear C1 C2 C3 HG
   obtain ⟨b,o,Ae,ce,Af,cf,bk,rfl,_,d0,d1,d2,a3,_⟩:=iI (aS.below h hb) a0;have HS:=η (XH rs k a0 HA.out);have y:=η (YH rs k a0);have ao:(0:Int)≤(k:Int):=by omega
   have a8:(k:Int) < (rs.length:Int):=by omega
   have a4:=η a0;obtain ⟨b1,b2,_,a5,a6⟩:=iW a3;have hA:Below wr.heap.size wr (wr.alloc (.cells #[.string rs[k].head.name,.slice Ae rs[k].head.args.length ce,.slice Af rs[k].body.length cf] 40)):=ζ;have c1:=fun w' (hw:Below wr.heap.size wr w')=>Pn rs[k].body _ b2 w' (dN.below a6 hw)
   have c2:=fun w' (hw:Below wr.heap.size wr w')=>uJ rs[k].head _ _ b1 w' (ak.below a5 hw)
   have x0:(wr.alloc (.cells #[.string rs[k].head.name,.slice Ae rs[k].head.args.length ce,.slice Af rs[k].body.length cf] 40)).cell? ⟨wr.heap.size,0,none⟩=some (.string rs[k].head.name):=by go_simp
   have x1:(wr.alloc (.cells #[.string rs[k].head.name,.slice Ae rs[k].head.args.length ce,.slice Af rs[k].body.length cf] 40)).cell? ⟨wr.heap.size,1,none⟩=some (.slice Ae rs[k].head.args.length ce):=by go_simp
   have X0:=η x0;have X1:=η x1;have C1:=η c1;have C2:=η c2;have HH:=η hA;have U:Hid (eY rs[k]=(qf rs[k].body && aZ rs[k].head)):=η rfl;clear h a3 a5 a6 c1 c2 hA x0 x1;generalize rs[k]=r at *;clear a0;obtain ⟨⟨nm,args⟩,body⟩:=r;dsimp only at *;cases h1:qf body
   ·rw [h1] at C1
    have I:=η (y.out (by rw [U.out,h1]; rfl));clear h1 U y HS
    go_wp2_with fail
    refine (C1.out _ HH.out).mono ?_;rintro e w2 ⟨rfl,J⟩;have B2:=hb.trans ((HH.out.trans (J.mono HH.out.size)).mono hb.size);go_wp2;go_ret;exact ⟨fC (by simp [I.out]),B2⟩
   ·rw [h1] at C1
    go_wp2_with fail
    refine (C1.out _ HH.out).mono ?_;rintro e w2 ⟨rfl,J⟩;have B1:=HH.out.trans (J.mono HH.out.size);have x0:=ξ J X0.out;have x1:=ξ J X1.out;clear X0 X1 C1
    go_wp2_with fail
    refine (C2.out _ B1).mono ?_;rintro e w3 ⟨rfl,a2⟩;have B3:=hb.trans ((B1.trans (a2.mono B1.size)).mono hb.size);cases h2:aZ ⟨nm,args⟩
    ·have I:=η (y.out (by rw [U.out,h1,h2]; rfl))
     clear h1 U y HS;go_wp2;go_ret;exact ⟨fC (by simp [I.out]),B3⟩
    ·have I:=η (HS.out.trans (by rw [U.out,h1,h2,Bool.and_true]))
     clear h1 U y HS;go_wp2;go_roundw
     case rel=>exact ⟨k+1,a4.out,by go_num,I.out,B3⟩
     case measure=>have:=a4.out; simp [intOf]; omega
  ·have he:k=rs.length:=by omega
   have a8:¬ (k:Int) < (rs.length:Int):=by omega
   have hok:rs.all eY=true:=by have:=HA.out; rw [he,ϕ ν] at this; exact this
   clear HA he h;by_cases hf:rs.length≤8
   ·have a9:¬ (8:Int) < (rs.length:Int):=by omega
    have hP:eU rs=if kH (aB rs)=false then 3 else if (rs.all fun r=>fO r.head r.body)=false then 4 else if mG rs=true then 5 else 0:=by
     unfold eU; rw [if_neg (by simp [hok]),if_neg (by omega)]
    have C4:=η fun w' hb=>C1.out w' hb hok hf
    have C5:=η fun w' hb=>C3.out w' hb hok hf
    have HP:=η hP;clear hok hf hP C1 C3
    go_wp2_with fail
    refine (C4.out _ hb).mono ?_;rintro e w2 ⟨rfl,n,hM,J⟩;have B2:=hb.trans (J.mono hb.size);clear C4 hM;cases ha:kH (aB rs)
    ·have I:Hid (eU rs=3):=η (by rw [HP.out,if_pos ha])
     clear HP ha;go_wp2;go_ret;exact ⟨fC (by simp [I.out]),B2⟩
    ·replace HP:Hid (eU rs=if (rs.all fun r=>fO r.head r.body)=false then 4 else if mG rs=true then 5 else 0):=η (by rw [HP.out,if_neg (by simp [ha])])
     clear ha
     go_wp2_with fail
     refine (C2.out _ B2).mono ?_;rintro e w3 ⟨rfl,a2⟩;have B3:=B2.trans (a2.mono B2.size);clear C2;cases ht:(rs.all fun r=>fO r.head r.body)
     ·have I:Hid (eU rs=4):=η (by rw [HP.out,if_pos ht])
      clear HP ht;go_wp2;go_ret;exact ⟨fC (by simp [I.out]),B3⟩
     ·replace HP:Hid (eU rs=if mG rs=true then 5 else 0):=η (by rw [HP.out,if_neg (by simp [ht])])
      clear ht
      go_wp2_with fail
      refine (C5.out _ B3).mono ?_;rintro e w4 ⟨aa,hr⟩;have B4:=B3.trans (aa.mono B3.size);clear C5
      rcases hr with ⟨hc,a,rfl⟩ | ⟨hc,v',bs',rfl,_,_⟩
      ·have I:Hid (eU rs=5):=η (by rw [HP.out,if_pos hc])
       clear HP hc;have hA:Below w4.heap.size w4 (w4.alloc (.cells #[.pointer none] 255)):=ζ;have ab:=η ((HG.out.below (B4)).below hA);have ac:Hid ((w4.alloc (.cells #[.pointer none] 255)).cell? ⟨w4.heap.size,0,none⟩=some (.pointer none)):=η (by go_simp);have ae:Hid ((w4.alloc (.cells #[.pointer none] 255)).frozen? ⟨w4.heap.size,0,none⟩=false):=η (by go_simp);have B5:=B4.trans (hA.mono B4.size);have af:Hid (w.heap.size≤w4.heap.size):=η B4.size;clear hA
       go_wp2_with fail
       refine (Ja _ _ _ _ ab.out ac.out ae.out).mono ?_;rintro e w5 ⟨rfl,a7⟩;have S0:=af.out;have B6:=((((B5.alloc (by simp; omega) (.cells #[.pointer (some ⟨w4.heap.size,0,none⟩)] 257)).alloc (by simp; omega) (.cells #[.pointer (some ⟨2,257,none⟩),.pointer (some ⟨w4.heap.size+1,0,none⟩),.int .u64 150] 313)).alloc (by simp; omega) (.cells #[.pointer (some ⟨2,257,none⟩),.pointer (some ⟨w4.heap.size+1,0,none⟩),.int .u64 150] 313)).alloc (by simp; omega) (.cells #[.pointer (some a)] 255)).setCell (p:=⟨w4.heap.size,0,none⟩) S0 (.pointer (some a));have ag:Hid (Below w.heap.size w w5):=η (by rw [a7]; simpa using B6);clear B6 B5 B4 S0 a7;go_wp2;go_ret;exact ⟨fC (by simp [I.out]),ag.out⟩
      ·have I:Hid (eU rs=0):=η (by rw [HP.out,if_neg (by simp [hc])])
       clear HP hc
       go_wp2_with fail
       refine (I7 _ _).mono ?_;rintro e w5 ⟨rfl,rfl⟩;go_wp2;go_ret;exact ⟨fC (by simp [I.out]),B4.alloc B4.size _⟩
   ·have a9:(8:Int) < (rs.length:Int):=by omega
    have I:Hid (eU rs=2):=η (by unfold eU; rw [if_neg (by simp [hok]),if_pos (by omega)]);clear hok hf C1 C2 C3;go_wp2;go_ret;exact ⟨fC (by simp [I.out]),hb⟩
theorem Gu (c:Ch) (c0 c1:Value) (bs:List Nat) (w:World) (h:gK w [c0,c1] c bs):
  Calls Tryz.prog 33 #[.agg #[c0,c1]] w fun e w'=>e=.returned (.bool (fK c))∧Below w.heap.size w w':=by
 obtain ⟨Ad,cap,Ae,I,rfl,rfl⟩:=iD h;obtain ⟨b1,b2,rfl,ht,hp⟩:=gQ h;have k1:=fun w' (hb:Below w.heap.size w w')=>sO c.comes _ b1 w' (au.below ht hb)
 have k2:=fun w' (hb:Below w.heap.size w w')=>sO c.goes _ b2 w' (au.below hp hb)
 have k3:=fun w' (hb:Below w.heap.size w w')=>PK c.comes c.goes _ _ b1 b2 w' (au.below ht hb) (au.below hp hb)
 have HE:Hid (fK c=(aU c.comes && aU c.goes && !meets c.comes c.goes)):=η rfl;have HM:=fun (hx:aU c.comes=true) (hy:aU c.goes=true)=>KC _ c.comes c.goes ν (dV hx) (dV hy)
 generalize aU c.comes=x at *;generalize aU c.goes=y at *;generalize (bQ c.comes c.goes).any (fun p=>p.2 == 2)=z at *;generalize meets c.comes c.goes=m at *;clear h ht hp;have hA:=(Below.refl w.heap.size w).alloc ν (.cells #[.slice Ad c.comes.length cap,.slice Ae c.goes.length I] 54)
 go_enter Tryz.func33,Tryz.ntmps33
 go_wp2_with fail
 refine (k1 _ hA).mono ?_;rintro e w1 ⟨rfl,J⟩;have B1:=hA.trans (J.mono hA.size);have x0:w1.cell? ⟨w.heap.size,0,none⟩=some (.slice Ad c.comes.length cap):=ξ J (by go_simp);have x1:w1.cell? ⟨w.heap.size,1,none⟩=some (.slice Ae c.goes.length I):=ξ J (by go_simp);clear k1 hA;cases x
 ·clear HM
  go_wp2;go_ret;exact ⟨aH (by rw [HE.out]; rfl),B1⟩
 ·go_wp2_with fail
  refine (k2 _ B1).mono ?_;rintro e w2 ⟨rfl,U⟩;have B2:=B1.trans (U.mono B1.size);have y0:=ξ U x0;have y1:=ξ U x1;clear k2 x0 x1;cases y
  ·clear HM
   go_wp2;go_ret;exact ⟨aH (by rw [HE.out]; rfl),B2⟩
  ·obtain rfl:z=m:=HM (by simp) (by simp)
   clear HM
   go_wp2_with fail
   refine (k3 _ B2).mono ?_;rintro e w3 ⟨rfl,a0⟩;go_wp2;go_ret;exact ⟨aH (by rw [HE.out]; simp),B2.trans (a0.mono B2.size)⟩
theorem FQ (xs ys:List A) (v1 v2:Value) (J U:List Nat) (w:World) (h:aC w [v1] xs J) (h2:aC w [v2] ys U) (a3:xs.length≤1000000) (a4:ys.length≤1000000):
  Calls Tryz.prog 78 #[v1,v2] w (UA gK ⟨gy ys xs,gy xs ys⟩ w.heap.size w):=by
 obtain ⟨Ad,cap,rfl,hl,hm⟩:=aj h;obtain ⟨Ae,a8,rfl,a6,a7⟩:=aj h2;have y:Below w.heap.size w (w.alloc (.cells #[.slice none 0 0,.slice none 0 0] 54)):=ζ;have I:=η (Qx w (.cells #[.slice none 0 0,.slice none 0 0] 54));have k3:=uV ys xs _ _ U J _ (au.below h2 y) (au.below h y) a4 a3;have k4:=fun w' (hb:Below w.heap.size w w')=>uV xs ys _ _ J U w' (au.below h hb) (au.below h2 hb) a3 a4
 clear h h2 hl hm a6 a7
 go_enter Tryz.func78,Tryz.ntmps78
 go_wp2_with fail
 refine k3.mono ?_;rintro e w3 ⟨a5,v3,b3,rfl,a0⟩;obtain ⟨A3,p3,rfl,_,_⟩:=aj a0;have B3:=y.trans (a5.mono y.size);replace I:=η (fD a5 I.out)
 go_wp2_with fail
 refine (k4 _ B3).mono ?_;rintro e w4 ⟨a1,v4,b4,rfl,a2⟩;obtain ⟨A4,p4,rfl,_,_⟩:=aj a2;have B4:=B3.trans (a1.mono B3.size);replace I:=η (fD a1 I.out);have z0:w4.cell? ⟨w.heap.size,0,none⟩=some (.slice none 0 0):=dD I.out;have z1:w4.cell? ⟨w.heap.size,1,none⟩=some (.slice none 0 0):=dD I.out;have f0:w4.frozen? ⟨w.heap.size,0,none⟩=false:=bJ I.out;have f1:w4.frozen? ⟨w.heap.size,1,none⟩=false:=bJ I.out;have HF:=η (fQ (c:=⟨gy ys xs,gy xs ys⟩) I.out (au.below a0 a1) a2);clear a0 a2 k3 k4;go_wp2;refine bodyPost_ret (v:=.agg #[.slice A3 (gy ys xs).length p3,.slice A4 (gy xs ys).length p4]) (by simp [results,Tryz.results78,go_sem,z0,z1]) rfl ⟨(B4.setCell ν _).setCell ν _,_,_,rfl,HF.out⟩
theorem Gv (c:Ch) (c0 c1:Value) (bs:List Nat) (w:World) (h:gK w [c0,c1] c bs):
  Calls Tryz.prog 79 #[.agg #[c0,c1]] w fun e w'=>e=.returned (.bool (fK c))∧Below w.heap.size w w':=by
 obtain ⟨Ad,cap,Ae,I,rfl,rfl⟩:=iD h;obtain ⟨b1,b2,rfl,ht,hp⟩:=gQ h;obtain ⟨_,_,a6,hl,hm⟩:=aj ht;have a8:=ay (τ hl hm);have k1:=fun w' (hb:Below w.heap.size w w')=>oK c.comes _ b1 w' (au.below ht hb)
 have k2:=fun w' (hb:Below w.heap.size w w')=>oK c.goes _ b2 w' (au.below hp hb)
 have HE:Hid (fK c=(aU c.comes && aU c.goes && !meets c.comes c.goes)):=η rfl;have U:=fun (hf:aU c.goes=true)=>dV hf
 generalize aU c.comes=x at *;generalize aU c.goes=y at *;clear h a6 hl hm;have hA:=(Below.refl w.heap.size w).alloc ν (.cells #[.slice Ad c.comes.length cap,.slice Ae c.goes.length I] 54)
 go_enter Tryz.func79,Tryz.ntmps79
 go_wp2_with fail
 refine (k1 _ hA).mono ?_;rintro e w1 ⟨rfl,a0⟩;have B1:=hA.trans (a0.mono hA.size);have x0:w1.cell? ⟨w.heap.size,0,none⟩=some (.slice Ad c.comes.length cap):=ξ a0 (by go_simp);have x1:w1.cell? ⟨w.heap.size,1,none⟩=some (.slice Ae c.goes.length I):=ξ a0 (by go_simp);clear k1 hA;cases x
 ·clear U
  go_wp2;go_ret;exact ⟨aH (by rw [HE.out]; rfl),B1⟩
 ·go_wp2_with fail
  refine (k2 _ B1).mono ?_;rintro e w2 ⟨rfl,a1⟩;have B2:=B1.trans (a1.mono B1.size);have y0:=ξ a1 x0;have y1:=ξ a1 x1;clear k2 x0 x1;cases y
  ·clear U
   go_wp2;go_ret;exact ⟨aH (by rw [HE.out]; rfl),B2⟩
  ·have hs:=U rfl
   have HS:=η hs;clear U;go_wp2
   go_loopw [3] (fun i wr=>∃ k:Nat,k≤c.comes.length∧i=.int .i64 k∧meets (c.comes.take k) c.goes=false∧Below w.heap.size w wr∧wr.cell? ⟨w.heap.size,0,none⟩=some (.slice Ad c.comes.length cap)∧wr.cell? ⟨w.heap.size,1,none⟩=some (.slice Ae c.goes.length I)∧w.heap.size < wr.heap.size) (fun i _=>c.comes.length - (intOf i).toNat)
   case atStart=>exact ⟨0,ε,rfl,rfl,B2,y0,y1,lt_of_cell y0⟩
   case round=>
    obtain ⟨k,hk,rfl,a2,hb,s0,s1,a7⟩:=hrel;have HA:=η a2;clear a2 y0 y1 B2 a1 B1 a0;by_cases a3:k < c.comes.length
    ·have a9:(0:Int)≤(k:Int):=by omega
     have aa:(k:Int) < (c.comes.length:Int):=by omega
     obtain ⟨b,o,Af,ce,bk,rfl,_,c0,c1,a4,_⟩:=dL (au.below ht hb) a3;have hD:Below wr.heap.size wr wr.drew:=Below.drew ϑ;have a5:=AZ c.goes c.comes[k] _ _ _ b2 bk wr.drew (au.below hp (hb.trans (hD.mono hb.size))) (ak.below a4 hD) HS.out;have HM:=η (OB (ys:=c.goes) a3);have HB:=η (fun hf=>Q8 (ys:=c.goes) a3 hf);generalize hasB c.goes c.comes[k]=z at *;clear ht hp a4 hs;cases z
     all_goals
      go_wp2
      go_region_held3 (fun w'=>w'.cell? ⟨w.heap.size,0,none⟩=some (.slice (some ⟨b,o,none⟩) c.comes.length cap)∧w'.cell? ⟨w.heap.size,1,none⟩=some (.slice Ae c.goes.length I)∧w'.cell? ⟨b,o+k * 2,none⟩=some (.string c.comes[k].name)∧w'.cell? ⟨b,o+k * 2+1,none⟩=some (.slice Af c.comes[k].args.length ce))
       (first | go_keep | exact ⟨z0,z1,z2,z3⟩)
       (first | (go_at_call 141; refine a5.mono ?_; rintro e w3 ⟨rfl,J⟩; have z0:=ξ J s0; have z1:=ξ J s1; have z2:=ξ J c0; have z3:=ξ J c1))
      have B3:=hb.trans ((hD.trans J).mono hb.size);clear a5;go_wp2
     ·go_roundw
      case rel=>exact ⟨k+1,by omega,by go_num,by rw [HM.out,HA.out]; rfl,B3,z0,z1,κ a7 (hD.trans J).size⟩
      case measure=>simp [intOf]; omega
     ·go_ret
      exact ⟨aH (by rw [HE.out,HB.out (by simp)]; rfl),B3⟩
    ·have he:=η (show k=c.comes.length by omega)
     clear ht hp hs;go_wp2;go_ret;exact ⟨aH (by have:=HA.out; rw [he.out,ϕ ν] at this; rw [HE.out,this]; rfl),hb⟩
theorem Gw (xs ys:List A) (v1 v2:Value) (U a0:List Nat) (w:World) (h:aC w [v1] xs U) (h2:aC w [v2] ys a0):
  Calls Tryz.prog 81 #[v1,v2] w (UA gK (qx xs ys) w.heap.size w):=by
 obtain ⟨Ad,cap,rfl,hl,hm⟩:=aj h;obtain ⟨Ae,af,rfl,ac,ae⟩:=aj h2;have a1:Below w.heap.size w (w.alloc (.cells #[.slice none 0 0,.slice none 0 0] 54)):=ζ;have I:=η (Qx w (.cells #[.slice none 0 0,.slice none 0 0] 54));have k1:=oK xs _ U _ (au.below h a1);have k2:=fun w' (hb:Below w.heap.size w w')=>oK ys _ a0 w' (au.below h2 hb)
 have k3:=fun (hf:aU xs=true) (hg:aU ys=true) w' (hb:Below w.heap.size w w')=>xJ ys xs _ _ a0 U w' (au.below h2 hb) (au.below h hb) (dV hf) (τ (lQ hg).1 (by omega)) (lQ hg).2
 have k4:=fun (hf:aU xs=true) (hg:aU ys=true) w' (hb:Below w.heap.size w w')=>xJ xs ys _ _ U a0 w' (au.below h hb) (au.below h2 hb) (dV hg) (τ (lQ hf).1 (by omega)) (lQ hf).2
 have HG:Hid (qx xs ys=if (aU xs && aU ys)=true then ⟨cu ys xs,cu xs ys⟩ else ⟨[],[]⟩):=η rfl;generalize qx xs ys=G at *;generalize aU xs=x at *;generalize aU ys=y at *;clear h h2 hl hm ac ae
 go_enter Tryz.func81,Tryz.ntmps81
 go_wp2_with fail
 refine k1.mono ?_;rintro e w1 ⟨rfl,a7⟩;have B1:=a1.trans (a7.mono a1.size);replace I:=η (fD a7 I.out);clear k1 a1;cases x
 ·clear k2 k3 k4
  have J:Hid (G=⟨[],[]⟩):=η (by rw [HG.out]; rfl);have z0:w1.cell? ⟨w.heap.size,0,none⟩=some (.slice none 0 0):=dD I.out;have z1:w1.cell? ⟨w.heap.size,1,none⟩=some (.slice none 0 0):=dD I.out;have f0:w1.frozen? ⟨w.heap.size,0,none⟩=false:=bJ I.out;have f1:w1.frozen? ⟨w.heap.size,1,none⟩=false:=bJ I.out;have HF:=η (fQ (c:=⟨[],[]⟩) I.out (dh _) (dh _));go_wp2;refine bodyPost_ret (v:=.agg #[.slice none 0 0,.slice none 0 0]) (by simp [results,Tryz.results81,go_sem,z0,z1]) rfl ⟨(B1.setCell ν _).setCell ν _,_,_,rfl,by rw [J.out]; exact HF.out⟩
 ·have a2:=k3 rfl
  have a3:=k4 rfl;clear k3 k4
  go_wp2_with fail
  refine (k2 _ B1).mono ?_;rintro e w2 ⟨rfl,a8⟩;have B2:=B1.trans (a8.mono B1.size);replace I:=η (fD a8 I.out);clear k2;cases y
  ·clear a2 a3
   have J:Hid (G=⟨[],[]⟩):=η (by rw [HG.out]; rfl);have z0:w2.cell? ⟨w.heap.size,0,none⟩=some (.slice none 0 0):=dD I.out;have z1:w2.cell? ⟨w.heap.size,1,none⟩=some (.slice none 0 0):=dD I.out;have f0:w2.frozen? ⟨w.heap.size,0,none⟩=false:=bJ I.out;have f1:w2.frozen? ⟨w.heap.size,1,none⟩=false:=bJ I.out;have HF:=η (fQ (c:=⟨[],[]⟩) I.out (dh _) (dh _));go_wp2;refine bodyPost_ret (v:=.agg #[.slice none 0 0,.slice none 0 0]) (by simp [results,Tryz.results81,go_sem,z0,z1]) rfl ⟨(B2.setCell ν _).setCell ν _,_,_,rfl,by rw [J.out]; exact HF.out⟩
  ·have a9:=a2 rfl
   have aa:=a3 rfl;have J:Hid (G=⟨cu ys xs,cu xs ys⟩):=η (by rw [HG.out]; rfl);clear a2 a3 HG
   go_wp2_with fail
   refine (a9 _ B2).mono ?_;rintro e w3 ⟨ab,v3,b3,rfl,a4⟩;obtain ⟨A3,p3,rfl,_,_⟩:=aj a4;have B3:=B2.trans (ab.mono B2.size);replace I:=η (fD ab I.out)
   go_wp2_with fail
   refine (aa _ B3).mono ?_;rintro e w4 ⟨a5,v4,b4,rfl,a6⟩;obtain ⟨A4,p4,rfl,_,_⟩:=aj a6;have B4:=B3.trans (a5.mono B3.size);replace I:=η (fD a5 I.out);have z0:w4.cell? ⟨w.heap.size,0,none⟩=some (.slice none 0 0):=dD I.out;have z1:w4.cell? ⟨w.heap.size,1,none⟩=some (.slice none 0 0):=dD I.out;have f0:w4.frozen? ⟨w.heap.size,0,none⟩=false:=bJ I.out;have f1:w4.frozen? ⟨w.heap.size,1,none⟩=false:=bJ I.out;have HF:=η (fQ (c:=⟨cu ys xs,cu xs ys⟩) I.out (au.below a4 a5) a6);clear a4 a6 a9 aa;go_wp2;refine bodyPost_ret (v:=.agg #[.slice A3 (cu ys xs).length p3,.slice A4 (cu xs ys).length p4]) (by simp [results,Tryz.results81,go_sem,z0,z1]) rfl ⟨(B4.setCell ν _).setCell ν _,_,_,rfl,by rw [J.out]; exact HF.out⟩
theorem D.zn (n x y:ByteArray) (hn:Sm n) (J:Sm x) (U:Sm y):AtS (edge n x y):=⟨hn,by simp [edge],fun t I=>by
 simp only [edge,ύ,List.not_mem_nil,or_false] at I
 rcases I with rfl | rfl
 ·exact J
 ·exact U⟩
theorem zo (g p:Nat) (w:World) (h:kQ g p w) (hp:p≤500000):
  Calls Tryz.prog 101 #[.pointer (some ⟨g,0,none⟩)] w (Vg 5 g p 100 w):=by
 obtain ⟨i0,hi,ao,a6,aq⟩:=info_parts Iu;have hg:=h.lt;have HF:=η (gZ.start hg h);have y:=pick_any g p 2 _ HF.out.rdr (by omega) (by omega) (by omega);have HP:=η hp;clear h hp
 go_enter Tryz.func101,Tryz.ntmps101
 go_wp2_with fail
 refine y.mono ?_;rintro e w1 ⟨m,rfl,hm,aD,d3⟩;have a8:=η (HF.out.call aD (aI.dB d3));clear y aD d3 HF hm
 go_upto_if 11 with fail
 go_cut [3] from 8 to 102 (fun v wx=>∃ (xs:List Ru) (Av:Option Addr) (cp:Nat),v=.slice Av xs.length cp∧xs.length≤2∧gZ g (p+1) w xs (.slice Av xs.length cp) wx)
 case first=>
  by_cases hz:m=0
  ·subst hz
   go_wp2_with fail
   refine (nJ ⟨#[116]⟩ ⟨#[88]⟩ ⟨#[89]⟩ _ (by decide) (by decide) (by decide)).mono ?_;rintro e w2 ⟨d4,b1,b2,rfl,a2,d5⟩;have cq:w1.heap.size≤b2:=by omega
   clear d5 b1;have T2:Below w1.heap.size w1 w2:=d4
   go_wp2_with fail
   refine (nJ ⟨#[101]⟩ ⟨#[88]⟩ ⟨#[89]⟩ _ (by decide) (by decide) (by decide)).mono ?_;rintro e w3 ⟨cr,el,b3,rfl,bX,d6⟩;have cv:w2.heap.size≤b3:=by omega
   clear d6 el;have T3:Below w1.heap.size w1 w3:=T2.trans (cr.mono T2.size);replace a2:=ak.below a2 cr;have bn:Below w3.heap.size w3 (w3.alloc (.cells #[.bool false,.string ⟨#[101]⟩,.slice (some ⟨b3,0,none⟩) 2 2] 42)):=ζ;have c6:=Sr (ω w3 (.cells #[.bool false,.string ⟨#[101]⟩,.slice (some ⟨b3,0,none⟩) 2 2] 42)) (ak.below bX bn);have c7:=ak.below a2 bn;have ca:iy (w3.alloc (.cells #[.bool false,.string ⟨#[101]⟩,.slice (some ⟨b3,0,none⟩) 2 2] 42)) [.string ⟨#[116]⟩,.slice (some ⟨b2,0,none⟩) 2 2,.slice (some ⟨w3.heap.size,0,none⟩) 1 1] (⟨edge ⟨#[116]⟩ ⟨#[88]⟩ ⟨#[89]⟩,[⟨false,edge ⟨#[101]⟩ ⟨#[88]⟩ ⟨#[89]⟩⟩]⟩:Ru) ([b2] ++ (w3.heap.size :: [b3])):=⟨_,_,_,_,rfl,by decide,rfl,dM c7,c6⟩
   obtain ⟨L3,eZ,d7,cb,d8,cw,d9,da,db⟩:=a8.out.arm (T3.trans (bn.mono T3.size)) ca (by
    intro b hb;have hz:=T3.size;have:=T2.size;have:=a8.out.kept.size;simp only [List.cons_append,List.nil_append,ύ,List.not_mem_nil,or_false] at hb
    rcases hb with rfl | rfl | rfl <;> omega)
   rw [World.size_alloc] at cw;have a9:=η (ι d7 (ι cb (ι d8 (ι cw (ι d9 (ι da db))))))
   have dc:Hid (Uc (⟨edge ⟨#[116]⟩ ⟨#[88]⟩ ⟨#[89]⟩,[⟨false,edge ⟨#[101]⟩ ⟨#[88]⟩ ⟨#[89]⟩⟩]⟩:Ru)):=η ⟨zn _ _ _ (by decide) (by decide) (by decide),by simp,fun x hx=>by
    simp only [ύ,List.not_mem_nil,or_false] at hx
    rcases hx with rfl <;> exact zn _ _ _ (by decide) (by decide) (by decide)⟩
   clear d4 a2 cq T2 cr bX cv T3 bn c6 c7 ca d7 cb d8 cw d9 da db
   go_wp2_with (at_builtin; refine bU rfl _ _ _ rfl w.heap.size 40 i0 (.agg #[.string ⟨#[]⟩,.slice none 0 0,.slice none 0 0]) 3 64 Tryz.underlying23 hi ao a6 aq rfl (by omega) aY (.slice (some ⟨w.heap.size,0,none⟩) 0 0) 0 _ [] _ rfl a9.out.1 rfl (some ⟨w3.heap.size+1,0,none⟩) 1 1 _ [(⟨edge ⟨#[116]⟩ ⟨#[88]⟩ ⟨#[89]⟩,[⟨false,edge ⟨#[101]⟩ ⟨#[88]⟩ ⟨#[89]⟩⟩]⟩:Ru)] _ rfl a9.out.2.2.1 rfl a9.out.2.2.2.1 a9.out.2.2.2.2.1 (by unfold maxLen; decide) (by decide) w1 w.heap.size a9.out.2.2.2.2.2.1 ν a9.out.2.2.2.2.2.2 ?_; intro A4 em w4 de dg en bo)
   have cx:=η (a8.out.app de a9.out.2.1 dg dc.out);clear de dg en bo a9
   go_wp2_with fail
   refine (nJ ⟨#[116]⟩ ⟨#[88]⟩ ⟨#[90]⟩ _ (by decide) (by decide) (by decide)).mono ?_;rintro e w5 ⟨b4,eo,b5,rfl,a5,di⟩;have cy:w4.heap.size≤b5:=by omega
   clear di eo;have T5:Below w4.heap.size w4 w5:=b4
   go_wp2_with fail
   refine (nJ ⟨#[116]⟩ ⟨#[88]⟩ ⟨#[89]⟩ _ (by decide) (by decide) (by decide)).mono ?_;rintro e w6 ⟨cz,ep,b6,rfl,az,dj⟩;have cA:w5.heap.size≤b6:=by omega
   clear dj ep;have T6:Below w4.heap.size w4 w6:=T5.trans (cz.mono T5.size);replace a5:=ak.below a5 cz
   go_wp2_with fail
   refine (nJ ⟨#[101]⟩ ⟨#[89]⟩ ⟨#[90]⟩ _ (by decide) (by decide) (by decide)).mono ?_;rintro e w7 ⟨bp,et,b7,rfl,cc,dk⟩;have cB:w6.heap.size≤b7:=by omega
   clear dk et;have T7:Below w4.heap.size w4 w7:=T6.trans (bp.mono T6.size);replace a5:=ak.below a5 bp;replace az:=ak.below az bp;have b8:Below w7.heap.size w7 (w7.alloc (.cells #[.bool false,.string ⟨#[116]⟩,.slice (some ⟨b6,0,none⟩) 2 2,.bool false,.string ⟨#[101]⟩,.slice (some ⟨b7,0,none⟩) 2 2] 42)):=ζ;have cd:=Bl (ω w7 (.cells #[.bool false,.string ⟨#[116]⟩,.slice (some ⟨b6,0,none⟩) 2 2,.bool false,.string ⟨#[101]⟩,.slice (some ⟨b7,0,none⟩) 2 2] 42)) (ak.below az b8) (ak.below cc b8);have ce:=ak.below a5 b8;have cg:iy (w7.alloc (.cells #[.bool false,.string ⟨#[116]⟩,.slice (some ⟨b6,0,none⟩) 2 2,.bool false,.string ⟨#[101]⟩,.slice (some ⟨b7,0,none⟩) 2 2] 42)) [.string ⟨#[116]⟩,.slice (some ⟨b5,0,none⟩) 2 2,.slice (some ⟨w7.heap.size,0,none⟩) 2 2] (⟨edge ⟨#[116]⟩ ⟨#[88]⟩ ⟨#[90]⟩,[⟨false,edge ⟨#[116]⟩ ⟨#[88]⟩ ⟨#[89]⟩⟩,⟨false,edge ⟨#[101]⟩ ⟨#[89]⟩ ⟨#[90]⟩⟩]⟩:Ru) ([b5] ++ (w7.heap.size :: ([b6] ++ [b7]))):=⟨_,_,_,_,rfl,by decide,rfl,dM ce,cd⟩
   obtain ⟨L7,cD,aa,U,a3,a4,ab,a7,b9⟩:=cx.out.arm (T7.trans (b8.mono T7.size)) cg (by
    intro b hb;have hz:=T7.size;have:=T5.size;have:=T6.size;have:=cx.out.kept.size;simp only [List.cons_append,List.nil_append,ύ,List.not_mem_nil,or_false] at hb
    rcases hb with rfl | rfl | rfl | rfl <;> omega)
   rw [World.size_alloc] at a4;have ac:=η (ι aa (ι U (ι a3 (ι a4 (ι ab (ι a7 b9))))))
   have dl:Hid (Uc (⟨edge ⟨#[116]⟩ ⟨#[88]⟩ ⟨#[90]⟩,[⟨false,edge ⟨#[116]⟩ ⟨#[88]⟩ ⟨#[89]⟩⟩,⟨false,edge ⟨#[101]⟩ ⟨#[89]⟩ ⟨#[90]⟩⟩]⟩:Ru)):=η ⟨zn _ _ _ (by decide) (by decide) (by decide),by simp,fun x hx=>by
    simp only [ύ,List.not_mem_nil,or_false] at hx
    rcases hx with rfl | rfl <;> exact zn _ _ _ (by decide) (by decide) (by decide)⟩
   clear b4 a5 cy T5 cz az cA T6 bp cc cB T7 b8 cd ce cg aa U a3 a4 ab a7 b9
   go_wp2_with (at_builtin; refine bU rfl _ _ _ rfl w.heap.size 40 i0 (.agg #[.string ⟨#[]⟩,.slice none 0 0,.slice none 0 0]) 3 64 Tryz.underlying23 hi ao a6 aq rfl (by omega) aY (.slice A4 1 em) 1 _ [(⟨edge ⟨#[116]⟩ ⟨#[88]⟩ ⟨#[89]⟩,[⟨false,edge ⟨#[101]⟩ ⟨#[88]⟩ ⟨#[89]⟩⟩]⟩:Ru)] _ rfl ac.out.1 rfl (some ⟨w7.heap.size+1,0,none⟩) 1 1 _ [(⟨edge ⟨#[116]⟩ ⟨#[88]⟩ ⟨#[90]⟩,[⟨false,edge ⟨#[116]⟩ ⟨#[88]⟩ ⟨#[89]⟩⟩,⟨false,edge ⟨#[101]⟩ ⟨#[89]⟩ ⟨#[90]⟩⟩]⟩:Ru)] _ rfl ac.out.2.2.1 rfl ac.out.2.2.2.1 ac.out.2.2.2.2.1 (by unfold maxLen; decide) (by decide) w4 w.heap.size ac.out.2.2.2.2.2.1 ν ac.out.2.2.2.2.2.2 ?_; intro A8 cE w8 ae af bc ar)
   have cG:=η (cx.out.app ae ac.out.2.1 af dl.out);clear ae af bc ar ac;go_wp2
   go_meet
   case rel=>exact ⟨[(⟨edge ⟨#[116]⟩ ⟨#[88]⟩ ⟨#[89]⟩,[⟨false,edge ⟨#[101]⟩ ⟨#[88]⟩ ⟨#[89]⟩⟩]⟩:Ru)] ++ [(⟨edge ⟨#[116]⟩ ⟨#[88]⟩ ⟨#[90]⟩,[⟨false,edge ⟨#[116]⟩ ⟨#[88]⟩ ⟨#[89]⟩⟩,⟨false,edge ⟨#[101]⟩ ⟨#[89]⟩ ⟨#[90]⟩⟩]⟩:Ru)],A8,cE,rfl,by simp,cG.out⟩
  ·have a6:¬ (m:Int)=0:=by omega
   go_wp2
   go_meet
   case rel=>exact ⟨[],_,_,rfl,by simp,a8.out⟩
 case rest=>
  obtain ⟨xs,Av,cp,rfl,ew,hF⟩:=hcut;have HF:=η hF;have y:=pick_any g (p+1) 3 _ HF.out.rdr (by have:=HP.out; omega) (by omega) (by omega);clear hF
  go_wp2_with fail
  refine y.mono ?_;rintro e w5 ⟨m5,rfl,ey,dp,ds⟩;have bf:=η (HF.out.call dp (aI.dB ds));have dt:(xs.length:Int)≤2:=by omega
  clear y dp ds HF ey
  go_upto_if 32 with fail
  go_cut [3] from 8 to 102 (fun v wx=>∃ (xs:List Ru) (Av:Option Addr) (cp q:Nat),v=.slice Av xs.length cp∧xs.length≤3∧q≤p+3∧gZ g q w xs (.slice Av xs.length cp) wx)
  case first=>
   by_cases hz:m5=0
   ·subst hz
    obtain ⟨wz,bt⟩:∃ wz,wz=w5:=⟨_,rfl⟩;have du:Below wz.heap.size wz ((wz.alloc (.cells #[.bool true,.string ⟨#[88]⟩] 91)).alloc (.cells #[.bool true,.string ⟨#[88]⟩] 91)):=(ζ).alloc (by simp) _;have cI:=η ((show gZ g (p+1+1) w xs (.slice Av xs.length cp) wz from bt ▸ bf.out).below du);have bg:=η (show gZ g (p+1+1) w xs (.slice Av xs.length cp) wz from bt ▸ bf.out);have dv:Hid (((wz.alloc (.cells #[.bool true,.string ⟨#[88]⟩] 91)).alloc (.cells #[.bool true,.string ⟨#[88]⟩] 91)).heap[wz.heap.size]? = some (.cells #[.bool true,.string ⟨#[88]⟩] 91 (0,0))):=η ((Below.heap_alloc _ _ _ (by simp)).trans (ω _ _));have dx:Hid (((wz.alloc (.cells #[.bool true,.string ⟨#[88]⟩] 91)).alloc (.cells #[.bool true,.string ⟨#[88]⟩] 91)).heap[wz.heap.size+1]? = some (.cells #[.bool true,.string ⟨#[88]⟩] 91 (0,0))):=η (by simpa using ω (wz.alloc (.cells #[.bool true,.string ⟨#[88]⟩] 91)) (.cells #[.bool true,.string ⟨#[88]⟩] 91))
    have aE:=rY g (p+1+1) [⟨#[113]⟩,⟨#[115]⟩] 2 ((wz.alloc (.cells #[.bool true,.string ⟨#[88]⟩] 91)).alloc (.cells #[.bool true,.string ⟨#[88]⟩] 91)) cI.out.rdr (by have:=HP.out; omega) rfl (by decide) (by decide) (by decide);simp only [World.size_alloc] at aE;rw [← bt];clear du bt bf
    go_wp2_with fail
    refine aE.mono ?_;rintro e w6 ⟨s,rfl,hs,dy,bh⟩;have f0:g < wz.heap.size:=by have:=bg.out.kept.size; omega
    have dz:=bh.blk dv.out (by simp; omega);have dC:=bh.blk dx.out (by simp; omega);have ag:=η (cI.out.call dy bh);have f1:wz.heap.size+2≤w6.heap.size:=by have:=bh.size; simpa using this
    have bu:Below w6.heap.size w6 ((w6.alloc (.cells #[.bool true,.string ⟨#[88]⟩] 91)).alloc (.cells #[.bool false,.string ⟨#[112]⟩,.slice (some ⟨wz.heap.size+1,0,none⟩) 1 1,.bool true,.string s,.slice (some ⟨w6.heap.size,0,none⟩) 1 1] 42)):=(ζ).alloc (by simp) _;have dE:Below w6.heap.size w6 (w6.alloc (.cells #[.bool true,.string ⟨#[88]⟩] 91)):=ζ;have ci:Below (w6.alloc (.cells #[.bool true,.string ⟨#[88]⟩] 91)).heap.size (w6.alloc (.cells #[.bool true,.string ⟨#[88]⟩] 91)) ((w6.alloc (.cells #[.bool true,.string ⟨#[88]⟩] 91)).alloc (.cells #[.bool false,.string ⟨#[112]⟩,.slice (some ⟨wz.heap.size+1,0,none⟩) 1 1,.bool true,.string s,.slice (some ⟨w6.heap.size,0,none⟩) 1 1] 42)):=ζ;have tA:=aQ.below (vV dz (by decide)) bu;have tB:=aQ.below (vV dC (by decide)) bu;have tC:=aQ.below (vV (ω w6 (.cells #[.bool true,.string ⟨#[88]⟩] 91)) (by decide)) ci
    have av:=Bl (ω (w6.alloc (.cells #[.bool true,.string ⟨#[88]⟩] 91)) (.cells #[.bool false,.string ⟨#[112]⟩,.slice (some ⟨wz.heap.size+1,0,none⟩) 1 1,.bool true,.string s,.slice (some ⟨w6.heap.size,0,none⟩) 1 1] 42)) (show aJ _ [.string ⟨#[112]⟩,_] ⟨⟨#[112]⟩,[⟨true,⟨#[88]⟩⟩]⟩ _ from ⟨_,rfl,(show (⟨#[112]⟩:ByteArray).size≤maxLen from by decide),tB⟩) (show aJ _ [.string s,_] ⟨s,[⟨true,⟨#[88]⟩⟩]⟩ _ from ⟨_,rfl,Sm.max hs,tC⟩);rw [World.size_alloc] at av
    have am:iy ((w6.alloc (.cells #[.bool true,.string ⟨#[88]⟩] 91)).alloc (.cells #[.bool false,.string ⟨#[112]⟩,.slice (some ⟨wz.heap.size+1,0,none⟩) 1 1,.bool true,.string s,.slice (some ⟨w6.heap.size,0,none⟩) 1 1] 42)) [.string ⟨#[114]⟩,.slice (some ⟨wz.heap.size,0,none⟩) 1 1,.slice (some ⟨w6.heap.size+1,0,none⟩) 2 2] (⟨⟨⟨#[114]⟩,[⟨true,⟨#[88]⟩⟩]⟩,[⟨false,⟨⟨#[112]⟩,[⟨true,⟨#[88]⟩⟩]⟩⟩,⟨true,⟨s,[⟨true,⟨#[88]⟩⟩]⟩⟩]⟩:Ru) ([wz.heap.size] ++ ((w6.heap.size+1) :: ([wz.heap.size+1] ++ [w6.heap.size]))):=
     ⟨_,_,_,_,rfl,(show (⟨#[114]⟩:ByteArray).size≤maxLen from by decide),rfl,tA,av⟩
    have f3:w.heap.size≤wz.heap.size:=bg.out.kept.size
    obtain ⟨L7,cD,aa,U,a3,a4,ab,a7,b9⟩:=ag.out.Xv bu am (by
     intro b hb;simp only [List.cons_append,List.nil_append,ύ,List.not_mem_nil,or_false] at hb
     rcases hb with rfl | rfl | rfl | rfl
     ·exact ⟨by omega,bg.out.far ν⟩
     ·exact ⟨by omega,ag.out.far (by omega)⟩
     ·exact ⟨by omega,bg.out.far (by omega)⟩
     ·exact ⟨by omega,ag.out.far (by omega)⟩)
    simp only [World.size_alloc] at a4;have HY:=η (ι aa (ι U (ι a3 (ι a4 (ι ab (ι a7 b9))))))
    have ez:Hid (Uc (⟨⟨⟨#[114]⟩,[⟨true,⟨#[88]⟩⟩]⟩,[⟨false,⟨⟨#[112]⟩,[⟨true,⟨#[88]⟩⟩]⟩⟩,⟨true,⟨s,[⟨true,⟨#[88]⟩⟩]⟩⟩]⟩:Ru)):=η ⟨⟨(show Sm ⟨#[114]⟩ from by decide),by simp,fun t ht=>by
     simp only [ύ,List.not_mem_nil,or_false] at ht; subst ht; decide⟩,by simp,fun x hx=>by
     simp only [ύ,List.not_mem_nil,or_false] at hx
     rcases hx with rfl | rfl
     ·exact ⟨by decide,by simp,fun t ht=>by simp only [ύ,List.not_mem_nil,or_false] at ht; subst ht; decide⟩
     ·exact ⟨hs,by simp,fun t ht=>by simp only [ύ,List.not_mem_nil,or_false] at ht; subst ht; decide⟩⟩
    have dT:Hid (xs.length+1≤maxLen∧(xs.length+1) * 64≤140737488355328):=η (by unfold maxLen; omega);clear aE hs dy bh dz dC bu dE ci tA tB tC av am aa U a3 a4 ab a7 b9 dv dx bg cI
    go_wp2_with (at_builtin; refine bU rfl _ _ _ rfl w.heap.size 40 i0 (.agg #[.string ⟨#[]⟩,.slice none 0 0,.slice none 0 0]) 3 64 Tryz.underlying23 hi ao a6 aq rfl (by omega) aY (.slice Av xs.length cp) xs.length _ xs _ rfl HY.out.1 rfl (some ⟨w6.heap.size+1+1,0,none⟩) 1 1 _ [(⟨⟨⟨#[114]⟩,[⟨true,⟨#[88]⟩⟩]⟩,[⟨false,⟨⟨#[112]⟩,[⟨true,⟨#[88]⟩⟩]⟩⟩,⟨true,⟨s,[⟨true,⟨#[88]⟩⟩]⟩⟩]⟩:Ru)] _ rfl HY.out.2.2.1 rfl HY.out.2.2.2.1 HY.out.2.2.2.2.1 dT.out.1 dT.out.2 w6 w.heap.size HY.out.2.2.2.2.2.1 ν HY.out.2.2.2.2.2.2 ?_; intro A8 cE w8 ae af bc ar)
    have cG:=η (ag.out.app ae HY.out.2.1 af ez.out);clear ae af bc ar HY;go_wp2
    go_meet
    case rel=>exact ⟨xs ++ [(⟨⟨⟨#[114]⟩,[⟨true,⟨#[88]⟩⟩]⟩,[⟨false,⟨⟨#[112]⟩,[⟨true,⟨#[88]⟩⟩]⟩⟩,⟨true,⟨s,[⟨true,⟨#[88]⟩⟩]⟩⟩]⟩:Ru)],A8,cE,p+1+1+1,by simp,by simp; omega,by omega,by rw [χ]; exact cG.out⟩
   ·have a6:¬ (m5:Int)=0:=by omega
    go_wp2
    go_meet
    case rel=>exact ⟨xs,Av,cp,_,rfl,by omega,by omega,bf.out⟩
  case rest=>
   clear ew dt bf;obtain ⟨xs,Av,cp,q,rfl,eA,hq,hF⟩:=hcut;have ag:=η hF;have y:=pick_any g q 3 _ ag.out.rdr (by have:=HP.out; omega) (by omega) (by omega);clear hF
   go_wp2_with fail
   refine y.mono ?_;rintro e w7 ⟨n0,rfl,e0,a3,e1⟩;have e2:=η (ag.out.call a3 (aI.dB e1));have bv:Hid (xs.length+n0≤5∧n0≤2∧q+1+40 * n0≤p+90):=η (by omega);have eB:(n0:Int) < 3:=e0;clear y a3 e1 ag e0 eA hq;go_wp2
   go_loopw [3,4] (fun v i wr=>∃ (k:Nat) (xs:List Ru) (Av:Option Addr) (cp q:Nat),i=.int .i64 k∧v=.slice Av xs.length cp∧xs.length+k≤5∧k≤2∧q+40 * k≤p+90∧gZ g q w xs (.slice Av xs.length cp) wr) (fun _ i _=>(intOf i).toNat)
   case atStart=>exact ⟨n0,xs,_,_,q+1,rfl,rfl,bv.out.1,bv.out.2.1,bv.out.2.2,e2.out⟩
   case round=>
    obtain ⟨k,xs,Av,cp,q,rfl,rfl,e3,e4,hq,hF⟩:=hrel;have HF:=η hF;have HS:Hid (xs.length+k≤5∧k≤2∧q+40 * k≤p+90∧q≤600000):=η ⟨e3,e4,hq,by have:=HP.out; omega⟩;clear hF e2 bv e3 e4 hq eB;by_cases cJ:0 < k
    ·have f4:(0:Int) < (k:Int):=by omega
     have f6:(k:Int)≤2:=by have:=HS.out.2.1; omega
     have HK:=η cJ;have aE:=rY g q [⟨#[113]⟩,⟨#[115]⟩,⟨#[114]⟩,⟨#[117]⟩,⟨#[116]⟩] 5 wr HF.out.rdr (by have:=HS.out; omega) rfl (by decide) (by decide) (by decide);clear cJ
     go_wp2_with fail
     refine aE.mono ?_;rintro e w1 ⟨s,rfl,hs,aD,e5⟩;have a8:=η (HF.out.call aD e5);have e6:=oO s true g (q+1) w1 aD (by have:=HS.out; omega) hs;clear aE hs aD e5
     go_wp2_with fail
     refine e6.mono ?_;rintro e w2 ⟨a,v2,L2,q2,rfl,b1,eC,cK,bw,eD,e7,cj⟩;obtain ⟨A2,c2,rfl⟩:=dU cK.own;have cL:=η (a8.out.call bw e7);have bx:Below w2.heap.size w2 (w2.alloc (.cells #[.string ⟨#[101]⟩,.string ⟨#[112]⟩,.string ⟨#[101]⟩,.string ⟨#[116]⟩,.string ⟨#[113]⟩,.string ⟨#[104]⟩,.string ⟨#[122]⟩,.string ⟨#[115]⟩] 9)):=ζ;obtain ⟨b2,ck,bi⟩:=(cK.below bD bx).slice;have a2:aJ (w2.alloc (.cells #[.string ⟨#[101]⟩,.string ⟨#[112]⟩,.string ⟨#[101]⟩,.string ⟨#[116]⟩,.string ⟨#[113]⟩,.string ⟨#[104]⟩,.string ⟨#[122]⟩,.string ⟨#[115]⟩] 9)) [.string a.name,.slice A2 a.args.length c2] a b2:=⟨_,rfl,Sm.max b1,ck⟩;have cP:Hid (∀ b ∈ b2,w.heap.size≤b):=η fun b hb=>τ a8.out.kept.size ((bi b hb).resolve_right (by simp))
     have cl:g ∉ b2:=fun hg=>by have:=cP.out g hg; have:=cL.out.glt; omega
     have bz:Hid (AtS a∧q2≤q+7):=η ⟨⟨b1,by omega,cj⟩,by omega⟩;have e8:=Dh g q2 [⟨#[101]⟩,⟨#[112]⟩,⟨#[101]⟩,⟨#[116]⟩,⟨#[113]⟩,⟨#[104]⟩,⟨#[122]⟩,⟨#[115]⟩] 8 w2.heap.size _ (bw.below bx) (ω w2 _) (Nat.ne_of_lt bw.lt) (by have:=HS.out; have:=bz.out.2; omega) rfl (by decide) (by decide) (by decide);have cQ:=η (cL.out.below bx);have e9:Hid (w.heap.size≤(w2.alloc (.cells #[.string ⟨#[101]⟩,.string ⟨#[112]⟩,.string ⟨#[101]⟩,.string ⟨#[116]⟩,.string ⟨#[113]⟩,.string ⟨#[104]⟩,.string ⟨#[122]⟩,.string ⟨#[115]⟩] 9)).heap.size):=η cQ.out.kept.size;have cT:=η (ι a2 cl);clear e6 b1 eC cK bw eD e7 cj bx ck bi a2 cl cL a8
     go_wp2_with fail
     refine e8.mono ?_;rintro e w3 ⟨ys,v3,q3,rfl,eE,ea,eI,av⟩;obtain ⟨A3,c3,rfl⟩:=av.shape;have cU:=η (jm.start cT.out.1 cT.out.2 av);have bA:Hid (q3≤q+32∧ys.length≤3):=η ⟨by have:=bz.out.2; omega,ea⟩;have y:=pick_any g q3 8 _ cU.out.bd.rdr (by have:=HS.out; have:=bA.out; omega) (by omega) (by omega);clear e8 eE ea eI av cT
     go_wp2_with fail
     refine y.mono ?_;rintro e w4 ⟨m8,rfl,eJ,eb,bo⟩;have aL:=η (cU.out.call eb (aI.dB bo));clear y eJ eb bo cU;generalize (w2.alloc (.cells #[.string ⟨#[101]⟩,.string ⟨#[112]⟩,.string ⟨#[101]⟩,.string ⟨#[116]⟩,.string ⟨#[113]⟩,.string ⟨#[104]⟩,.string ⟨#[122]⟩,.string ⟨#[115]⟩] 9))=wb at *
     go_upto_if 70 with fail
     go_cut [] from 54 to 101 (fun wx=>∃ (zs:List Pt) (A4:Option Addr) (c4:Nat),zs.length≤3∧jm g (q3+1) w3.heap.size wb a A2 c2 b2 zs A4 c4 wx)
     case first=>
      by_cases hm:m8=0
      ·subst hm
       have J:=η aL.out.bare;have f2:=aL.out.wE 2;have q2:=aL.out.cell.2.2;have n4:w3.heap.size < w4.heap.size:=ψ aL.out.box;go_wp2
       go_meet
       case rel=>exact ⟨[],_,_,by simp,J.out⟩
      ·have eK:¬ (m8:Int)=0:=by omega
       go_wp2
       go_meet
       case rel=>exact ⟨ys,_,_,bA.out.2,aL.out⟩
     case rest=>
      clear aL;obtain ⟨zs,A4,c4,ec,hX⟩:=hcut;have HX:=η hX;have bB:=η ec;have zc:=hX.cell;obtain ⟨z0,z1,z2⟩:=zc;obtain ⟨br,am,bE⟩:=hX.rule cP.out e9.out;have ed:=Df ⟨a,zs⟩ _ _ _ br _ am (τ (Fa _ 4 zs fun x hx=>(hX.bd.small x hx).2.1) (by omega)) (τ bz.out.1.2.1 (by omega));clear hX ec am bE
      go_wp2_with fail
      refine ed.mono ?_;rintro e w5 ⟨he,b4⟩;replace he:e=.returned (.bool (fO a zs)):=he;subst he;have J:=η (HX.out.below b4);clear ed b4 z0 z1 z2 HX;generalize fO a zs=tb
      go_upto_if 75 with fail
      go_cut [] from 54 to 101 (fun wx=>∃ (zs:List Pt) (A4:Option Addr) (c4:Nat),zs.length≤4∧jm g (q3+1) w3.heap.size wb a A2 c2 b2 zs A4 c4 wx)
      case first=>
       cases tb
       case true=>
        go_wp2
        go_meet
        case rel=>exact ⟨zs,_,_,by have:=bB.out; omega,J.out⟩
       case false=>
        obtain ⟨p0,hp,eL,eM,eN⟩:=info_parts Iq;have cV:Below w5.heap.size w5 (w5.alloc (.cells #[.bool true,.string ⟨#[88]⟩,.bool true,.string ⟨#[89]⟩,.bool true,.string ⟨#[90]⟩] 91)):=ζ;have cW:=J.out.below cV;have ee:=Nb (ω w5 (.cells #[.bool true,.string ⟨#[88]⟩,.bool true,.string ⟨#[89]⟩,.bool true,.string ⟨#[90]⟩] 91)) (by decide) (by decide) (by decide);obtain ⟨L7,cD,aa,U,a3,a4,ab,a7⟩:=cW.bd.part (a:=(⟨⟨#[104]⟩,[⟨true,⟨#[88]⟩⟩,⟨true,⟨#[89]⟩⟩,⟨true,⟨#[90]⟩⟩]⟩:A)) J.out.bd rfl ⟨_,rfl,(show (⟨#[104]⟩:ByteArray).size≤maxLen from by decide),ee⟩ (fun b hb=>by simp at hb; omega) false;have HY:=η (ι aa (ι U (ι a3 (ι a4 (ι ab (ι a7 (τ cW.bd.kept.size a7.size)))))));simp only [World.size_alloc] at HY;have cm:Below w5.heap.size w5 ((w5.alloc (.cells #[.bool true,.string ⟨#[88]⟩,.bool true,.string ⟨#[89]⟩,.bool true,.string ⟨#[90]⟩] 91)).alloc (.cells #[.bool false,.string ⟨#[104]⟩,.slice (some ⟨w5.heap.size,0,none⟩) 3 3] 42)):=cV.trans (ϑ.alloc (by simp) _)
        have bL:=η cm
        have eO:Hid (X7 ⟨false,(⟨⟨#[104]⟩,[⟨true,⟨#[88]⟩⟩,⟨true,⟨#[89]⟩⟩,⟨true,⟨#[90]⟩⟩]⟩:A)⟩):=η ⟨by decide,by simp,fun t ht=>by
         simp only [ύ,List.not_mem_nil,or_false] at ht
         rcases ht with rfl | rfl | rfl <;> decide⟩
        have eg:Hid (zs.length+1≤maxLen∧(zs.length+1) * 48≤140737488355328):=η (by have:=bB.out; unfold maxLen; omega);have f2:=J.out.wE 2;have q2:=J.out.cell.2.2;have n4:w3.heap.size < w5.heap.size:=ψ J.out.box;clear cV cW ee aa U a3 a4 ab a7 cm
        go_wp2_with (at_builtin; refine bU rfl _ _ _ rfl wb.heap.size 42 p0 (.agg #[.bool false,.string ⟨#[]⟩,.slice none 0 0]) 3 48 Tryz.underlying38 hp eL eM eN rfl (by omega) jH (.slice A4 zs.length c4) zs.length L7 zs cD rfl HY.out.1 rfl (some ⟨w5.heap.size+1,0,none⟩) 1 1 _ [⟨false,(⟨⟨#[104]⟩,[⟨true,⟨#[88]⟩⟩,⟨true,⟨#[89]⟩⟩,⟨true,⟨#[90]⟩⟩]⟩:A)⟩] _ rfl HY.out.2.2.1 rfl HY.out.2.2.2.1 HY.out.2.2.2.2.1 eg.out.1 eg.out.2 w5 wb.heap.size (bL.out.mono J.out.bd.kept.size) ν (τ J.out.bd.kept.size bL.out.size) ?_; intro A8 c8 w8 ae af bc ar; have eQ:=η (J.out.app bL.out ae HY.out.2.1 af ar eO.out); have eR:=J.out.keep bL.out ar; obtain ⟨_,q8,f8,n8⟩:=eR; clear ae af bc ar)
        go_wp2
        go_meet
        case rel=>exact ⟨zs ++ [⟨false,(⟨⟨#[104]⟩,[⟨true,⟨#[88]⟩⟩,⟨true,⟨#[89]⟩⟩,⟨true,⟨#[90]⟩⟩]⟩:A)⟩],A8,c8,by have:=bB.out; simp; omega,eQ.out⟩
      case rest=>
       clear J bB;obtain ⟨zs,A4,c4,cX,hX⟩:=hcut;have HX:=η hX;have f9:=η cX;have aM:=η (cQ.out.call HX.out.bd.rdr HX.out.bd.kept);have eS:Hid (Uc ⟨a,zs⟩):=η ⟨bz.out.1,τ cX (by decide),HX.out.bd.small⟩;obtain ⟨br,am,bE⟩:=HX.out.rule cP.out e9.out;have cY:=η (ι am bE);have bO:Hid (xs.length≤100):=η (by have:=HS.out.1; omega);have eW:w3.heap.size < wc.heap.size:=ψ HX.out.box;have Ha:Hid (Below wc.heap.size wc (wc.alloc (.cells #[] 40)).drew∧(wc.alloc (.cells #[] 40)).drew.heap[wc.heap.size]? = some (.cells #[] 40 (0,0))):=η ⟨(ζ).drew,ω wc _⟩
       have Hb:Hid (Below wc.heap.size wc ((wc.alloc (.cells #[] 40)).alloc (.cells #[.string a.name,.slice A2 a.args.length c2,.slice A4 zs.length c4] 40)).drew∧((wc.alloc (.cells #[] 40)).alloc (.cells #[.string a.name,.slice A2 a.args.length c2,.slice A4 zs.length c4] 40)).drew.heap[wc.heap.size]? = some (.cells #[] 40 (0,0))∧((wc.alloc (.cells #[] 40)).alloc (.cells #[.string a.name,.slice A2 a.args.length c2,.slice A4 zs.length c4] 40)).drew.heap[wc.heap.size+1]? = some (.cells #[.string a.name,.slice A2 a.args.length c2,.slice A4 zs.length c4] 40 (0,0))):=η ⟨((ζ).alloc (by simp) _).drew,(kZ wc _ _).1,(kZ wc _ _).2⟩
       have Hc:Hid (Below wc.heap.size wc ((wc.alloc (.cells #[.string a.name,.slice A2 a.args.length c2,.slice A4 zs.length c4] 40)).alloc (.cells #[] 40)).drew∧((wc.alloc (.cells #[.string a.name,.slice A2 a.args.length c2,.slice A4 zs.length c4] 40)).alloc (.cells #[] 40)).drew.heap[wc.heap.size+1]? = some (.cells #[] 40 (0,0))∧((wc.alloc (.cells #[.string a.name,.slice A2 a.args.length c2,.slice A4 zs.length c4] 40)).alloc (.cells #[] 40)).drew.heap[wc.heap.size]? = some (.cells #[.string a.name,.slice A2 a.args.length c2,.slice A4 zs.length c4] 40 (0,0))):=η ⟨((ζ).alloc (by simp) _).drew,(kZ wc _ _).2,(kZ wc _ _).1⟩;obtain ⟨z0,z1,z2⟩:=HX.out.cell;clear hX cX am bE
       go_upto_region 17 with fail
       go_cut [7] from 54 to 101 (fun v7 wx=>∃ (A5:Option Addr) (c5:Nat),v7=.slice A5 (xs.length+1) c5∧gZ g (q3+1) w (xs ++ [⟨a,zs⟩]) (.slice A5 (xs.length+1) c5) wx∧gZ g (q3+1) w xs (.slice Av xs.length cp) wx)
       case first=>
        go_wp2
        go_region_law
         (first
          | (refine FC hi ao a6 aq (by rfl) (.tmp 87) (.tmp 88) (by rfl) wc.heap.size (by rfl) (by with_reducible exact Ha.out.2) ν aM.out (by rfl) rfl (by with_reducible exact Ha.out.1) bO.out ?_; intro A9 c9 w9 I a1 aw; obtain ⟨L9,eh,I,a0⟩:=I; have aR:=η (ι (I.below aY (ϑ.alloc ν (.cells #[.string a.name,.slice A2 a.args.length c2,.slice A4 zs.length c4] 40))) (ι (ω w9 (.cells #[.string a.name,.slice A2 a.args.length c2,.slice A4 zs.length c4] 40)) (a1.alloc a1.size (.cells #[.string a.name,.slice A2 a.args.length c2,.slice A4 zs.length c4] 40)))); obtain ⟨z0,z1,z2⟩:=(HX.out.below a1).cell; have bR:=η a0; clear I a1 aw a0 Ha Hb Hc)
          | (refine FC hi ao a6 aq (by rfl) (.tmp 87) (.tmp 88) (by rfl) wc.heap.size (by rfl) (by with_reducible exact Hb.out.2.1) ν aM.out (by rfl) rfl (by with_reducible exact Hb.out.1) bO.out ?_; intro A9 c9 w9 I a1 aw; obtain ⟨L9,eh,I,a0⟩:=I; have aR:=η (ι I (ι ((aw.block (wc.heap.size+1) (by simp) (by simp)).trans Hb.out.2.2) a1)); obtain ⟨z0,z1,z2⟩:=(HX.out.below a1).cell; have bR:=η a0; clear I a1 aw a0 Ha Hb Hc)
          | (refine FC hi ao a6 aq (by rfl) (.tmp 87) (.tmp 88) (by rfl) (wc.heap.size+1) (by rfl) (by with_reducible exact Hc.out.2.1) (Nat.le_succ _) aM.out (by rfl) rfl (by with_reducible exact Hc.out.1) bO.out ?_; intro A9 c9 w9 I a1 aw; obtain ⟨L9,eh,I,a0⟩:=I; have aR:=η (ι I (ι ((aw.block wc.heap.size (by simp; omega) (by simp)).trans Hc.out.2.2) a1)); obtain ⟨z0,z1,z2⟩:=(HX.out.below a1).cell; have bR:=η a0; clear I a1 aw a0 Ha Hb Hc)
          | (refine Vq hi ao a6 aq (by rfl) (.tmp 89) (.tmp 91) (by rfl) (by rfl) aR.out.1 bR.out aM.out _ (by rfl) aR.out.2.1 cY.out.1 cY.out.2 eS.out rfl aR.out.2.2 bO.out ?_; intro fa fb fd cn co; have HY:=η cn; have HO:=η (aM.out.below co); clear cn co aR bR z0 z1 z2))
        all_goals
         go_wp2
         go_meet
         case rel=>exact ⟨_,_,rfl,HY.out,HO.out⟩
       case rest=>
        clear HX cY aM HF cQ Ha Hb Hc z0 z1 z2;obtain ⟨A5,c5,rfl,hY,hO⟩:=hcut;have HY:=η hY;have HO:=η hO;obtain ⟨bq,hq,_⟩:=hY.rules;have ei:=uT _ _ bq _ hq;clear hq hY hO;generalize eU (xs ++ [⟨a,zs⟩])=pc at *
        go_wp2_with fail
        refine ei.mono ?_;rintro e fe ⟨rfl,bj⟩;have d0:=η (HY.out.below bj);have d1:=η (HO.out.below bj);clear ei bj HY HO;have d2:Hid (q3+2≤q+40):=η (by have:=bA.out.1; omega);by_cases hc:(pc:Int)=0
        ·go_wp2
         go_roundw
         case rel=>exact ⟨k - 1,xs ++ [⟨a,zs⟩],A5,c5,q3+1,by have:=HK.out; first | (unfold wrap64; congr 1; omega) | go_num,by rw [χ]; rfl,by rw [χ]; have:=HS.out; have:=HK.out; simp; omega,by have:=HS.out; omega,by have:=HS.out; have:=HK.out; have:=d2.out; omega,by rw [χ]; exact d0.out⟩
         case measure=>have:=HK.out; simp [intOf]; omega
        ·have y:=pick_any g (q3+1) 24 _ d1.out.rdr (by have:=HS.out; have:=bA.out; omega) (by omega) (by omega)
         go_wp2_with fail
         refine y.mono ?_;rintro e ff ⟨ej,rfl,ek,bk,bl⟩;have eT:=η (d0.out.call bk (aI.dB bl));have eV:=η (d1.out.call bk (aI.dB bl));clear y ek bk bl d0 d1;by_cases hm:ej=0
         ·subst hm
          go_wp2;go_roundw
          case rel=>exact ⟨k - 1,xs ++ [⟨a,zs⟩],A5,c5,q3+1+1,by have:=HK.out; first | (unfold wrap64; congr 1; omega) | go_num,by rw [χ]; rfl,by rw [χ]; have:=HS.out; have:=HK.out; simp; omega,by have:=HS.out; omega,by have:=HS.out; have:=HK.out; have:=d2.out; omega,by rw [χ]; exact eT.out⟩
          case measure=>have:=HK.out; simp [intOf]; omega
         ·have eK:((ej:Int) == 0)=false:=by simp; omega
          have fg:((pc:Int) == 0)=false:=by simp; omega
          clear hc hm;go_wp2;go_roundw
          case rel=>exact ⟨k - 1,xs,Av,cp,q3+1+1,by have:=HK.out; first | (unfold wrap64; congr 1; omega) | go_num,rfl,by have:=HS.out; omega,by have:=HS.out; omega,by have:=HS.out; have:=HK.out; have:=d2.out; omega,eV.out⟩
          case measure=>have:=HK.out; simp [intOf]; omega
    ·obtain rfl:k=0:=by omega
     clear cJ;go_wp2;go_ret;exact ⟨xs,_,q,rfl,by have:=HS.out; omega,by have:=HS.out; omega,HF.out⟩
end Go.Proofs.YtkjinanbccloeaaGreatDoor
