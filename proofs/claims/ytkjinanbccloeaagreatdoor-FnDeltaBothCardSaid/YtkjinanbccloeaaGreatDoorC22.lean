/- Of the proof of FnDeltaBoth: ProgC, ChI, FrmI, ChS, OfS. -/
import Derived.Test.YtkjinanbccloeaaGreatDoorC19
import Derived.Test.YtkjinanbccloeaaGreatDoorC20
set_option linter.unusedVariables false
set_option maxHeartbeats 4000000
set_option maxRecDepth 100000
namespace Go.Proofs.YtkjinanbccloeaaGreatDoor
open Go.RowKit D
attribute [local go_sem ↓] Go.wp_at_zero Go.wp_at_succ
def D.qw (w:World):Prop:=w.cell? ⟨1,0,none⟩=some (.iface 350 (.agg #[.pointer (some ⟨2,186,none⟩)]))
theorem D.qw.below {w w':World} (h:qw w) (hb:Below w.heap.size w w'):qw w':=ξ hb h
theorem D.Xr (rs:List Ru) (k:Nat) (h:k < rs.length) (h0:(rs.take k).all fM=true):(rs.take (k+1)).all fM=fM rs[k]:=by
 rw [ρ h,List.all_append,h0]; simp
theorem D.Yq (rs:List Ru) (k:Nat) (h:k < rs.length) (h0:fM rs[k]=false):fV rs=1:=by
 unfold fV;rw [if_pos (List.all_eq_false.2 ⟨_,δ h,by simp [h0]⟩)]
theorem FY (rs:List Ru) (v:Value) (bs:List Nat) (w:World) (h:fA w [v] rs bs) (hg:qw w):
  Calls Tryz.prog 130 #[v] w fun e w'=>e=.returned (.int .i64 (fV rs))∧Below w.heap.size w w':=by
 obtain ⟨Ad,cap,rfl,hl,hm⟩:=aj h;have am:=aB (τ hl hm);have c1:=fun w' (hb:Below w.heap.size w w') (hok:rs.all fM=true) (hf:rs.length≤8)=>Fh rs _ bs w' (aU.below h hb) hok hf
 have c2:=fun w' (hb:Below w.heap.size w w')=>zl rs _ bs w' (aU.below h hb)
 have c3:=fun w' (hb:Below w.heap.size w w') (hok:rs.all fM=true) (hf:rs.length≤8)=>zh rs _ bs w' (aU.below h hb) hf hok
 have C1:=η c1;have C2:=η c2;have C3:=η c3;have HG:=η hg;clear hl hm c1 c2 c3 hg
 go_enter Tryz.func130,Tryz.ntmps130
 go_wp2
 go_loopw [12] (fun i wr=>∃ k:Nat,k≤rs.length∧i=.int .i64 k∧(rs.take k).all fM=true∧Below w.heap.size w wr) (fun i _=>rs.length - (intOf i).toNat)
 case atStart=>exact ⟨0,ε,rfl,rfl,ϑ⟩
 case round=>
  obtain ⟨k,hk,rfl,a1,hb⟩:=hrel;have HA:=η a1;clear a1;by_cases a0:k < rs.length
  ·clear C1 C2 C3 HG
   obtain ⟨b,o,Ae,ce,Af,cf,bk,rfl,_,d0,d1,d2,a3,_⟩:=iW (aU.below h hb) a0;have HS:=η (Xr rs k a0 HA.out);have y:=η (Yq rs k a0);have ao:(0:Int)≤(k:Int):=by omega
   have a8:(k:Int) < (rs.length:Int):=by omega
   have a4:=η a0;obtain ⟨b1,b2,_,a5,a6⟩:=jw a3;have hA:Below wr.heap.size wr (wr.alloc (.cells #[.string rs[k].head.name,.slice Ae rs[k].head.args.length ce,.slice Af rs[k].body.length cf] 40)):=ζ;have c1:=fun w' (hw:Below wr.heap.size wr w')=>O3 rs[k].body _ b2 w' (dS.below a6 hw)
   have c2:=fun w' (hw:Below wr.heap.size wr w')=>uI rs[k].head _ _ b1 w' (au.below a5 hw)
   have x0:(wr.alloc (.cells #[.string rs[k].head.name,.slice Ae rs[k].head.args.length ce,.slice Af rs[k].body.length cf] 40)).cell? ⟨wr.heap.size,0,none⟩=some (.string rs[k].head.name):=by go_simp
   have x1:(wr.alloc (.cells #[.string rs[k].head.name,.slice Ae rs[k].head.args.length ce,.slice Af rs[k].body.length cf] 40)).cell? ⟨wr.heap.size,1,none⟩=some (.slice Ae rs[k].head.args.length ce):=by go_simp
   have X0:=η x0;have X1:=η x1;have C1:=η c1;have C2:=η c2;have HH:=η hA;have U:Hid (fM rs[k]=(ql rs[k].body && bU rs[k].head)):=η rfl;clear h a3 a5 a6 c1 c2 hA x0 x1;generalize rs[k]=r at *;clear a0;obtain ⟨⟨nm,args⟩,body⟩:=r;dsimp only at *;cases h1:ql body
   ·rw [h1] at C1
    have I:=η (y.out (by rw [U.out,h1]; rfl));clear h1 U y HS
    go_wp2_with fail
    refine (C1.out _ HH.out).mono ?_;rintro e w2 ⟨rfl,J⟩;have B2:=hb.trans ((HH.out.trans (J.mono HH.out.size)).mono hb.size);go_wp2;go_ret;exact ⟨fG (by simp [I.out]),B2⟩
   ·rw [h1] at C1
    go_wp2_with fail
    refine (C1.out _ HH.out).mono ?_;rintro e w2 ⟨rfl,J⟩;have B1:=HH.out.trans (J.mono HH.out.size);have x0:=ξ J X0.out;have x1:=ξ J X1.out;clear X0 X1 C1
    go_wp2_with fail
    refine (C2.out _ B1).mono ?_;rintro e w3 ⟨rfl,a2⟩;have B3:=hb.trans ((B1.trans (a2.mono B1.size)).mono hb.size);cases h2:bU ⟨nm,args⟩
    ·have I:=η (y.out (by rw [U.out,h1,h2]; rfl))
     clear h1 U y HS;go_wp2;go_ret;exact ⟨fG (by simp [I.out]),B3⟩
    ·have I:=η (HS.out.trans (by rw [U.out,h1,h2,Bool.and_true]))
     clear h1 U y HS;go_wp2;go_roundw
     case rel=>exact ⟨k+1,a4.out,by go_num,I.out,B3⟩
     case measure=>have:=a4.out; simp [intOf]; omega
  ·have he:k=rs.length:=by omega
   have a8:¬ (k:Int) < (rs.length:Int):=by omega
   have hok:rs.all fM=true:=by have:=HA.out; rw [he,ϕ ν] at this; exact this
   clear HA he h;by_cases hf:rs.length≤8
   ·have a9:¬ (8:Int) < (rs.length:Int):=by omega
    have hP:fV rs=if kJ (aJ rs)=false then 3 else if (rs.all fun r=>gm r.head r.body)=false then 4 else if nC rs=true then 5 else 0:=by
     unfold fV; rw [if_neg (by simp [hok]),if_neg (by omega)]
    have C4:=η fun w' hb=>C1.out w' hb hok hf
    have C5:=η fun w' hb=>C3.out w' hb hok hf
    have HP:=η hP;clear hok hf hP C1 C3
    go_wp2_with fail
    refine (C4.out _ hb).mono ?_;rintro e w2 ⟨rfl,n,hM,J⟩;have B2:=hb.trans (J.mono hb.size);clear C4 hM;cases ha:kJ (aJ rs)
    ·have I:Hid (fV rs=3):=η (by rw [HP.out,if_pos ha])
     clear HP ha;go_wp2;go_ret;exact ⟨fG (by simp [I.out]),B2⟩
    ·replace HP:Hid (fV rs=if (rs.all fun r=>gm r.head r.body)=false then 4 else if nC rs=true then 5 else 0):=η (by rw [HP.out,if_neg (by simp [ha])])
     clear ha
     go_wp2_with fail
     refine (C2.out _ B2).mono ?_;rintro e w3 ⟨rfl,a2⟩;have B3:=B2.trans (a2.mono B2.size);clear C2;cases ht:(rs.all fun r=>gm r.head r.body)
     ·have I:Hid (fV rs=4):=η (by rw [HP.out,if_pos ht])
      clear HP ht;go_wp2;go_ret;exact ⟨fG (by simp [I.out]),B3⟩
     ·replace HP:Hid (fV rs=if nC rs=true then 5 else 0):=η (by rw [HP.out,if_neg (by simp [ht])])
      clear ht
      go_wp2_with fail
      refine (C5.out _ B3).mono ?_;rintro e w4 ⟨aa,hr⟩;have B4:=B3.trans (aa.mono B3.size);clear C5
      rcases hr with ⟨hc,a,rfl⟩ | ⟨hc,v',bs',rfl,_,_⟩
      ·have I:Hid (fV rs=5):=η (by rw [HP.out,if_pos hc])
       clear HP hc;have hA:Below w4.heap.size w4 (w4.alloc (.cells #[.pointer none] 255)):=ζ;have ab:=η ((HG.out.below (B4)).below hA);have ac:Hid ((w4.alloc (.cells #[.pointer none] 255)).cell? ⟨w4.heap.size,0,none⟩=some (.pointer none)):=η (by go_simp);have ae:Hid ((w4.alloc (.cells #[.pointer none] 255)).frozen? ⟨w4.heap.size,0,none⟩=false):=η (by go_simp);have B5:=B4.trans (hA.mono B4.size);have af:Hid (w.heap.size≤w4.heap.size):=η B4.size;clear hA
       go_wp2_with fail
       refine (I9 _ _ _ _ ab.out ac.out ae.out).mono ?_;rintro e w5 ⟨rfl,a7⟩;have S0:=af.out;have B6:=((((B5.alloc (by simp; omega) (.cells #[.pointer (some ⟨w4.heap.size,0,none⟩)] 257)).alloc (by simp; omega) (.cells #[.pointer (some ⟨2,257,none⟩),.pointer (some ⟨w4.heap.size+1,0,none⟩),.int .u64 150] 313)).alloc (by simp; omega) (.cells #[.pointer (some ⟨2,257,none⟩),.pointer (some ⟨w4.heap.size+1,0,none⟩),.int .u64 150] 313)).alloc (by simp; omega) (.cells #[.pointer (some a)] 255)).setCell (p:=⟨w4.heap.size,0,none⟩) S0 (.pointer (some a));have ag:Hid (Below w.heap.size w w5):=η (by rw [a7]; simpa using B6);clear B6 B5 B4 S0 a7;go_wp2;go_ret;exact ⟨fG (by simp [I.out]),ag.out⟩
      ·have I:Hid (fV rs=0):=η (by rw [HP.out,if_neg (by simp [hc])])
       clear HP hc
       go_wp2_with fail
       refine (I5 _ _).mono ?_;rintro e w5 ⟨rfl,rfl⟩;go_wp2;go_ret;exact ⟨fG (by simp [I.out]),B4.alloc B4.size _⟩
   ·have a9:(8:Int) < (rs.length:Int):=by omega
    have I:Hid (fV rs=2):=η (by unfold fV; rw [if_neg (by simp [hok]),if_pos (by omega)]);clear hok hf C1 C2 C3;go_wp2;go_ret;exact ⟨fG (by simp [I.out]),hb⟩
theorem lm (c:Ch) (c0 c1:Value) (bs:List Nat) (w:World) (h:dY w [c0,c1] c bs):
  Calls Tryz.prog 33 #[.agg #[c0,c1]] w fun e w'=>e=.returned (.bool (bD c))∧Below w.heap.size w w':=by
 obtain ⟨Ad,cap,Ae,I,rfl,rfl⟩:=fU h;obtain ⟨b1,b2,rfl,ht,hp⟩:=fZ h;have k1:=fun w' (hb:Below w.heap.size w w')=>oM c.comes _ b1 w' (ak.below ht hb)
 have k2:=fun w' (hb:Below w.heap.size w w')=>oM c.goes _ b2 w' (ak.below hp hb)
 have k3:=fun w' (hb:Below w.heap.size w w')=>Ph c.comes c.goes _ _ b1 b2 w' (ak.below ht hb) (ak.below hp hb)
 have HE:Hid (bD c=(aN c.comes && aN c.goes && !meets c.comes c.goes)):=η rfl;have HM:=fun (hx:aN c.comes=true) (hy:aN c.goes=true)=>Kv _ c.comes c.goes ν (bJ hx) (bJ hy)
 generalize aN c.comes=x at *;generalize aN c.goes=y at *;generalize (cZ c.comes c.goes).any (fun p=>p.2 == 2)=z at *;generalize meets c.comes c.goes=m at *;clear h ht hp;have hA:=(Below.refl w.heap.size w).alloc ν (.cells #[.slice Ad c.comes.length cap,.slice Ae c.goes.length I] 54)
 go_enter Tryz.func33,Tryz.ntmps33
 go_wp2_with fail
 refine (k1 _ hA).mono ?_;rintro e w1 ⟨rfl,J⟩;have B1:=hA.trans (J.mono hA.size);have x0:w1.cell? ⟨w.heap.size,0,none⟩=some (.slice Ad c.comes.length cap):=ξ J (by go_simp);have x1:w1.cell? ⟨w.heap.size,1,none⟩=some (.slice Ae c.goes.length I):=ξ J (by go_simp);clear k1 hA;cases x
 ·clear HM
  go_wp2;go_ret;exact ⟨aH (by rw [HE.out]; rfl),B1⟩
 ·go_wp2_with fail
  refine (k2 _ B1).mono ?_;rintro e w2 ⟨rfl,U⟩;have B2:=B1.trans (U.mono B1.size);have y0:=ξ U x0;have y1:=ξ U x1;clear k2 x0 x1;cases y
  ·clear HM
   go_wp2;go_ret;exact ⟨aH (by rw [HE.out]; rfl),B2⟩
  ·obtain rfl:z=m:=HM (by simp) (by simp)
   clear HM
   go_wp2_with fail
   refine (k3 _ B2).mono ?_;rintro e w3 ⟨rfl,a0⟩;go_wp2;go_ret;exact ⟨aH (by rw [HE.out]; simp),B2.trans (a0.mono B2.size)⟩
theorem FZ (xs ys:List A) (v1 v2:Value) (J U:List Nat) (w:World) (h:ay w [v1] xs J) (h2:ay w [v2] ys U) (a3:xs.length≤1000000) (a4:ys.length≤1000000):
  Calls Tryz.prog 78 #[v1,v2] w (Uk dY ⟨fH ys xs,fH xs ys⟩ w.heap.size w):=by
 obtain ⟨Ad,cap,rfl,hl,hm⟩:=aj h;obtain ⟨Ae,a8,rfl,a6,a7⟩:=aj h2;have y:Below w.heap.size w (w.alloc (.cells #[.slice none 0 0,.slice none 0 0] 54)):=ζ;have I:=η (Qm w (.cells #[.slice none 0 0,.slice none 0 0] 54));have k3:=nZ ys xs _ _ U J _ (ak.below h2 y) (ak.below h y) a4 a3;have k4:=fun w' (hb:Below w.heap.size w w')=>nZ xs ys _ _ J U w' (ak.below h hb) (ak.below h2 hb) a3 a4
 clear h h2 hl hm a6 a7
 go_enter Tryz.func78,Tryz.ntmps78
 go_wp2_with fail
 refine k3.mono ?_;rintro e w3 ⟨a5,v3,b3,rfl,a0⟩;obtain ⟨A3,p3,rfl,_,_⟩:=aj a0;have B3:=y.trans (a5.mono y.size);replace I:=η (aZ a5 I.out)
 go_wp2_with fail
 refine (k4 _ B3).mono ?_;rintro e w4 ⟨a1,v4,b4,rfl,a2⟩;obtain ⟨A4,p4,rfl,_,_⟩:=aj a2;have B4:=B3.trans (a1.mono B3.size);replace I:=η (aZ a1 I.out);have z0:w4.cell? ⟨w.heap.size,0,none⟩=some (.slice none 0 0):=aP I.out;have z1:w4.cell? ⟨w.heap.size,1,none⟩=some (.slice none 0 0):=aP I.out;have f0:w4.frozen? ⟨w.heap.size,0,none⟩=false:=aG I.out;have f1:w4.frozen? ⟨w.heap.size,1,none⟩=false:=aG I.out;have HF:=η (dX (c:=⟨fH ys xs,fH xs ys⟩) I.out (ak.below a0 a1) a2);clear a0 a2 k3 k4;go_wp2;refine bodyPost_ret (v:=.agg #[.slice A3 (fH ys xs).length p3,.slice A4 (fH xs ys).length p4]) (by simp [results,Tryz.results78,go_sem,z0,z1]) rfl ⟨(B4.setCell ν _).setCell ν _,_,_,rfl,HF.out⟩
theorem Gy (c:Ch) (c0 c1:Value) (bs:List Nat) (w:World) (h:dY w [c0,c1] c bs):
  Calls Tryz.prog 79 #[.agg #[c0,c1]] w fun e w'=>e=.returned (.bool (bD c))∧Below w.heap.size w w':=by
 obtain ⟨Ad,cap,Ae,I,rfl,rfl⟩:=fU h;obtain ⟨b1,b2,rfl,ht,hp⟩:=fZ h;obtain ⟨_,_,a6,hl,hm⟩:=aj ht;have a8:=aB (τ hl hm);have k1:=fun w' (hb:Below w.heap.size w w')=>oL c.comes _ b1 w' (ak.below ht hb)
 have k2:=fun w' (hb:Below w.heap.size w w')=>oL c.goes _ b2 w' (ak.below hp hb)
 have HE:Hid (bD c=(aN c.comes && aN c.goes && !meets c.comes c.goes)):=η rfl;have U:=fun (hf:aN c.goes=true)=>bJ hf
 generalize aN c.comes=x at *;generalize aN c.goes=y at *;clear h a6 hl hm;have hA:=(Below.refl w.heap.size w).alloc ν (.cells #[.slice Ad c.comes.length cap,.slice Ae c.goes.length I] 54)
 go_enter Tryz.func79,Tryz.ntmps79
 go_wp2_with fail
 refine (k1 _ hA).mono ?_;rintro e w1 ⟨rfl,a0⟩;have B1:=hA.trans (a0.mono hA.size);have x0:w1.cell? ⟨w.heap.size,0,none⟩=some (.slice Ad c.comes.length cap):=ξ a0 (by go_simp);have x1:w1.cell? ⟨w.heap.size,1,none⟩=some (.slice Ae c.goes.length I):=ξ a0 (by go_simp);clear k1 hA;cases x
 ·clear U
  go_wp2;go_ret;exact ⟨aH (by rw [HE.out]; rfl),B1⟩
 ·go_wp2_with fail
  refine (k2 _ B1).mono ?_;rintro e w2 ⟨rfl,a1⟩;have B2:=B1.trans (a1.mono B1.size);have y0:=ξ a1 x0;have y1:=ξ a1 x1;clear k2 x0 x1;cases y
  ·clear U
   go_wp2;go_ret;exact ⟨aH (by rw [HE.out]; rfl),B2⟩
  ·have hs:=U rfl
   have HS:=η hs;clear U;go_wp2
   go_loopw [3] (fun i wr=>∃ k:Nat,k≤c.comes.length∧i=.int .i64 k∧meets (c.comes.take k) c.goes=false∧Below w.heap.size w wr∧wr.cell? ⟨w.heap.size,0,none⟩=some (.slice Ad c.comes.length cap)∧wr.cell? ⟨w.heap.size,1,none⟩=some (.slice Ae c.goes.length I)∧w.heap.size < wr.heap.size) (fun i _=>c.comes.length - (intOf i).toNat)
   case atStart=>exact ⟨0,ε,rfl,rfl,B2,y0,y1,lt_of_cell y0⟩
   case round=>
    obtain ⟨k,hk,rfl,a2,hb,s0,s1,a7⟩:=hrel;have HA:=η a2;clear a2 y0 y1 B2 a1 B1 a0;by_cases a3:k < c.comes.length
    ·have a9:(0:Int)≤(k:Int):=by omega
     have aa:(k:Int) < (c.comes.length:Int):=by omega
     obtain ⟨b,o,Af,ce,bk,rfl,_,c0,c1,a4,_⟩:=eG (ak.below ht hb) a3;have hD:Below wr.heap.size wr wr.drew:=Below.drew ϑ;have a5:=Aj c.goes c.comes[k] _ _ _ b2 bk wr.drew (ak.below hp (hb.trans (hD.mono hb.size))) (au.below a4 hD) HS.out;have HM:=η (Oj (ys:=c.goes) a3);have HB:=η (fun hf=>QO (ys:=c.goes) a3 hf);generalize hasB c.goes c.comes[k]=z at *;clear ht hp a4 hs;cases z
     all_goals
      go_wp2
      go_region_held3 (fun w'=>w'.cell? ⟨w.heap.size,0,none⟩=some (.slice (some ⟨b,o,none⟩) c.comes.length cap)∧w'.cell? ⟨w.heap.size,1,none⟩=some (.slice Ae c.goes.length I)∧w'.cell? ⟨b,o+k * 2,none⟩=some (.string c.comes[k].name)∧w'.cell? ⟨b,o+k * 2+1,none⟩=some (.slice Af c.comes[k].args.length ce))
       (first | go_keep | exact ⟨z0,z1,z2,z3⟩)
       (first | (go_at_call 141; refine a5.mono ?_; rintro e w3 ⟨rfl,J⟩; have z0:=ξ J s0; have z1:=ξ J s1; have z2:=ξ J c0; have z3:=ξ J c1))
      have B3:=hb.trans ((hD.trans J).mono hb.size);clear a5;go_wp2
     ·go_roundw
      case rel=>exact ⟨k+1,by omega,by go_num,by rw [HM.out,HA.out]; rfl,B3,z0,z1,κ a7 (hD.trans J).size⟩
      case measure=>simp [intOf]; omega
     ·go_ret
      exact ⟨aH (by rw [HE.out,HB.out (by simp)]; rfl),B3⟩
    ·have he:=η (show k=c.comes.length by omega)
     clear ht hp hs;go_wp2;go_ret;exact ⟨aH (by have:=HA.out; rw [he.out,ϕ ν] at this; rw [HE.out,this]; rfl),hb⟩
theorem Gz (xs ys:List A) (v1 v2:Value) (U a0:List Nat) (w:World) (h:ay w [v1] xs U) (h2:ay w [v2] ys a0):
  Calls Tryz.prog 81 #[v1,v2] w (Uk dY (qQ xs ys) w.heap.size w):=by
 obtain ⟨Ad,cap,rfl,hl,hm⟩:=aj h;obtain ⟨Ae,af,rfl,ac,ae⟩:=aj h2;have a1:Below w.heap.size w (w.alloc (.cells #[.slice none 0 0,.slice none 0 0] 54)):=ζ;have I:=η (Qm w (.cells #[.slice none 0 0,.slice none 0 0] 54));have k1:=oL xs _ U _ (ak.below h a1);have k2:=fun w' (hb:Below w.heap.size w w')=>oL ys _ a0 w' (ak.below h2 hb)
 have k3:=fun (hf:aN xs=true) (hg:aN ys=true) w' (hb:Below w.heap.size w w')=>xP ys xs _ _ a0 U w' (ak.below h2 hb) (ak.below h hb) (bJ hf) (τ (iH hg).1 (by omega)) (iH hg).2
 have k4:=fun (hf:aN xs=true) (hg:aN ys=true) w' (hb:Below w.heap.size w w')=>xP xs ys _ _ U a0 w' (ak.below h hb) (ak.below h2 hb) (bJ hg) (τ (iH hf).1 (by omega)) (iH hf).2
 have HG:Hid (qQ xs ys=if (aN xs && aN ys)=true then ⟨bP ys xs,bP xs ys⟩ else ⟨[],[]⟩):=η rfl;generalize qQ xs ys=G at *;generalize aN xs=x at *;generalize aN ys=y at *;clear h h2 hl hm ac ae
 go_enter Tryz.func81,Tryz.ntmps81
 go_wp2_with fail
 refine k1.mono ?_;rintro e w1 ⟨rfl,a7⟩;have B1:=a1.trans (a7.mono a1.size);replace I:=η (aZ a7 I.out);clear k1 a1;cases x
 ·clear k2 k3 k4
  have J:Hid (G=⟨[],[]⟩):=η (by rw [HG.out]; rfl);have z0:w1.cell? ⟨w.heap.size,0,none⟩=some (.slice none 0 0):=aP I.out;have z1:w1.cell? ⟨w.heap.size,1,none⟩=some (.slice none 0 0):=aP I.out;have f0:w1.frozen? ⟨w.heap.size,0,none⟩=false:=aG I.out;have f1:w1.frozen? ⟨w.heap.size,1,none⟩=false:=aG I.out;have HF:=η (dX (c:=⟨[],[]⟩) I.out (bW _) (bW _));go_wp2;refine bodyPost_ret (v:=.agg #[.slice none 0 0,.slice none 0 0]) (by simp [results,Tryz.results81,go_sem,z0,z1]) rfl ⟨(B1.setCell ν _).setCell ν _,_,_,rfl,by rw [J.out]; exact HF.out⟩
 ·have a2:=k3 rfl
  have a3:=k4 rfl;clear k3 k4
  go_wp2_with fail
  refine (k2 _ B1).mono ?_;rintro e w2 ⟨rfl,a8⟩;have B2:=B1.trans (a8.mono B1.size);replace I:=η (aZ a8 I.out);clear k2;cases y
  ·clear a2 a3
   have J:Hid (G=⟨[],[]⟩):=η (by rw [HG.out]; rfl);have z0:w2.cell? ⟨w.heap.size,0,none⟩=some (.slice none 0 0):=aP I.out;have z1:w2.cell? ⟨w.heap.size,1,none⟩=some (.slice none 0 0):=aP I.out;have f0:w2.frozen? ⟨w.heap.size,0,none⟩=false:=aG I.out;have f1:w2.frozen? ⟨w.heap.size,1,none⟩=false:=aG I.out;have HF:=η (dX (c:=⟨[],[]⟩) I.out (bW _) (bW _));go_wp2;refine bodyPost_ret (v:=.agg #[.slice none 0 0,.slice none 0 0]) (by simp [results,Tryz.results81,go_sem,z0,z1]) rfl ⟨(B2.setCell ν _).setCell ν _,_,_,rfl,by rw [J.out]; exact HF.out⟩
  ·have a9:=a2 rfl
   have aa:=a3 rfl;have J:Hid (G=⟨bP ys xs,bP xs ys⟩):=η (by rw [HG.out]; rfl);clear a2 a3 HG
   go_wp2_with fail
   refine (a9 _ B2).mono ?_;rintro e w3 ⟨ab,v3,b3,rfl,a4⟩;obtain ⟨A3,p3,rfl,_,_⟩:=aj a4;have B3:=B2.trans (ab.mono B2.size);replace I:=η (aZ ab I.out)
   go_wp2_with fail
   refine (aa _ B3).mono ?_;rintro e w4 ⟨a5,v4,b4,rfl,a6⟩;obtain ⟨A4,p4,rfl,_,_⟩:=aj a6;have B4:=B3.trans (a5.mono B3.size);replace I:=η (aZ a5 I.out);have z0:w4.cell? ⟨w.heap.size,0,none⟩=some (.slice none 0 0):=aP I.out;have z1:w4.cell? ⟨w.heap.size,1,none⟩=some (.slice none 0 0):=aP I.out;have f0:w4.frozen? ⟨w.heap.size,0,none⟩=false:=aG I.out;have f1:w4.frozen? ⟨w.heap.size,1,none⟩=false:=aG I.out;have HF:=η (dX (c:=⟨bP ys xs,bP xs ys⟩) I.out (ak.below a4 a5) a6);clear a4 a6 a9 aa;go_wp2;refine bodyPost_ret (v:=.agg #[.slice A3 (bP ys xs).length p3,.slice A4 (bP xs ys).length p4]) (by simp [results,Tryz.results81,go_sem,z0,z1]) rfl ⟨(B4.setCell ν _).setCell ν _,_,_,rfl,by rw [J.out]; exact HF.out⟩
end Go.Proofs.YtkjinanbccloeaaGreatDoor
