/- Of the proof of FnDeltaBoth: BothI, RunP, ChoI, HinI, Fit, DrawGv. -/
import Derived.Test.YtkjinanbccloeaaGreatDoorC25
import Derived.Test.YtkjinanbccloeaaGreatDoorC24
import Derived.Test.YtkjinanbccloeaaGreatDoorC26
set_option linter.unusedVariables false
set_option maxHeartbeats 4000000
set_option maxRecDepth 100000
namespace Go.Proofs.YtkjinanbccloeaaGreatDoor
section
open Go.RowKit D
attribute [local go_sem ↓] Go.wp_at_zero Go.wp_at_succ
theorem D.Pz (w:World) (I J y:Obj):(((w.alloc I).alloc J).alloc y).heap[w.heap.size+2]? = some y:=by
 have:=ω ((w.alloc I).alloc J) y;simpa using this
theorem D.PD {w:World} {t:Nat} {ty:TypeId} {J U:Value} (v1 v2:Value) (y:w.heap[t]? = some (.cells #[J,U] ty (0,0))):
  ((w.setCell ⟨t,0,none⟩ v1).setCell ⟨t,1,none⟩ v2).heap[t]? = some (.cells #[v1,v2] ty (0,0)):=by
 have hl:t < w.heap.size:=ψ y;have I:w.heap[t]=.cells #[J,U] ty (0,0):=by rw [Array.getElem?_eq_getElem hl] at y; exact Option.some.inj y
 simp [World.setCell,hl,Array.getElem_modify,I]
theorem D.PE {w J:World} {B n t:Nat} {ty:TypeId} {o:Obj} {y I:Value} {c:Ch} {U b2:List Nat} (hT:w.heap[t]? = some (.cells #[.slice none 0 0,.slice none 0 0] ty (0,0))) (hB:Below B J w) (hZ:w.heap[n]? = some o) (hq:B≤n) (a0:n < t) (h1:ay w [y] c.comes U) (h2:ay w [I] c.goes b2):
  Below B J ((w.setCell ⟨t,0,none⟩ y).setCell ⟨t,1,none⟩ I)∧((w.setCell ⟨t,0,none⟩ y).setCell ⟨t,1,none⟩ I).heap[n]? = some o∧dY ((w.setCell ⟨t,0,none⟩ y).setCell ⟨t,1,none⟩ I) [y,I] c (U ++ b2)∧
   ((w.setCell ⟨t,0,none⟩ y).setCell ⟨t,1,none⟩ I).cell? ⟨t,0,none⟩=some y∧((w.setCell ⟨t,0,none⟩ y).setCell ⟨t,1,none⟩ I).cell? ⟨t,1,none⟩=some I:=by
 have hP:=PD y I hT;exact ⟨(hB.setCell (p:=⟨t,0,none⟩) (by dsimp only; omega) _).setCell (p:=⟨t,1,none⟩) (by dsimp only; omega) _,by rw [π _ _ _ _ (by dsimp only; omega),π _ _ _ _ (by dsimp only; omega)]; exact hZ,dX hT h1 h2,aP hP,aP hP⟩
theorem D.SQ {w w0:World} {B n:Nat} {ty:TypeId} {o:Obj} {y I:Value} {c:Ch} {J U:List Nat} (hB:Below B w0 w) (hZ:w.heap[n]? = some o) (hq:B≤n) (h1:ay w [y] c.comes J) (h2:ay w [I] c.goes U):
  Below B w0 (w.alloc (.cells #[y,I] ty))∧(w.alloc (.cells #[y,I] ty)).heap[n]? = some o∧dY (w.alloc (.cells #[y,I] ty)) [y,I] c (J ++ U)∧
   (w.alloc (.cells #[y,I] ty)).cell? ⟨w.heap.size,0,none⟩=some y∧(w.alloc (.cells #[y,I] ty)).cell? ⟨w.heap.size,1,none⟩=some I:=by
 have hA:Below w.heap.size w (w.alloc (.cells #[y,I] ty)):=ζ;have hP:=ω w (.cells #[y,I] ty);exact ⟨hB.alloc (by have:=ψ hZ; omega) _,(hA.block n (ψ hZ)).trans hZ,⟨y,I,J,U,rfl,rfl,ak.below h1 hA,ak.below h2 hA⟩,aP hP,aP hP⟩
theorem DX (a b:Ch) (a0 a1 b0 b1:Value) (bs b2:List Nat) (w:World) (h:dY w [a0,a1] a bs) (h2:dY w [b0,b1] b b2):
  Calls Tryz.prog 34 #[.agg #[a0,a1],.agg #[b0,b1]] w (JF (FM a b) w.heap.size w):=by
 obtain ⟨Aa,ca,Ag,cg,rfl,rfl⟩:=fU h;obtain ⟨Ba,da,Bg,dg,rfl,rfl⟩:=fU h2;obtain ⟨p1,p2,rfl,ht,hp⟩:=fZ h;obtain ⟨q1,q2,rfl,b6,b7⟩:=fZ h2;have hA:Below w.heap.size w (((w.alloc (.cells #[.slice Aa a.comes.length ca,.slice Ag a.goes.length cg] 54)).alloc (.cells #[.slice Ba b.comes.length da,.slice Bg b.goes.length dg] 54)).alloc (.cells #[.slice none 0 0,.slice none 0 0] 54)):=((ζ).alloc (by simp) _).alloc (by simp <;> omega) _;have k1:=fun w' (a7:Below w.heap.size w w')=>lm a _ _ _ w' (bH.below h a7)
 have k2:=fun w' (a7:Below w.heap.size w w')=>lm b _ _ _ w' (bH.below h2 a7)
 have k4:=fun c0 c1 bs' w' (h':dY w' [c0,c1] (mr a b) bs')=>lm (mr a b) c0 c1 bs' w' h'
 have e1:=fun (ha:bD a=true) (hb:bD b=true) w' (a7:Below w.heap.size w w')=>nZ a.comes b.goes _ _ p1 q2 w' (ak.below ht a7) (ak.below b7 a7) (by have:=eU (aX ha).1; omega) (by have:=eU (aX hb).2; omega)
 have d1:∀ (ha:bD a=true) (hb:bD b=true),∀ v' bs' w',Below w.heap.size w w'→ay w' [v'] (fH a.comes b.goes) bs'→Calls Tryz.prog 83 #[.slice Ba b.comes.length da,v'] w' (Reads ay (gZ (bP a.comes b.goes) b.comes) w'.heap.size w'):=fun ha hb v' bs' w' a7 h'=>by
  have b8:(fH a.comes b.goes).length≤1000000:=by
   rw [mZ (bJ (aX ha).1) (bJ (aX hb).2)];exact (yV (iH (aX ha).1) _).1
  rw [← FN (aX ha).1 (aX hb).2 (aX hb).1];exact AY b.comes (fH a.comes b.goes) _ v' q1 bs' w' (ak.below b6 a7) h' (iH (aX hb).1).1 b8
 have e2:=fun (ha:bD a=true) (hb:bD b=true) w' (a7:Below w.heap.size w w')=>nZ a.goes b.comes _ _ p2 q1 w' (ak.below hp a7) (ak.below b6 a7) (by have:=eU (aX ha).2; omega) (by have:=eU (aX hb).1; omega)
 have d2:∀ (ha:bD a=true) (hb:bD b=true),∀ v' bs' w',Below w.heap.size w w'→ay w' [v'] (fH a.goes b.comes) bs'→Calls Tryz.prog 83 #[.slice Bg b.goes.length dg,v'] w' (Reads ay (gZ (bP a.goes b.comes) b.goes) w'.heap.size w'):=fun ha hb v' bs' w' a7 h'=>by
  have b8:(fH a.goes b.comes).length≤1000000:=by
   rw [mZ (bJ (aX ha).2) (bJ (aX hb).1)];exact (yV (iH (aX ha).2) _).1
  rw [← FN (aX ha).2 (aX hb).1 (aX hb).2];exact AY b.goes (fH a.goes b.comes) _ v' q2 bs' w' (ak.below b7 a7) h' (iH (aX hb).2).1 b8
 have k5:=fun (ha:bD a=true) (hb:bD b=true) c0 c1 bs' w' (h':dY w' [c0,c1] (mr a b) bs')=>uS (mr a b) c0 c1 bs' w' h' ⟨τ (zk (aX ha).1 (aX hb).1).1 (by omega),(zk (aX ha).1 (aX hb).1).2⟩ ⟨τ (zk (aX ha).2 (aX hb).2).1 (by omega),(zk (aX ha).2 (aX hb).2).2⟩
 have HC:Hid (mr a b=⟨gZ (bP a.comes b.goes) b.comes,gZ (bP a.goes b.comes) b.goes⟩):=η rfl;have HG:Hid (FM a b=if (bD a && bD b)=true then (if bD (mr a b)=true then (mr a b,true) else (⟨[],[]⟩,false)) else (⟨[],[]⟩,false)):=η rfl;have J:=η (Pz w (.cells #[.slice Aa a.comes.length ca,.slice Ag a.goes.length cg] 54) (.cells #[.slice Ba b.comes.length da,.slice Bg b.goes.length dg] 54) (.cells #[.slice none 0 0,.slice none 0 0] 54));generalize FM a b=G at *;generalize bD (mr a b)=z at *;generalize bD a=x at *;generalize bD b=y at *;generalize gZ (bP a.comes b.goes) b.comes=P1 at *;generalize gZ (bP a.goes b.comes) b.goes=P2 at *;generalize fH a.comes b.goes=M1 at *;generalize fH a.goes b.comes=M2 at *;generalize mr a b=C at *;obtain rfl:C=⟨P1,P2⟩:=HC.out;clear HC ht hp b6 b7;clear h h2
 have x0:(((w.alloc (.cells #[.slice Aa a.comes.length ca,.slice Ag a.goes.length cg] 54)).alloc (.cells #[.slice Ba b.comes.length da,.slice Bg b.goes.length dg] 54)).alloc (.cells #[.slice none 0 0,.slice none 0 0] 54)).cell? ⟨w.heap.size,0,none⟩=some (.slice Aa a.comes.length ca):=by go_simp
 have x1:(((w.alloc (.cells #[.slice Aa a.comes.length ca,.slice Ag a.goes.length cg] 54)).alloc (.cells #[.slice Ba b.comes.length da,.slice Bg b.goes.length dg] 54)).alloc (.cells #[.slice none 0 0,.slice none 0 0] 54)).cell? ⟨w.heap.size,1,none⟩=some (.slice Ag a.goes.length cg):=by go_simp
 have y0:(((w.alloc (.cells #[.slice Aa a.comes.length ca,.slice Ag a.goes.length cg] 54)).alloc (.cells #[.slice Ba b.comes.length da,.slice Bg b.goes.length dg] 54)).alloc (.cells #[.slice none 0 0,.slice none 0 0] 54)).cell? ⟨w.heap.size+1,0,none⟩=some (.slice Ba b.comes.length da):=by go_simp
 have y1:(((w.alloc (.cells #[.slice Aa a.comes.length ca,.slice Ag a.goes.length cg] 54)).alloc (.cells #[.slice Ba b.comes.length da,.slice Bg b.goes.length dg] 54)).alloc (.cells #[.slice none 0 0,.slice none 0 0] 54)).cell? ⟨w.heap.size+1,1,none⟩=some (.slice Bg b.goes.length dg):=by go_simp
 go_enter Tryz.func34,Tryz.ntmps34
 go_wp2_with fail
 refine (k1 _ hA).mono ?_;rintro e w1 ⟨rfl,ao⟩;have B1:=hA.trans (ao.mono hA.size);replace J:=η (aZ ao J.out);replace x0:=ξ ao x0;replace x1:=ξ ao x1;replace y0:=ξ ao y0;replace y1:=ξ ao y1;clear k1 hA;cases x
 ·have a8:Hid (G=(⟨[],[]⟩,false)):=η (by rw [HG.out]; rfl)
  clear k2 k4 e1 e2 d1 d2 k5;have z0:w1.cell? ⟨w.heap.size+2,0,none⟩=some (.slice none 0 0):=aP J.out;have z1:w1.cell? ⟨w.heap.size+2,1,none⟩=some (.slice none 0 0):=aP J.out;have f0:w1.frozen? ⟨w.heap.size+2,0,none⟩=false:=aG J.out;have f1:w1.frozen? ⟨w.heap.size+2,1,none⟩=false:=aG J.out;have HF:=η (dX (c:=⟨[],[]⟩) J.out (bW _) (bW _));go_wp2;refine bodyPost_ret (v:=.tuple #[.agg #[.slice none 0 0,.slice none 0 0],.bool false]) (by simp [results,Tryz.results34,go_sem,z0,z1]) rfl ⟨(B1.setCell (by dsimp only; omega) _).setCell (by dsimp only; omega) _,_,_,by rw [a8.out],by rw [a8.out]; exact HF.out,(by exact New.nil _ _)⟩
 ·have b9:=e1 rfl
  have bc:=e2 rfl;have bf:=d1 rfl;have bg:=d2 rfl;have bh:=k5 rfl;clear e1 e2 d1 d2 k5
  go_wp2_with fail
  refine (k2 _ B1).mono ?_;rintro e w2 ⟨rfl,aq⟩;have B2:=B1.trans (aq.mono B1.size);replace J:=η (aZ aq J.out);replace x0:=ξ aq x0;replace x1:=ξ aq x1;replace y0:=ξ aq y0;replace y1:=ξ aq y1;clear k2;cases y
  ·have a8:Hid (G=(⟨[],[]⟩,false)):=η (by rw [HG.out]; rfl)
   clear k4 b9 bc bf bg bh;have z0:w2.cell? ⟨w.heap.size+2,0,none⟩=some (.slice none 0 0):=aP J.out;have z1:w2.cell? ⟨w.heap.size+2,1,none⟩=some (.slice none 0 0):=aP J.out;have f0:w2.frozen? ⟨w.heap.size+2,0,none⟩=false:=aG J.out;have f1:w2.frozen? ⟨w.heap.size+2,1,none⟩=false:=aG J.out;have HF:=η (dX (c:=⟨[],[]⟩) J.out (bW _) (bW _));go_wp2;refine bodyPost_ret (v:=.tuple #[.agg #[.slice none 0 0,.slice none 0 0],.bool false]) (by simp [results,Tryz.results34,go_sem,z0,z1]) rfl ⟨(B2.setCell (by dsimp only; omega) _).setCell (by dsimp only; omega) _,_,_,by rw [a8.out],by rw [a8.out]; exact HF.out,(by exact New.nil _ _)⟩
  ·have bo:=η (b9 rfl)
   have bp:=η (bc rfl);have bq:=η (bf rfl);have br:=η (bg rfl);have bu:=η (bh rfl);clear b9 bc bf bg bh;have bv:=η k4;clear k4;go_wp2
   go_region_held3 (fun w'=>w'.cell? ⟨w.heap.size,0,none⟩=some (.slice Aa a.comes.length ca)∧w'.cell? ⟨w.heap.size,1,none⟩=some (.slice Ag a.goes.length cg)∧w'.cell? ⟨w.heap.size+1,0,none⟩=some (.slice Ba b.comes.length da)∧w'.cell? ⟨w.heap.size+1,1,none⟩=some (.slice Bg b.goes.length dg)) (first | go_keep | exact ⟨x0,x1,y0,y1⟩ | (refine ⟨?_,?_,?_,?_⟩ <;> go_simp)) (first
    | (go_at_call 84; have hz:=bo.out _ (B2.drew); (with_reducible refine Calls.mono hz ?_); clear hz; rintro e w5 ⟨a5,v5,c5,rfl,ae⟩; obtain ⟨A5,n5,rfl,_,_⟩:=aj ae; have B5:=Below.trans (B2.drew) (a5.mono (Below.size (B2.drew))); replace J:=η (aZ a5 J.out); replace x0:=ξ a5 x0; replace x1:=ξ a5 x1; replace y0:=ξ a5 y0; replace y1:=ξ a5 y1; (try (replace U:=η (aZ a5 U.out); replace u0:_=some (Value.slice none 0 0):=aP (o:=0) U.out; replace u1:_=some (Value.slice none 0 0):=aP (o:=1) U.out; replace aa:=aG (o:=0) U.out; replace ab:=aG (o:=1) U.out)); have bi:=η ae; clear ae)
    | (go_at_call 84; have I:Below w2.heap.size w2 (w2.alloc (.cells #[.slice none 0 0,.slice none 0 0] 54)).drew:=(ζ).drew; have a2:Below w.heap.size w (w2.alloc (.cells #[.slice none 0 0,.slice none 0 0] 54)).drew:=(B2.alloc B2.size _).drew; have hz:=bo.out _ a2; (with_reducible refine Calls.mono hz ?_); clear hz; rintro e w5 ⟨a5,v5,c5,rfl,ae⟩; obtain ⟨A5,n5,rfl,_,_⟩:=aj ae; have B5:=Below.trans a2 (a5.mono (Below.size a2)); have HQ:Hid (w.heap.size+2 < w2.heap.size):=η (ψ J.out); have av:¬ (w.heap.size=w2.heap.size):=(by have:=HQ.out; omega); have aw:¬ (w.heap.size+1=w2.heap.size):=(by have:=HQ.out; omega); have az:¬ (w2.heap.size=w.heap.size):=(by have:=HQ.out; omega); have aD:¬ (w2.heap.size=w.heap.size+1):=(by have:=HQ.out; omega); replace J:=η (aZ a5 (aZ I J.out)); replace x0:=ξ a5 (ξ I x0); replace x1:=ξ a5 (ξ I x1); replace y0:=ξ a5 (ξ I y0); replace y1:=ξ a5 (ξ I y1); have U:=η (aZ a5 (ω w2 (.cells #[.slice none 0 0,.slice none 0 0] 54))); have u0:_=some (Value.slice none 0 0):=aP (o:=0) U.out; have u1:_=some (Value.slice none 0 0):=aP (o:=1) U.out; have aa:=aG (o:=0) U.out; have ab:=aG (o:=1) U.out; have bi:=η ae; clear ae I a2)
    | (go_at_call 83; have hz:=bq.out _ _ _ (B5) bi.out; (with_reducible refine Calls.mono hz ?_); clear hz; rintro e w6 ⟨a6,v6,c6,rfl,af⟩; obtain ⟨A6,n6,rfl,_,_⟩:=aj af; have B6:=Below.trans (B5) (a6.mono (Below.size (B5))); replace J:=η (aZ a6 J.out); replace x0:=ξ a6 x0; replace x1:=ξ a6 x1; replace y0:=ξ a6 y0; replace y1:=ξ a6 y1; (try (replace U:=η (aZ a6 U.out); replace u0:_=some (Value.slice none 0 0):=aP (o:=0) U.out; replace u1:_=some (Value.slice none 0 0):=aP (o:=1) U.out; replace aa:=aG (o:=0) U.out; replace ab:=aG (o:=1) U.out)); have a9:=η af; clear af)
    | (go_at_call 83; have I:Below w5.heap.size w5 (w5.alloc (.cells #[.slice none 0 0,.slice none 0 0] 54)):=(ζ); have a2:Below w.heap.size w (w5.alloc (.cells #[.slice none 0 0,.slice none 0 0] 54)):=(B5.alloc B5.size _); have hz:=bq.out _ _ _ a2 (ak.below bi.out I); (with_reducible refine Calls.mono hz ?_); clear hz; rintro e w6 ⟨a6,v6,c6,rfl,af⟩; obtain ⟨A6,n6,rfl,_,_⟩:=aj af; have B6:=Below.trans a2 (a6.mono (Below.size a2)); have HQ:Hid (w.heap.size+2 < w5.heap.size):=η (ψ J.out); have av:¬ (w.heap.size=w5.heap.size):=(by have:=HQ.out; omega); have aw:¬ (w.heap.size+1=w5.heap.size):=(by have:=HQ.out; omega); have az:¬ (w5.heap.size=w.heap.size):=(by have:=HQ.out; omega); have aD:¬ (w5.heap.size=w.heap.size+1):=(by have:=HQ.out; omega); replace J:=η (aZ a6 (aZ I J.out)); replace x0:=ξ a6 (ξ I x0); replace x1:=ξ a6 (ξ I x1); replace y0:=ξ a6 (ξ I y0); replace y1:=ξ a6 (ξ I y1); have U:=η (aZ a6 (ω w5 (.cells #[.slice none 0 0,.slice none 0 0] 54))); have u0:_=some (Value.slice none 0 0):=aP (o:=0) U.out; have u1:_=some (Value.slice none 0 0):=aP (o:=1) U.out; have aa:=aG (o:=0) U.out; have ab:=aG (o:=1) U.out; have a9:=η af; clear af I a2)
    | (go_at_call 84; have hz:=bp.out _ (B6); (with_reducible refine Calls.mono hz ?_); clear hz; rintro e w7 ⟨a3,v7,c7,rfl,ag⟩; obtain ⟨A7,n7,rfl,_,_⟩:=aj ag; have B7:=Below.trans (B6) (a3.mono (Below.size (B6))); replace J:=η (aZ a3 J.out); replace x0:=ξ a3 x0; replace x1:=ξ a3 x1; replace y0:=ξ a3 y0; replace y1:=ξ a3 y1; (try (replace U:=η (aZ a3 U.out); replace u0:_=some (Value.slice none 0 0):=aP (o:=0) U.out; replace u1:_=some (Value.slice none 0 0):=aP (o:=1) U.out; replace aa:=aG (o:=0) U.out; replace ab:=aG (o:=1) U.out)); replace a9:=η (ak.below a9.out a3); have bj:=η ag; clear ag)
    | (go_at_call 84; have I:Below w6.heap.size w6 (w6.alloc (.cells #[.slice none 0 0,.slice none 0 0] 54)):=(ζ); have a2:Below w.heap.size w (w6.alloc (.cells #[.slice none 0 0,.slice none 0 0] 54)):=(B6.alloc B6.size _); have hz:=bp.out _ a2; (with_reducible refine Calls.mono hz ?_); clear hz; rintro e w7 ⟨a3,v7,c7,rfl,ag⟩; obtain ⟨A7,n7,rfl,_,_⟩:=aj ag; have B7:=Below.trans a2 (a3.mono (Below.size a2)); have HQ:Hid (w.heap.size+2 < w6.heap.size):=η (ψ J.out); have av:¬ (w.heap.size=w6.heap.size):=(by have:=HQ.out; omega); have aw:¬ (w.heap.size+1=w6.heap.size):=(by have:=HQ.out; omega); have az:¬ (w6.heap.size=w.heap.size):=(by have:=HQ.out; omega); have aD:¬ (w6.heap.size=w.heap.size+1):=(by have:=HQ.out; omega); replace J:=η (aZ a3 (aZ I J.out)); replace x0:=ξ a3 (ξ I x0); replace x1:=ξ a3 (ξ I x1); replace y0:=ξ a3 (ξ I y0); replace y1:=ξ a3 (ξ I y1); have U:=η (aZ a3 (ω w6 (.cells #[.slice none 0 0,.slice none 0 0] 54))); have u0:_=some (Value.slice none 0 0):=aP (o:=0) U.out; have u1:_=some (Value.slice none 0 0):=aP (o:=1) U.out; have aa:=aG (o:=0) U.out; have ab:=aG (o:=1) U.out; replace a9:=η (ak.below (ak.below a9.out I) a3); have bj:=η ag; clear ag I a2)
    | (go_at_call 83; have hz:=br.out _ _ _ (B7) bj.out; (with_reducible refine Calls.mono hz ?_); clear hz; rintro e w8 ⟨a4,v8,c8,rfl,am⟩; obtain ⟨A8,n8,rfl,_,_⟩:=aj am; have B8:=Below.trans (B7) (a4.mono (Below.size (B7))); replace J:=η (aZ a4 J.out); replace x0:=ξ a4 x0; replace x1:=ξ a4 x1; replace y0:=ξ a4 y0; replace y1:=ξ a4 y1; (try (replace U:=η (aZ a4 U.out); replace u0:_=some (Value.slice none 0 0):=aP (o:=0) U.out; replace u1:_=some (Value.slice none 0 0):=aP (o:=1) U.out; replace aa:=aG (o:=0) U.out; replace ab:=aG (o:=1) U.out)); replace a9:=η (ak.below a9.out a4); have bk:=η am; clear am)
    | (go_at_call 83; have I:Below w7.heap.size w7 (w7.alloc (.cells #[.slice none 0 0,.slice none 0 0] 54)):=(ζ); have a2:Below w.heap.size w (w7.alloc (.cells #[.slice none 0 0,.slice none 0 0] 54)):=(B7.alloc B7.size _); have hz:=br.out _ _ _ a2 (ak.below bj.out I); (with_reducible refine Calls.mono hz ?_); clear hz; rintro e w8 ⟨a4,v8,c8,rfl,am⟩; obtain ⟨A8,n8,rfl,_,_⟩:=aj am; have B8:=Below.trans a2 (a4.mono (Below.size a2)); have HQ:Hid (w.heap.size+2 < w7.heap.size):=η (ψ J.out); have av:¬ (w.heap.size=w7.heap.size):=(by have:=HQ.out; omega); have aw:¬ (w.heap.size+1=w7.heap.size):=(by have:=HQ.out; omega); have az:¬ (w7.heap.size=w.heap.size):=(by have:=HQ.out; omega); have aD:¬ (w7.heap.size=w.heap.size+1):=(by have:=HQ.out; omega); replace J:=η (aZ a4 (aZ I J.out)); replace x0:=ξ a4 (ξ I x0); replace x1:=ξ a4 (ξ I x1); replace y0:=ξ a4 (ξ I y0); replace y1:=ξ a4 (ξ I y1); have U:=η (aZ a4 (ω w7 (.cells #[.slice none 0 0,.slice none 0 0] 54))); have u0:_=some (Value.slice none 0 0):=aP (o:=0) U.out; have u1:_=some (Value.slice none 0 0):=aP (o:=1) U.out; have aa:=aG (o:=0) U.out; have ab:=aG (o:=1) U.out; replace a9:=η (ak.below (ak.below a9.out I) a4); have bk:=η am; clear am I a2))
   all_goals
    first
     | (have hE:=PE (c:=⟨P1,P2⟩) U.out B8 J.out (Nat.le_add_right _ 2) (by have:=HQ.out; omega) a9.out bk.out)
     | (have hE:=SQ (ty:=54) (c:=⟨P1,P2⟩) B8 J.out (Nat.le_add_right _ 2) a9.out bk.out)
    obtain ⟨B9,bt,bl,g0,g1⟩:=hE;replace J:=η bt;have bn:=η bl;have k6:=bv.out _ _ _ _ bl;clear bt bl;clear x0 x1 y0 y1
    (try clear u0 u1 aa ab U)
    (try clear av aw az aD)
    go_wp2_with fail
    refine k6.mono ?_;rintro e aE ⟨rfl,ac⟩;have aL:=B9.trans (ac.mono B9.size);replace J:=η (aZ ac J.out);replace bn:=η (bH.below bn.out ac);replace g0:=ξ ac g0;replace g1:=ξ ac g1;clear k6;cases z
    ·have a8:Hid (G=(⟨[],[]⟩,false)):=η (by rw [HG.out]; rfl)
     clear g0 g1;have z0:aE.cell? ⟨w.heap.size+2,0,none⟩=some (.slice none 0 0):=aP J.out;have z1:aE.cell? ⟨w.heap.size+2,1,none⟩=some (.slice none 0 0):=aP J.out;have f0:aE.frozen? ⟨w.heap.size+2,0,none⟩=false:=aG J.out;have f1:aE.frozen? ⟨w.heap.size+2,1,none⟩=false:=aG J.out;have HF:=η (dX (c:=⟨[],[]⟩) J.out (bW _) (bW _));go_wp2;refine bodyPost_ret (v:=.tuple #[.agg #[.slice none 0 0,.slice none 0 0],.bool false]) (by simp [results,Tryz.results34,go_sem,z0,z1]) rfl ⟨(aL.setCell (by dsimp only; omega) _).setCell (by dsimp only; omega) _,_,_,by rw [a8.out],by rw [a8.out]; exact HF.out,(by exact New.nil _ _)⟩
    ·have a8:Hid (G=(⟨P1,P2⟩,true)):=η (by rw [HG.out]; rfl)
     have k7:=bu.out _ _ _ _ bn.out
     go_wp2_with fail
     refine k7.mono ?_;rintro e aM ⟨aR,bE,bL,rfl,ar,b3⟩;obtain ⟨bw,bx,bz,bA,rfl⟩:=iE ar;obtain ⟨d1,d2,rfl,b4,b5⟩:=fZ ar;have bB:=aL.trans (aR.mono aL.size);replace J:=η (aZ aR J.out);have z0:aM.cell? ⟨w.heap.size+2,0,none⟩=some (.slice none 0 0):=aP J.out;have z1:aM.cell? ⟨w.heap.size+2,1,none⟩=some (.slice none 0 0):=aP J.out;have f0:aM.frozen? ⟨w.heap.size+2,0,none⟩=false:=aG J.out;have f1:aM.frozen? ⟨w.heap.size+2,1,none⟩=false:=aG J.out;have HF:=η (dX (c:=⟨P1,P2⟩) J.out b4 b5);have HN:=η (b3.mono aL.size);clear ar b4 b5 b3 k7;go_wp2;refine bodyPost_ret (v:=.tuple #[.agg #[.slice bw P1.length bx,.slice bz P2.length bA],.bool true]) (by simp [results,Tryz.results34,go_sem,z0,z1]) rfl ⟨(bB.setCell (by dsimp only; omega) _).setCell (by dsimp only; omega) _,_,_,by rw [a8.out],by rw [a8.out]; exact HF.out,(HN.out.Xd _ _).Xd _ _⟩
end
section
open Go.RowKit D
def D.jB (more:List A) (n:Nat) (r:Rd):Rd:=more.foldl (fun r a=>iM r a n) r
theorem D.Nz (more:List A) (n:Nat) (r:Rd) (k:Nat) (h:k < more.length):jB (more.take (k+1)) n r=iM (jB (more.take k) n r) more[k] n:=by
 unfold jB;rw [ρ h,List.foldl_append];rfl
theorem D.vW (r:Rd) (a:A) (n:Nat):(iM r a n).1=fD r.1 a:=by
 unfold iM fD
 split
 ·rfl
 ·rfl
structure D.qG (r:Rd):Prop where
 gB:gB r.1=true
 len:r.2.length=r.1.length
theorem D.qG.put {r:Rd} (h:qG r) (a:A) (n:Nat):qG (iM r a n):=by
 refine ⟨by rw [vW]; exact yx h.gB a,?_⟩;unfold iM;have J:=(qJ h.gB a).2.2;have I:=h.len;by_cases y:hasB r.1 a=true
 ·rw [if_pos y]; exact I
 ·rw [if_neg y]
  show (r.2.take (pl r.1 a) ++ [n] ++ r.2.drop (pl r.1 a)).length=(fD r.1 a).length;unfold fD;rw [if_neg y];simp;omega
theorem D.NC (r:Rd) (a:A) (n:Nat):r.1.length≤(iM r a n).1.length∧(iM r a n).1.length≤r.1.length+1:=by
 rw [vW];refine ⟨?_,JH _ _⟩;unfold fD
 split
 ·exact ν
 ·simp
  omega
theorem D.oW {r:Rd} (h:qG r) (n:Nat):∀ more,qG (jB more n r)∧r.1.length≤(jB more n r).1.length∧(jB more n r).1.length≤r.1.length+more.length:=by
 intro more
 induction more generalizing r with
 | nil=>exact ⟨h,ν,ν⟩
 | cons a more ih=>
  have h1:=ih (h.put a n);have y:=NC r a n;refine ⟨h1.1,?_,?_⟩
  ·exact τ y.1 h1.2.1
  ·have:=h1.2.2
   simp only [jB,List.foldl_cons,List.length_cons] at *;omega
def D.gq (rs:List Ru) (lv:List Nat) (level:Nat) (r:Rd) (n:Nat):Rd:=jB (jo r.1 level (rs.zip lv)) n r
def D.D8 (rs:List Ru) (lv:List Nat):Nat→Nat→Rd→Nat→Rd × Bool
 | 0,_,r,_=>(r,true)
 | k+1,0,r,_=>(r,false)
 | k+1,fuel+1,r,n=>
  if 300 < (gq rs lv (rs.length - k) r (n+1)).1.length then (gq rs lv (rs.length - k) r (n+1),false)
  else if (gq rs lv (rs.length - k) r (n+1)).1.length=r.1.length then D8 rs lv k 302 (gq rs lv (rs.length - k) r (n+1)) n
  else D8 rs lv (k+1) fuel (gq rs lv (rs.length - k) r (n+1)) (n+1)
 termination_by k fuel=>(k,fuel)
def D.iO (rs:List Ru) (given:List A):Rd × Bool:=D8 rs (aA rs) (rs.length+1) 302 (given,List.replicate given.length 0) 0
end
section
open Go.RowKit D
attribute [local go_sem ↓] Go.wp_at_zero Go.wp_at_succ
theorem D.VD (l i:Nat) (y:l < 16) (I:i < 4):(bits .and .i64 (l:Int) (wrap64 (2 ^ i)) == 0) = !l.testBit i:=by
 have h:∀ l:Nat,l < 16→∀ i:Nat,i < 4→(bits .and .i64 (l:Int) (wrap64 (2 ^ i)) == 0) = !l.testBit i:=by decide +kernel
 exact h l y i I
structure D.xX (fs ps:List A) (b:Bd) (bs:List Nat) (left m:Nat) (A9:Option Addr) (c9:Nat) (key:WK) (bx:List Nat) (w:World):Prop where
 lt:m < ps.length
 bit:left.testBit m=true
 row:jS w [.slice A9 (idxs fs key).length c9] (idxs fs key) bx
 sub:∀ x ∈ bx,x ∈ bs
 key_:∀ p,ps[m]? = some p→∀ f,Gr f→(aF p f b).2=true→key ∈ keysOf f
theorem D.xX.below {fs ps:List A} {b:Bd} {bs:List Nat} {left m:Nat} {y:Option Addr} {I:Nat} {key:WK} {J:List Nat} {w w':World} (h:xX fs ps b bs left m y I key J w) (hb:Below w.heap.size w w'):xX fs ps b bs left m y I key J w':=
 ⟨h.lt,h.bit,dW.below h.row hb,h.sub,h.key_⟩
theorem PG (vars:List ByteArray) (hv:kC vars) (b:Bd) (fs:List A) (rn:List Nat) (bs:List Nat) (ps:List A) (Ap:Option Addr) (cp:Nat) (bp:List Nat) (sk sb:Nat) (v2:Value) (wt:Nat→Bool) (ah:Int) (tell:Value) (left:Nat) (w:World)
  (h:mJ sk sb (.slice Ap ps.length cp) v2 wt false ah tell w) (hb:iR vars b sk 18 w) (aq:kW sb fs rn bs w) (ar:uM vars w [.slice Ap ps.length cp] ps bp) (hin:∀ p ∈ ps,∀ t ∈ p.args,t.var=true→t.name ∈ vars) (av:∀ p ∈ ps,p.args.length≤1000000) (b6:ps.length≤4) (aw:left < 16) (ag:fs.length≤1000000)
  (a6:∃ j,j < ps.length∧left.testBit j=true):
  Calls Tryz.prog 231 #[.pointer (some ⟨sk,0,none⟩),.int .i64 left] w fun e w'=>∃ m A9 c9 key bx,e=.returned (.tuple #[.int .i64 (m:Nat),.slice A9 (idxs fs key).length c9])∧xX fs ps b bs left m A9 c9 key bx w'∧Below w.heap.size w w':=by
 have a7:=h.lt;have y0:=h.p1;have HX:=η (ι h (ι hb (ι aq (ι ar (ι hin (ι av a6))))));clear h hb aq ar hin av a6
 go_enter Tryz.func231,Tryz.ntmps231
 go_wp2
 go_loopw [6,7,17] (fun best list i wr=>∃ (k:Nat),k≤ps.length∧i=.int .i64 k∧Below w.heap.size w wr∧
  ((best=.int .i64 (-1)∧list=.slice none 0 0∧∀ j,j < k→left.testBit j=false)∨∃ m A9 c9 key bx,best=.int .i64 (m:Nat)∧list=.slice A9 (idxs fs key).length c9∧xX fs ps b bs left m A9 c9 key bx wr)) (fun _ _ i _=>ps.length - (intOf i).toNat)
 case atStart=>exact ⟨0,ε,rfl,ϑ,.inl ⟨rfl,rfl,fun j hj=>by omega⟩⟩
 case round=>
  obtain ⟨k,hk,rfl,I,halt⟩:=hrel;by_cases a0:k < ps.length
  ·obtain ⟨bq,oq,Ae,ce,bk,rfl,_,f0,f1,⟨vv,az,aD,am⟩,_⟩:=yR ((eP vars).below HX.out.2.2.2.1 I) a0
   simp only [List.cons.injEq,and_true,true_and] at az;subst az;have b7:(0:Int)≤(k:Int):=by omega
   have b2:(k:Int) < (ps.length:Int):=by omega
   have b8:(k:Int) < 4:=by omega
   have af:=VD left k aw (by omega);have a8:Below wr.heap.size wr (wr.alloc (.cells #[.string ps[k].name,.slice Ae ps[k].args.length ce] 168)):=ζ;have a1:=I.trans (a8.mono I.size);have J:=η a0;have aE:=η a8;have a9:=η a1;have a4:=η halt;cases htb:left.testBit k
   ·rw [htb] at af
    have ao:=η htb;clear a8 a1 aD am I htb hk halt;simp only [Bool.not_false] at af;generalize ps[k].name=pn at *;generalize ps[k].args.length=pl at *;clear a0;go_wp2;go_roundw
    case rel=>
     refine ⟨k+1,J.out,by go_num,a9.out,?_⟩
     rcases a4.out with ⟨h1,h2,h3⟩ | ⟨m,A9,c9,key,bx,h1,h2,h3⟩
     ·refine .inl ⟨h1,h2,fun j hj=>?_⟩
      rcases Nat.lt_succ_iff_lt_or_eq.1 hj with h | rfl
      ·exact h3 j h
      ·exact ao.out
     ·exact .inr ⟨m,A9,c9,key,bx,h1,h2,h3.below aE.out⟩
    case measure=>have:=J.out; simp [intOf]; omega
   ·rw [htb] at af
    have b5:sk < (wr.alloc (.cells #[.string ps[k].name,.slice Ae ps[k].args.length ce] 168)).heap.size:=κ a7 a1.size;have HC:=η (F5 vars hv b sb fs rn bs ps[k] Ae ce bk sk 18 (wr.alloc (.cells #[.string ps[k].name,.slice Ae ps[k].args.length ce] 168)).drew (HX.out.2.2.1.below a1.drew) (HX.out.2.1.keep (a1.drew.block _ a7)) ((dK vars).below am a8.drew) (HX.out.2.2.2.2.1 _ (δ a0)) (HX.out.2.2.2.2.2.1 _ (δ a0)) ag);have s0:(wr.alloc (.cells #[.string ps[k].name,.slice Ae ps[k].args.length ce] 168)).cell? ⟨sk,0,none⟩=some (.pointer (some ⟨sb,0,none⟩)):=(HX.out.1.keep (a1.block _ a7)).st;have z0:(wr.alloc (.cells #[.string ps[k].name,.slice Ae ps[k].args.length ce] 168)).cell? ⟨wr.heap.size,0,none⟩=some (.string ps[k].name):=by go_simp
    have z1:(wr.alloc (.cells #[.string ps[k].name,.slice Ae ps[k].args.length ce] 168)).cell? ⟨wr.heap.size,1,none⟩=some (.slice Ae ps[k].args.length ce):=by go_simp
    have aL:Hid (∀ p,ps[k]? = some p→p=ps[k]):=η fun p hp=>by rw [Ψ a0] at hp; exact (Option.some.inj hp).symm
    have ao:=η htb;clear a8 a1 aD am I htb hk halt;simp only [Bool.not_true] at af;generalize ps[k]=p at *;clear a0;obtain ⟨pn,a2⟩:=p;dsimp only at *
    have aM:∀ (y:WK) (a3:List Nat) (A8:Option Addr) (c8:Nat) (w8:World),jS w8 [.slice A8 (idxs fs y).length c8] (idxs fs y) a3→(∀ x ∈ a3,x ∈ bs)→(∀ f,Gr f→(aF ⟨pn,a2⟩ f b).2=true→y ∈ keysOf f)→xX fs ps b bs left k A8 c8 y a3 w8:=
     fun _ _ _ _ _ h1 h2 h3=>⟨J.out,ao.out,h1,h2,fun p hp=>by rw [aL.out p hp]; exact h3⟩
    have aR:=η aM;clear aM aL
    rcases a4.out with ⟨rfl,rfl,_⟩ | ⟨m,A9,c9,key,bx,rfl,rfl,h3⟩
    ·clear a4
     go_wp2;generalize wr.alloc (.cells #[.string pn,.slice Ae a2.length ce] 168)=W1 at *
     go_region_law
      (first
       | (go_simp; go_at_call 272; refine HC.out.mono ?_; rintro e w2 ⟨A8,c8,y,a3,rfl,aa,ab,ac,ae⟩; have U:=η ((Below.refl W1.heap.size W1).drew.trans ae); replace s0:=ξ U.out s0; have H8:=η (aR.out _ _ _ _ _ aa ab ac); clear aa ab ac ae))
     all_goals
      have a5:=η (a9.out.trans (U.out.mono a9.out.size));have q9:=(HX.out.1.keep (a5.out.block _ a7)).io;clear s0 z0 z1 HC U;go_wp2;go_roundw
      case rel=>exact ⟨k+1,J.out,by go_num,a5.out,.inr ⟨k,A8,c8,y,a3,rfl,rfl,H8.out⟩⟩
      case measure=>have:=J.out; simp [intOf]; omega
    ·have b9:¬ ((m:Nat):Int) < 0:=by omega
     have H3:=η h3;clear a4 h3;go_wp2;generalize wr.alloc (.cells #[.string pn,.slice Ae a2.length ce] 168)=W1 at *
     go_region_law
      (first
       | (go_simp; go_at_call 272; refine HC.out.mono ?_; rintro e w2 ⟨A8,c8,y,a3,rfl,aa,ab,ac,ae⟩; have U:=η ((Below.refl W1.heap.size W1).drew.trans ae); replace s0:=ξ U.out s0; have H8:=η (aR.out _ _ _ _ _ aa ab ac); clear aa ab ac ae))
     all_goals
      have a5:=η (a9.out.trans (U.out.mono a9.out.size));have q9:=(HX.out.1.keep (a5.out.block _ a7)).io;have H4:=η ((H3.out.below aE.out).below U.out);have bc:(idxs fs y).length≤1000000:=τ (nY _ _) ag;have bf:(idxs fs key).length≤1000000:=τ (nY _ _) ag;clear s0 z0 z1 HC U H3;by_cases hc:(idxs fs y).length < (idxs fs key).length
      ·have b3:((idxs fs y).length:Int) < ((idxs fs key).length:Int):=by omega
       go_wp2;go_roundw
       case rel=>exact ⟨k+1,J.out,by go_num,a5.out,.inr ⟨k,A8,c8,y,a3,rfl,rfl,H8.out⟩⟩
       case measure=>have:=J.out; simp [intOf]; omega
      ·have b3:¬ ((idxs fs y).length:Int) < ((idxs fs key).length:Int):=by omega
       go_wp2;go_roundw
       case rel=>exact ⟨k+1,J.out,by go_num,a5.out,.inr ⟨m,A9,c9,key,bx,rfl,rfl,H4.out⟩⟩
       case measure=>have:=J.out; simp [intOf]; omega
  ·have he:k=ps.length:=by omega
   subst he;have b2:¬ (ps.length:Int) < (ps.length:Int):=by omega
   rcases halt with ⟨rfl,rfl,h3⟩ | ⟨m,A9,c9,key,bx,rfl,rfl,h3⟩
   ·obtain ⟨j,b4,b1⟩:=HX.out.2.2.2.2.2.2
    rw [h3 j b4] at b1;cases b1
   ·have HP:=η (ι h3 I)
    clear h3 I;go_wp2;go_ret2;exact ⟨m,A9,c9,key,rfl,⟨bx,HP.out.1⟩,HP.out.2⟩
def D.zB (fs:List A) (y:List A) (b:Bd):Bool:=y.any fun n=>decide (fF (dD n b) ∈ fs.map fF)
theorem D.SS (fs y:List A) (b:Bd) (k:Nat) (h:k < y.length):zB fs (y.take (k+1)) b=(zB fs (y.take k) b || decide (fF (dD y[k] b) ∈ fs.map fF)):=by
 unfold zB;rw [ρ h,List.any_append];simp
theorem D.Xu {fs y:List A} {b:Bd} {k:Nat} (h:k < y.length) (I:decide (fF (dD y[k] b) ∈ fs.map fF)=true):zB fs y b=true:=List.any_eq_true.2 ⟨y[k],δ h,I⟩
theorem sN (vars:List ByteArray) (hv:kC vars) (b:Bd) (aL:jZ vars b) (fs:List A) (rn:List Nat) (bs:List Nat) (y:List A) (An:Option Addr) (cn:Nat) (bn:List Nat) (sk sb:Nat) (v1:Value) (wt:Nat→Bool) (io:Bool) (ah:Int) (tell:Value) (w:World)
  (h:mJ sk sb v1 (.slice An y.length cn) wt io ah tell w) (hb:iR vars b sk 18 w) (aq:kW sb fs rn bs w) (ar:uM vars w [.slice An y.length cn] y bn) (hin:∀ n ∈ y,∀ t ∈ n.args,t.var=true→t.name ∈ vars) (hok:∀ n ∈ y,bU (dD n b)=true) (b2:y.length≤1000000):
  Calls Tryz.prog 230 #[.pointer (some ⟨sk,0,none⟩)] w fun e w'=>e=.returned (.bool (zB fs y b))∧Below w.heap.size w w':=by
 have ae:=h.lt;have y0:=h.p2;have HX:=η (ι h (ι hb (ι aq (ι ar (ι hin hok)))));clear h hb aq ar hin hok
 go_enter Tryz.func230,Tryz.ntmps230
 go_wp2
 go_loopw [11] (fun i wr=>∃ (k:Nat),k≤y.length∧i=.int .i64 k∧zB fs (y.take k) b=false∧Below w.heap.size w wr) (fun i _=>y.length - (intOf i).toNat)
 case atStart=>exact ⟨0,ε,rfl,by simp [zB],ϑ⟩
 case round=>
  obtain ⟨k,hk,rfl,a3,U⟩:=hrel;by_cases a0:k < y.length
  ·obtain ⟨bq,oq,Ae,ce,bk,rfl,_,f0,f1,⟨vv,av,aw,az⟩,_⟩:=yR ((eP vars).below HX.out.2.2.2.1 U) a0
   simp only [List.cons.injEq,and_true,true_and] at av;subst av;have b3:(0:Int)≤(k:Int):=by omega
   have aM:(k:Int) < (y.length:Int):=by omega
   have af:=SS fs y b k a0;rw [a3,Bool.false_or] at af;have aR:=η af;have b1:=η (fun hd=>Xu (fs:=fs) (b:=b) a0 hd)
   have aD:y[k].args.length≤1000000:=by
    have h9:=HX.out.2.2.2.2.2 _ (δ a0);unfold bU at h9;simp only [ο,decide_eq_true_eq] at h9;have:=h9.1.2;simp [dD] at this; omega
   have ag:Below wr.heap.size wr (wr.alloc (.cells #[.string y[k].name,.slice Ae y[k].args.length ce] 168)):=ζ;have a2:=U.trans (ag.mono U.size);have a1:sk < (wr.alloc (.cells #[.string y[k].name,.slice Ae y[k].args.length ce] 168)).heap.size:=κ ae a2.size;have HF:=η (Nl vars hv b aL y[k] Ae ce bk sk 18 (wr.alloc (.cells #[.string y[k].name,.slice Ae y[k].args.length ce] 168)).drew ((HX.out.2.1.keep (a2.block _ ae)).keep rfl) aw ((dK vars).below az (ag.drew)) (HX.out.2.2.2.2.1 _ (δ a0)) aD);have aa:=η (HX.out.2.2.2.2.2 _ (δ a0));have ab:=η (HX.out.2.2.1.below a2);have ac:=η a2;have s0:(wr.alloc (.cells #[.string y[k].name,.slice Ae y[k].args.length ce] 168)).cell? ⟨sk,0,none⟩=some (.pointer (some ⟨sb,0,none⟩)):=(HX.out.1.keep (a2.block _ ae)).st;have z0:(wr.alloc (.cells #[.string y[k].name,.slice Ae y[k].args.length ce] 168)).cell? ⟨wr.heap.size,0,none⟩=some (.string y[k].name):=by go_simp
   have z1:(wr.alloc (.cells #[.string y[k].name,.slice Ae y[k].args.length ce] 168)).cell? ⟨wr.heap.size,1,none⟩=some (.slice Ae y[k].args.length ce):=by go_simp
   have aE:=η a0;clear a3 U hk ag a2 aw az af aD;generalize y[k]=n at *;clear a0;obtain ⟨nn,J⟩:=n;dsimp only at *;generalize hr:decide (fF (dD ⟨nn,J⟩ b) ∈ fs.map fF)=r at *;have HR:=η hr;clear hr;cases r
   ·go_wp2
    generalize wr.alloc (.cells #[.string nn,.slice Ae J.length ce] 168)=W1 at *
    go_region_law
     (first
      | (go_simp; go_at_call 117; refine HF.out.mono ?_; rintro e w2 ⟨v9,b9,rfl,a4,a5,am⟩; have I:=η ((Below.refl W1.heap.size W1).drew.trans a4); replace s0:=ξ I.out s0; replace a1:=κ a1 I.out.size; have a6:=Bc sb fs rn bs (dD ⟨nn,J⟩ b) (.string nn) v9 b9 w2 (ab.out.below I.out) a5 aa.out; have a7:=η a6; clear a4 a5 am a6)
      | (go_simp; go_at_call 193; refine a7.out.mono ?_; rintro e w3 ⟨rfl,a8⟩; have a9:=η (I.out.trans (a8.mono I.out.size)); rw [HR.out]; clear a8))
    all_goals
     have ao:=η (ac.out.trans (a9.out.mono ac.out.size));clear s0 z0 z1 HF a7 I a9 ab aa;go_wp2;go_roundw
     case rel=>exact ⟨k+1,aE.out,by go_num,aR.out,ao.out⟩
     case measure=>have:=aE.out; simp [intOf]; omega
   ·go_wp2
    generalize wr.alloc (.cells #[.string nn,.slice Ae J.length ce] 168)=W1 at *
    go_region_law
     (first
      | (go_simp; go_at_call 117; refine HF.out.mono ?_; rintro e w2 ⟨v9,b9,rfl,a4,a5,am⟩; have I:=η ((Below.refl W1.heap.size W1).drew.trans a4); replace s0:=ξ I.out s0; replace a1:=κ a1 I.out.size; have a6:=Bc sb fs rn bs (dD ⟨nn,J⟩ b) (.string nn) v9 b9 w2 (ab.out.below I.out) a5 aa.out; have a7:=η a6; clear a4 a5 am a6)
      | (go_simp; go_at_call 193; refine a7.out.mono ?_; rintro e w3 ⟨rfl,a8⟩; have a9:=η (I.out.trans (a8.mono I.out.size)); rw [HR.out]; clear a8))
    all_goals
     have ao:=η (ac.out.trans (a9.out.mono ac.out.size));clear s0 z0 z1 HF a7 I a9 ab aa;go_wp2;go_ret;rw [b1.out (by trivial)];exact ⟨rfl,ao.out⟩
  ·have he:k=y.length:=by omega
   have aM:¬ (k:Int) < (y.length:Int):=by omega
   rw [ϕ (Nat.le_of_eq he.symm)] at a3;have HP:=η (ι a3 U);clear a3 U;go_wp2;go_ret;rw [HP.out.1];exact ⟨rfl,HP.out.2⟩
theorem D.Xv {y:List A} (h:kJ y=true) (x:A):Si y x=(!decide (x.name ∈ (eF y).1) || decide ((eF y).2.1 x.name=x.args.length)):=by
 obtain ⟨i1,_,i2,_⟩:=yI y;rw [Bool.eq_iff_iff];unfold Si;simp only [ό,Bool.or_eq_true,Bool.not_eq_true',decide_eq_false_iff_not,decide_eq_true_eq];constructor
 ·intro hc
  by_cases hm:x.name ∈ (eF y).1
  ·obtain ⟨a,ha,e⟩:=(i1 _).1 hm
   have h1:=hc a ha;have I:=LD h ha;rw [e] at I;unfold clash at h1;rw [decide_eq_true e,Bool.true_and,decide_eq_false_iff_not,Classical.not_not] at h1;exact .inr (by rw [I,h1])
  ·exact .inl hm
 ·intro hc a ha
  unfold clash;by_cases e:a.name=x.name
  ·have hm:x.name ∈ (eF y).1:=(i1 _).2 ⟨a,ha,e⟩
   have h1:=hc.resolve_left fun h=>h hm
   have I:=LD h ha;rw [e,h1] at I;have:a.args.length=x.args.length:=by exact_mod_cast I.symm
   simp [this]
  ·simp [e]
theorem JJ (a:A) (c0 c1:Value) (bs:List Nat) (w:World) (B n:Nat) (L:List ByteArray) (f:ByteArray→Int) (h:aK w [c0,c1] a bs) (hM:iQ B n L f w) (hf:∀ s ∈ L,0≤f s∧f s≤1000000):
  Calls Tryz.prog 70 #[.map (some B),.agg #[c0,c1]] w fun e w'=>e=.returned (.bool (!decide (a.name ∈ L) || decide (f a.name=a.args.length)))∧Below w.heap.size w w':=by
 obtain ⟨s,U,a0,ht⟩:=h;simp only [List.cons.injEq,and_true] at U;obtain ⟨rfl,rfl⟩:=U;obtain ⟨Ad,cap,rfl,hl,hm⟩:=aj ht;have a1:=aB (τ hl hm);obtain ⟨nm,args⟩:=a;dsimp only at *;have hA:Below w.heap.size w (w.alloc (.cells #[.string nm,.slice Ad args.length cap] 33)):=ζ;have HM:=η (hM.below hA hM.lt);have y:=η a0;clear hl hm ht hM a0;by_cases I:nm ∈ L
 ·have J:Hid (decide (nm ∈ L)=true):=η (decide_eq_true I)
  have hr:=hf nm I;obtain ⟨v,hv⟩:∃ v,f nm=v:=⟨_,rfl⟩;have HV:Hid ((if nm ∈ L then f nm else 0)=v):=η ((if_pos I).trans hv);rw [hv] at hr ⊢;clear hv hf I;by_cases he:v=args.length
  ·have HZ:Hid ((!decide (nm ∈ L) || decide (v=(args.length:Int)))=true):=η (by rw [J.out,decide_eq_true he]; rfl)
   subst he
   go_enter Tryz.func70,Tryz.ntmps70
   go_wp2_with (first | (at_lookup; refine dV _ rfl _ _ _ rfl Tryz.underlying116 _ _ _ _ rfl HM.out nm rfl y.out true J.out _ HV.out ?_) | go_in)
   go_ret;exact ⟨rfl,hA⟩
  ·have HZ:Hid ((!decide (nm ∈ L) || decide (v=(args.length:Int)))=false):=η (by rw [J.out,decide_eq_false he]; rfl)
   go_enter Tryz.func70,Tryz.ntmps70
   go_wp2_with (first | (at_lookup; refine dV _ rfl _ _ _ rfl Tryz.underlying116 _ _ _ _ rfl HM.out nm rfl y.out true J.out _ HV.out ?_) | go_in)
   go_ret;exact ⟨aH (by rw [HZ.out]; first | rfl | exact beq_eq_false_iff_ne.2 he),hA⟩
 ·have J:Hid (decide (nm ∈ L)=false):=η (decide_eq_false I)
  have HV:Hid ((if nm ∈ L then f nm else 0)=0):=η (if_neg I);have HZ:Hid ((!decide (nm ∈ L) || decide (f nm=(args.length:Int)))=true):=η (by rw [J.out]; rfl);clear hf I
  go_enter Tryz.func70,Tryz.ntmps70
  go_wp2_with (first | (at_lookup; refine dV _ rfl _ _ _ rfl Tryz.underlying116 _ _ _ _ rfl HM.out nm rfl y.out false J.out _ HV.out ?_) | go_in)
  go_ret;exact ⟨aH (by rw [HZ.out]),hA⟩
theorem GK (rs:List Ru) (xs:List A) (v1 v2:Value) (b1 b2:List Nat) (w:World) (h:fA w [v1] rs b1) (h2:ay w [v2] xs b2) (hg:qw w):
  Calls Tryz.prog 19 #[v1,v2] w fun e w'=>e=.returned (.bool (jT rs xs))∧Below w.heap.size w w':=by
 have c1:=JI rs v1 b1 w h hg;have C2:=η fun w' (hb:Below w.heap.size w w')=>oM xs v2 b2 w' (ak.below h2 hb)
 have C3:=η fun w' (hb:Below w.heap.size w w') (hok:rs.all fM=true) (hf:rs.length≤8)=>Fh rs v1 b1 w' (aU.below h hb) hok hf
 obtain ⟨ag,cap2,rfl,a2,a3⟩:=aj h2;have am:=aB (τ a2 a3);clear h hg a2 a3;by_cases hp:fV rs=0
 ·have a4:=(qN rs).1 hp
  have HF:=η a4;have HZ:Hid (jT rs xs=(aN xs && sF (aJ rs) xs)):=η (by unfold jT; rw [decide_eq_true hp,Bool.true_and]);rw [decide_eq_true hp] at c1;clear hp a4
  go_enter Tryz.func19,Tryz.ntmps19
  go_wp2_with fail
  refine c1.mono ?_;rintro e w1 ⟨rfl,I⟩;clear c1
  go_wp2_with fail
  refine (C2.out _ I).mono ?_;rintro e w2 ⟨rfl,a5⟩;have B2:=I.trans (a5.mono I.size);clear C2 I a5;cases hx:aN xs
  ·have a1:Hid (jT rs xs=false):=η (by rw [HZ.out,hx]; rfl)
   clear HZ hx C3;go_wp2;go_ret;exact ⟨aH a1.out.symm,B2⟩
  ·have a1:Hid (jT rs xs=sF (aJ rs) xs):=η (by rw [HZ.out,hx,Bool.true_and])
   clear HZ hx
   go_wp2_with fail
   refine (C3.out _ B2 HF.out.ok HF.out.few).mono ?_;rintro e w3 ⟨rfl,n,hM,a6⟩;have B3:=B2.trans (a6.mono B2.size);have HM:=η hM;have aa:=η (CG HF.out.ok HF.out.few (xs:=aJ rs) fun a h=>h);have ab:=η (Xv HF.out.alike);have af:w2.heap.size < w3.heap.size:=hM.lt;clear hM C3 a6;generalize aJ rs=az at *;go_wp2
   go_loopw [24] (fun i wr=>∃ k:Nat,k≤xs.length∧i=.int .i64 k∧sF az (xs.take k)=true∧iQ w2.heap.size n (eF az).1 (eF az).2.1 wr∧Below w.heap.size w wr) (fun i _=>xs.length - (intOf i).toNat)
   case atStart=>exact ⟨0,ε,rfl,rfl,HM.out,B3⟩
   case round=>
    clear HM;obtain ⟨k,hk,rfl,y,hM,hb⟩:=hrel;by_cases J:k < xs.length
    ·obtain ⟨b,o,Ae,ce,bk,rfl,_,d0,d1,a7,_⟩:=eG (ak.below h2 hb) J
     have ao:(0:Int)≤(k:Int):=by omega
     have ac:(k:Int) < (xs.length:Int):=by omega
     have hA:Below wr.heap.size wr (wr.alloc (.cells #[.string xs[k].name,.slice Ae xs[k].args.length ce] 33)):=ζ;have c4:=JJ xs[k] _ _ bk _ _ n _ _ (au.below a7 hA) (hM.below hA hM.lt) aa.out;rw [← ab.out xs[k]] at c4;have HS:=η (MQ az xs k J y);have U:=η (Qn az xs k J);have HM:=η (hM.below hA hM.lt);have HB:=η (hb.trans (hA.mono hb.size));clear h2 a7 hA y hM hb;have a8:=η J;generalize xs[k]=x at *;clear J;obtain ⟨xn,xa⟩:=x;dsimp only at *
     go_wp2_with fail
     refine c4.mono ?_;rintro e w5 ⟨rfl,a9⟩;have B5:=HB.out.trans (a9.mono HB.out.size);have ae:=η (HM.out.below a9 HM.out.lt);clear c4 HM HB;cases hf:Si az ⟨xn,xa⟩
     ·have a0:Hid (jT rs xs=false):=η (by rw [a1.out]; exact U.out hf)
      clear hf HS U;go_wp2;go_ret;exact ⟨aH a0.out.symm,B5⟩
     ·have a0:=η (HS.out.trans hf)
      clear hf HS U;go_wp2;go_roundw
      case rel=>exact ⟨k+1,a8.out,by go_num,a0.out,ae.out,B5⟩
      case measure=>have:=a8.out; simp [intOf]; omega
    ·have he:k=xs.length:=by omega
     have ac:¬ (k:Int) < (xs.length:Int):=by omega
     have a0:Hid (jT rs xs=true):=η (by rw [a1.out]; rw [he,ϕ ν] at y; exact y);clear he y hM h2;go_wp2;go_ret;exact ⟨aH a0.out.symm,hb⟩
 ·have HZ:Hid (jT rs xs=false):=η (by unfold jT; rw [decide_eq_false hp]; rfl)
  rw [decide_eq_false hp] at c1;clear hp C2 C3 h2
  go_enter Tryz.func19,Tryz.ntmps19
  go_wp2_with fail
  refine c1.mono ?_;rintro e w1 ⟨rfl,I⟩;go_wp2;go_ret;exact ⟨aH HZ.out.symm,I⟩
def Xw (g p q:Nat) (w:World) (e:Ending) (w':World):Prop:=
 ∃ (rs:List Ru) (y:Option Addr) (c0:Nat) (b0:List Nat) (xs:List A) (I:Option Addr) (c1:Nat) (J:List Nat) (U:Nat),e=.returned (.tuple #[.slice y rs.length c0,.slice I xs.length c1])∧fA w' [.slice y rs.length c0] rs b0∧ay w' [.slice I xs.length c1] xs J∧
  (∀ b ∈ b0,w.heap.size≤b)∧(∀ b ∈ J,w.heap.size≤b)∧rs.length≤9∧(∀ r ∈ rs,TK r)∧xs.length≤50∧(∀ a ∈ xs,a.args.length≤4)∧kP g U w'∧U≤p+q∧aI [g] w w'
theorem D.Qr {g p p1 p2 q1 q2:Nat} {w w1 w2 U:World} {rs:List Ru} {v:Value} {xs:List A} {v2:Value} {b1:List Nat} (hk:aI [g] w w1) (hg:g < w.heap.size) (h1:rs.length≤9) (h2:p1≤p+q1) (hI:gY g p1 w1 rs v w2) (hR:kP g p2 U) (hK:aI [g] w2 U) (h3:p2≤p1+q2)
  (I:ay U [v2] xs b1) (J:∀ b ∈ b1,w2.heap.size≤b) (hx:xs.length≤50) (hs:∀ a ∈ xs,a.args.length≤4):Xw g p (q1+q2) w (.returned (.tuple #[v,v2])) U:=by
 have y:=hI.call hR hK;obtain ⟨A0,c0,rfl⟩:=y.shape;obtain ⟨b0,hr,a0⟩:=y.rules;obtain ⟨A1,c1,rfl,_,_⟩:=aj I;exact ⟨rs,A0,c0,b0,xs,A1,c1,b1,p2,rfl,hr,I,fun b hb=>τ hk.size (a0 b hb),fun b hb=>τ (τ hk.size hI.kept.size) (J b hb),h1,hI.small,hx,hs,hR,by omega,hk.trans y.kept⟩
theorem JK (g p:Nat) (w:World) (h:kP g p w) (hp:p≤200000):
  Calls Tryz.prog 52 #[.pointer (some ⟨g,0,none⟩)] w (Xw g p 400 w):=by
 have a4:=pick_any g p 6 w h (by omega) (by omega) (by omega);have HL:=η h.lt;have HP:=η hp;clear h hp
 go_enter Tryz.func52,Tryz.ntmps52
 go_wp2_with fail
 refine a4.mono ?_;rintro e w1 ⟨k,rfl,a8,J,a5⟩;have a9:Hid (aI [g] w w1):=η (aI.dL a5);obtain ⟨p1,a6⟩:∃ p1,p1=p+1:=⟨_,rfl⟩;have a1:Hid (p1≤p+1):=η (by omega);rw [← a6] at J;by_cases hk:k=0
 ·have hd:=DW g p1 w1 J (by have:=HP.out; omega)
  subst hk;clear a4 J a5 a6 a8
  go_wp2_with fail
  refine hd.mono ?_;rintro e w2 ⟨rs,v,p2,rfl,hx,hq,hI⟩;have U:=tu g p2 w2 hI.rdr (by have:=HP.out; have:=a1.out; omega);have HI:=η (ι hI (ι hx hq));obtain ⟨A0,c0,rfl⟩:=hI.shape;clear hd hx hq hI
  go_wp2_with fail
  refine U.mono ?_;rintro e w3 ⟨xs,v2,b1,p3,rfl,⟨I,y⟩,a2,a0,aa,a7,ab⟩;have HZ:Hid (Xw g p 400 w (.returned (.tuple #[.slice A0 rs.length c0,v2])) w3):=η (Qr (q1:=160) (q2:=240) a9.out HL.out HI.out.2.1 (by have:=HI.out.2.2; have:=a1.out; omega) HI.out.1 aa ab (by omega) I y a2 a0);obtain ⟨A1,c1,rfl,_,_⟩:=aj I;clear U I y a2 a0 aa a7 ab;go_wp2;go_ret2;exact HZ.out
 ·have ac:¬ ((k:Int)=0):=by omega
  have hd:=zA g p1 w1 J (by have:=HP.out; omega);clear a4 J a5 a6 a8 hk
  go_wp2_with fail
  refine hd.mono ?_;rintro e w2 ⟨rs,v,p2,rfl,hx,hq,hI⟩;have U:=oN g p2 10 w2 hI.rdr (by have:=HP.out; have:=a1.out; omega) (by omega) (by omega);have HI:=η (ι hI (ι hx hq));obtain ⟨A0,c0,rfl⟩:=hI.shape;clear hd hx hq hI
  go_wp2_with fail
  refine U.mono ?_;rintro e w3 ⟨xs,v2,p3,rfl,_,a2,a0,a7,a3⟩;obtain ⟨b1,I,y⟩:=a3.atoms;have HZ:Hid (Xw g p 400 w (.returned (.tuple #[.slice A0 rs.length c0,v2])) w3):=η (Qr (q1:=160) (q2:=240) a9.out HL.out (τ HI.out.2.1 (by omega)) (by have:=HI.out.2.2; have:=a1.out; omega) HI.out.1 a3.rdr a3.kept (by omega) I y (by omega) (fun a ha=>τ (a0 a ha) (by omega)));obtain ⟨A1,c1,rfl,_,_⟩:=aj I;clear U I y a2 a0 a7 a3;go_wp2;go_ret2;exact HZ.out
end
end Go.Proofs.YtkjinanbccloeaaGreatDoor
