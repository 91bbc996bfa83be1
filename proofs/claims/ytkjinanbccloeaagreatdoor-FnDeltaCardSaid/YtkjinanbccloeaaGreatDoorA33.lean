/- Of the proof of FnDelta: ChgI, L3Do, DrawAR. -/
import Derived.Test.YtkjinanbccloeaaGreatDoorA28
import Derived.Test.YtkjinanbccloeaaGreatDoorA29
set_option linter.unusedVariables false
set_option maxHeartbeats 4000000
set_option maxRecDepth 100000
namespace Go.Proofs.YtkjinanbccloeaaGreatDoor
open Go.RowKit D
attribute [local go_sem ↓] Go.wp_at_zero Go.wp_at_succ
def D.UZ (U:List A) (B:Nat) (w:World) (e:Ending) (w':World):Prop:=Below B w w'∧∃ v bs y,y=(if U.length≤300 then U else [])∧e=.returned (.tuple #[v,.bool (decide (U.length≤300))])∧aB w' [v] y bs
theorem BI (xs:List A) (c:Ch) (v c0 c1:Value) (bs b2:List Nat) (w:World) (h:aB w [v] xs bs) (h2:fQ w [c0,c1] c b2) (n1:xs.length≤500000) (n2:c.comes.length≤500000) (n3:c.goes.length≤500000):
  Calls Tryz.prog 76 #[v,.agg #[c0,c1]] w (UZ (dw (fZ xs c.goes) c.comes) w.heap.size w):=by
 obtain ⟨Ad,cap,rfl,hl,hm⟩:=aj h;obtain ⟨Ac,y,Ag,I,rfl,rfl⟩:=gy h2;obtain ⟨d1,d2,rfl,ht,hp⟩:=iG h2;have hA:Below w.heap.size w (w.alloc (.cells #[.slice Ac c.comes.length y,.slice Ag c.goes.length I] 54)):=ζ;have k1:=uw xs c.goes _ _ bs d2 _ (ak.below h hA.drew) (ak.below hp hA.drew) (by omega) (by omega)
 have a4:(fZ xs c.goes).length≤1000000:=by
  unfold fZ;rw [List.length_map];exact τ (List.length_filter_le _ _) (τ (qP _ xs c.goes ν) (by omega))
 have k2:=fun v' bs' w' (hb:Below w.heap.size w w') (h':aB w' [v'] (fZ xs c.goes) bs')=>RD (fZ xs c.goes) c.comes v' _ bs' d1 w' h' (ak.below ht hb) a4 (by omega)
 have x0:(w.alloc (.cells #[.slice Ac c.comes.length y,.slice Ag c.goes.length I] 54)).cell? ⟨w.heap.size,0,none⟩=some (.slice Ac c.comes.length y):=by go_simp
 have x1:(w.alloc (.cells #[.slice Ac c.comes.length y,.slice Ag c.goes.length I] 54)).cell? ⟨w.heap.size,1,none⟩=some (.slice Ag c.goes.length I):=by go_simp
 clear h hp h2 ht hl hm n1 n2 n3 a4;generalize dw (fZ xs c.goes) c.comes=U at *
 go_enter Tryz.func76,Tryz.ntmps76
 go_wp2
 go_region_held3 (fun w'=>w'.cell? ⟨w.heap.size,0,none⟩=some (.slice Ac c.comes.length y)∧w'.cell? ⟨w.heap.size,1,none⟩=some (.slice Ag c.goes.length I))
  (first | go_keep | exact ⟨x0,x1⟩)
  (first
   | (go_at_call 84; refine k1.mono ?_; rintro e w1 ⟨J,v1,b3,rfl,a1⟩; have k3:=k2 _ _ _ (hA.drew.trans (J.mono hA.drew.size)) a1; obtain ⟨A1,p1,rfl,_,_⟩:=aj a1; have B1:=hA.drew.trans (J.mono hA.drew.size); replace x0:=ξ J x0; replace x1:=ξ J x1; clear a1)
   | (go_at_call 83; refine k3.mono ?_; rintro e w2 ⟨a2,v2,b4,rfl,a3⟩; have HR:=η a3; obtain ⟨A2,p2,rfl,a5,a6⟩:=aj a3; have a8:=aA (τ a5 a6); have B2:=B1.trans (a2.mono B1.size); replace x0:=ξ a2 x0; replace x1:=ξ a2 x1; clear a3 a5 a6))
 by_cases a0:U.length≤300
 ·have a7:¬ (300:Int) < (U.length:Int):=by omega
  have HL:=η a0;clear a0;go_wp2;go_ret2;exact ⟨B2,_,b4,U,by rw [if_pos HL.out],by rw [decide_eq_true HL.out]; rfl,HR.out⟩
 ·have a7:(300:Int) < (U.length:Int):=by omega
  have HL:=η a0;clear a0;go_wp2;go_ret2;exact ⟨B2,_,[],[],by rw [if_neg HL.out],by rw [decide_eq_false HL.out]; rfl,bQ _⟩
theorem U0 (xs:List A) (c:Ch) (v c0 c1:Value) (bs b2:List Nat) (w:World) (h:aB w [v] xs bs) (h2:fQ w [c0,c1] c b2) (hs:fU xs=true) (hg:fU c.goes=true) (f1:DU xs) (f2:DU c.comes):
  Calls Tryz.prog 80 #[v,.agg #[c0,c1]] w (Reads aB (behind xs c) w.heap.size w):=by
 obtain ⟨Ad,cap,rfl,hl,hm⟩:=aj h;obtain ⟨Ac,J,Ag,a3,rfl,rfl⟩:=gy h2;obtain ⟨d1,d2,rfl,ht,hp⟩:=iG h2;have hA:Below w.heap.size w (w.alloc (.cells #[.slice Ac c.comes.length J,.slice Ag c.goes.length a3] 54)):=ζ;have k1:=wW xs c.goes _ _ bs d2 _ (ak.below h hA) (ak.below hp hA) hg (τ f1.1 (by omega)) f1.2;have HB:=η (D8 (c:=c) f1 f2);have aa:Hid ((bZ xs c.goes).length+c.comes.length≤2000000):=η (by have h1:(bZ xs c.goes).length≤xs.length:=List.length_filter_le _ _; have:=f1.1; have:=f2.1; omega);have ab:=η (xH (ys:=c.goes) hs);have HE:Hid (behind xs c=kT (bZ xs c.goes) c.comes):=η rfl;obtain ⟨_,_,_,a4,a5⟩:=aj ht;have ae:=aA (τ a4 a5);clear h hp h2 hs hg f1 f2 hl hm a4 a5;generalize bZ xs c.goes=M at *
 go_enter Tryz.func80,Tryz.ntmps80
 go_wp2_with fail
 refine k1.mono ?_;rintro e w1 ⟨a6,v1,b3,rfl,a0⟩;obtain ⟨A1,p1,rfl,_,_⟩:=aj a0;have B1:=hA.trans (a6.mono hA.size);have x0:w1.cell? ⟨w.heap.size,0,none⟩=some (.slice Ac c.comes.length J):=ξ a6 (by go_simp);have HS:=η (ι a0 (ι B1 x0));clear k1 a0 B1 x0 hA;go_wp2
 go_loopw [5,6] (fun v i wr=>∃ (k m:Nat) (Av:Option Addr) (cp:Nat) (b4:List Nat),k≤c.comes.length∧i=.int .i64 k∧v=.slice Av m cp∧m=(kT M (c.comes.take k)).length∧aB wr [.slice Av m cp] (kT M (c.comes.take k)) b4∧Below w.heap.size w wr∧wr.cell? ⟨w.heap.size,0,none⟩=some (.slice Ac c.comes.length J)) (fun _ i _=>c.comes.length - (intOf i).toNat)
 case atStart=>exact ⟨0,M.length,A1,p1,b3,ε,rfl,rfl,rfl,HS.out.1,HS.out.2.1,HS.out.2.2⟩
 case round=>
  obtain ⟨k,m,Av,cp,b4,hk,rfl,rfl,y,hR,hb,x0⟩:=hrel;clear HS;have HM:=η y;by_cases a1:k < c.comes.length
  ·have af:(0:Int)≤(k:Int):=by omega
   have ag:(k:Int) < (c.comes.length:Int):=by omega
   obtain ⟨b,o,Ae,ce,bk,rfl,_,e0,e1,a7,_⟩:=dU (ak.below ht hb) a1
   have hlen:(kT M (c.comes.take k)).length≤2000000:=by
    have h1:=sU (c.comes.take k) M;rw [List.length_take] at h1;have:=aa.out;omega
   have HT:Hid (kT M (c.comes.take (k+1))=eF (kT M (c.comes.take k)) c.comes[k]):=η (QW M c.comes k a1);have a8:=η a1;have a9:=Q9 (kT M (c.comes.take k)) c.comes[k] _ _ _ b4 bk wr hR a7 (xI ab.out) (by omega);clear y hR a7 hlen ht
   go_wp2_with fail
   refine a9.mono ?_;rintro e w2 ⟨U,v2,b5,rfl,I⟩;obtain ⟨A2,p2,rfl,_,_⟩:=aj I;have HX:=η (ι I (ι (hb.trans (U.mono hb.size)) (ξ U x0)));clear a9 I;go_wp2;go_roundw
   case rel=>exact ⟨k+1,_,A2,p2,b5,a8.out,by go_num,rfl,by rw [HT.out]; rfl,by rw [HT.out]; exact HX.out.1,HX.out.2.1,HX.out.2.2⟩
   case measure=>have:=a8.out; simp [intOf]; omega
  ·have he:k=c.comes.length:=by omega
   subst he;rw [ϕ ν] at hR;rw [← HE.out] at hR;have a2:=Ov (behind xs c) _ b4 wr (by rw [y,ϕ ν,← HE.out] at hR; exact hR) (τ HB.out.1 (by omega)) HB.out.2;rw [ϕ ν,← HE.out] at y;rw [← y] at a2;clear hR ht;have ac:=η y;clear y HM
   go_wp2_with fail
   refine a2.mono ?_;rintro e w2 ⟨U,v2,b5,rfl,I⟩;have HX:=η (ι I (hb.trans (U.mono hb.size)));obtain ⟨A2,p2,rfl,_,_⟩:=aj I;clear a2 I;go_wp2;go_ret;exact ⟨HX.out.2,_,b5,rfl,HX.out.1⟩
def D.Xj:Value→Nat
 | .slice _ n _=>n
 | _=>0
theorem D.MF {w:World}:gm w [.slice none 0 0] [] []:=⟨none,0,rfl,ν,by unfold maxLen; omega,fun _=>rfl,fun h=>absurd rfl h⟩
theorem D.BJ {w:World}:iY w [.slice none 0 0] [] []:=⟨none,0,rfl,ν,by unfold maxLen; omega,fun _=>rfl,fun h=>absurd rfl h⟩
def D.zR:Ru:=⟨⟨⟨#[122]⟩,[]⟩,[]⟩
theorem D.WO {w:World}:gY w [.string ⟨#[122]⟩,.slice none 0 0,.slice none 0 0] zR []:=⟨_,_,[],[],rfl,(show (⟨#[122]⟩:ByteArray).size≤maxLen from by decide),rfl,MF,BJ⟩
theorem D.U1:SH zR:=⟨⟨(show Sm ⟨#[122]⟩ from by decide),by simp [zR],fun t y=>by simp [zR] at y⟩,by simp [zR],fun x I=>by simp [zR] at I⟩
def D.pR:Ru:=⟨⟨⟨#[112]⟩,[⟨false,⟨#[97]⟩⟩,⟨false,⟨#[98]⟩⟩]⟩,[]⟩
theorem D.U2:SH pR:=⟨⟨(show Sm ⟨#[112]⟩ from by decide),by simp [pR],fun t y=>by
 simp only [pR,List.mem_cons,List.not_mem_nil,or_false] at y
 rcases y with rfl | rfl
 ·exact (show Sm ⟨#[97]⟩ from by decide)
 ·exact (show Sm ⟨#[98]⟩ from by decide)⟩,by simp [pR],fun x I=>by simp [pR] at I⟩
def D.qR (s:ByteArray):Ru:=⟨⟨⟨#[113]⟩,[⟨true,⟨#[88]⟩⟩]⟩,[⟨false,⟨⟨#[112]⟩,[⟨true,⟨#[88]⟩⟩]⟩⟩,⟨true,⟨s,[⟨true,⟨#[88]⟩⟩]⟩⟩]⟩
theorem D.U3 {s:ByteArray} (J:Sm s):SH (qR s):=⟨⟨(show Sm ⟨#[113]⟩ from by decide),by simp [qR],fun t y=>by simp only [qR,List.mem_cons,List.not_mem_nil,or_false] at y; subst y; decide⟩,by simp [qR],fun x I=>by
 simp only [qR,List.mem_cons,List.not_mem_nil,or_false] at I
 rcases I with rfl | rfl
 ·exact ⟨(show Sm ⟨#[112]⟩ from by decide),by simp,fun t y=>by simp only [List.mem_cons,List.not_mem_nil,or_false] at y; subst y; decide⟩
 ·exact ⟨J,by simp,fun t y=>by simp only [List.mem_cons,List.not_mem_nil,or_false] at y; subst y; decide⟩⟩
theorem Cb (g p:Nat) (w:World) (h:kJ g p w) (hp:p≤400000):
  Calls Tryz.prog 99 #[.pointer (some ⟨g,0,none⟩)] w (Uw 9 g p 150 w):=by
 obtain ⟨i0,hi,aR,b1,b2⟩:=info_parts Gq;have bu:=yO g p w h (by omega);have HP:=η hp;clear h hp
 go_enter Tryz.func99,Tryz.ntmps99
 go_wp2_with fail
 refine bu.mono ?_;rintro e w1 ⟨xs,v1,q1,rfl,bv,aw,hF⟩;obtain ⟨Av,cp,rfl⟩:=hF.shape;have HF:=η hF;have HX:Hid (xs.length≤5∧q1≤p+100):=η ⟨bv,aw⟩;have az:=pick_any g q1 20 _ HF.out.rdr (by have:=HP.out; omega) (by omega) (by omega);clear bu hF bv aw
 go_wp2_with fail
 refine az.mono ?_;rintro e y ⟨m,rfl,hm,bw,bx⟩;have I:=η (HF.out.call bw (aH.dA bx));have a3:Hid (xs.length+1≤maxLen∧(xs.length+1) * 64≤140737488355328):=η (by have:=HX.out; unfold maxLen; omega);clear az hm bw bx HF;by_cases h0:m=0
 ·subst h0
  have bz:=xZ g (q1+1) y I.out.rdr (by have:=HP.out; have:=HX.out; omega)
  go_wp2_with fail
  refine bz.mono ?_;rintro e w3 ⟨a,v3,L3,q3,rfl,bl,bA,bn,ae,b5,bB,bc⟩;obtain ⟨A3,c3,rfl⟩:=dO bn.own;have af:Below w3.heap.size w3 (w3.alloc (.cells #[.string ⟨#[101]⟩,.string ⟨#[112]⟩,.string ⟨#[113]⟩] 9)):=ζ;obtain ⟨b3,bf,aD⟩:=(bn.below bD af).slice;have bg:aJ (w3.alloc (.cells #[.string ⟨#[101]⟩,.string ⟨#[112]⟩,.string ⟨#[113]⟩] 9)) [.string a.name,.slice A3 a.args.length c3] a b3:=⟨_,rfl,Sm.max bl,bf⟩;have bo:=η ((I.out.call ae bB).below af);have bp:Hid (∀ b ∈ b3,y.heap.size≤b):=η fun b hb=>(aD b hb).resolve_right (by simp)
  have bh:g ∉ b3:=fun hg=>by have:=bp.out g hg; have:=I.out.glt; have:=I.out.kept.size; omega
  have b6:Hid (AtS a∧q3≤q1+21):=η ⟨⟨bl,bA,bc⟩,by omega⟩;have bE:=Bq g q3 [⟨#[101]⟩,⟨#[112]⟩,⟨#[113]⟩] 3 w3.heap.size _ (ae.below af) (ω w3 _) (Nat.ne_of_lt ae.lt) (by have:=HP.out; have:=HX.out; have:=b6.out.2; omega) rfl (by decide) (by decide) (by decide);have bL:=η (ι bg bh);clear bz bl bA bn ae b5 bB bc af bf aD bg bh
  go_wp2_with fail
  refine bE.mono ?_;rintro e w4 ⟨ys,v4,q4,rfl,co,bO,cq,aa⟩;obtain ⟨A4,c4,rfl⟩:=aa.shape;have bi:aJ w4 [.string a.name,.slice A3 a.args.length c3] a b3:=Good.kept au bL.out.1 aa.kept (fun b hb=>by simp; rintro rfl; exact bL.out.2 hb);obtain ⟨b4,bj,ag⟩:=aa.parts;have bR:=η (bo.out.call aa.rdr aa.kept);have am:gY w4 [.string a.name,.slice A3 a.args.length c3,.slice A4 ys.length c4] (⟨a,ys⟩:Ru) (b3 ++ b4):=⟨_,_,b3,b4,rfl,Sm.max b6.out.1.1,rfl,dI bi,bj⟩;have bX:Hid (SH ⟨a,ys⟩∧q4≤q1+46):=η ⟨⟨b6.out.1,by have:ys.length≤3:=bO; show ys.length≤8; omega,aa.small⟩,by have:=b6.out.2; omega⟩
  obtain ⟨L7,ab,a4,a0,a5,a6,a7,a8,a9⟩:=bR.out.Wx ϑ am (fun b hb=>by
   rcases μ.1 hb with hb | hb
   ·exact ⟨τ I.out.kept.size (bp.out b hb),I.out.far (bp.out b hb)⟩
   ·exact ⟨τ bo.out.kept.size (ag b hb),bo.out.far (ag b hb)⟩)
  have J:=η (ι a4 (ι a0 (ι a5 (ι a6 (ι a7 (ι a8 a9))))));clear a4 a0 a5 a6 a7 a8 a9;clear bE co bO cq aa bi bj ag am
  go_wp2_with (at_builtin; refine cO rfl _ _ _ rfl w.heap.size 40 i0 (.agg #[.string ⟨#[]⟩,.slice none 0 0,.slice none 0 0]) 3 64 Tryz.underlying23 hi aR b1 b2 rfl (by omega) aX (.slice Av xs.length cp) xs.length _ xs _ rfl J.out.1 rfl (some ⟨w4.heap.size,0,none⟩) 1 1 _ [⟨a,ys⟩] _ rfl J.out.2.2.1 rfl J.out.2.2.2.1 J.out.2.2.2.2.1 a3.out.1 a3.out.2 w4 w.heap.size J.out.2.2.2.2.2.1 ν J.out.2.2.2.2.2.2 ?_; intro A8 b7 w8 a1 a2 ao ac)
  have aq:=η (bR.out.app a1 J.out.2.1 a2 bX.out.1);clear a1 a2 ao ac J;go_wp2;go_ret;exact ⟨xs ++ [⟨a,ys⟩],_,q4,rfl,by have:=HX.out; simp; omega,by have:=HX.out; have:=bX.out.2; omega,aq.out⟩
 ·have cB:¬ (m:Int)=0:=by omega
  by_cases h1:m=1
  ·subst h1
   have c5:Hid (∃ (ys:List Ru) (A':Option Addr) (c' q:Nat),Value.slice Av xs.length cp=.slice A' ys.length c'∧ys.length≤9∧q≤p+102+ys.length∧gQ g q w ys (.slice A' ys.length c') y):=η ⟨xs,Av,cp,_,rfl,by have:=HX.out; omega,by have:=HX.out; omega,I.out⟩;clear a3
   go_wp2_with fail
   go_loopw [3] (fun v wr=>∃ (ys:List Ru) (A':Option Addr) (c' q:Nat),v=.slice A' ys.length c'∧ys.length≤9∧q≤p+102+ys.length∧gQ g q w ys (.slice A' ys.length c') wr) (fun v _=>10 - Xj v)
   case atStart=>exact c5.out
   case round=>
    clear I c5 HX;obtain ⟨ys,A',c',q,rfl,c6,hq,hI⟩:=hrel;have HI:=η hI;have ar:Hid (ys.length≤9∧q≤p+102+ys.length):=η ⟨c6,hq⟩;have az:=pick_any g q 2 _ HI.out.rdr (by have:=HP.out; have:=ar.out; omega) (by omega) (by omega);clear hI hq c6
    go_wp2_with fail
    refine az.mono ?_;rintro e w3 ⟨j2,rfl,cr,ae,c7⟩;have bq:=η (HI.out.call ae (aH.dA c7));have cD:IntKind.i64.wrap (8+(j2:Int))=8+(j2:Int):=by simp only [IntKind.wrap,IntKind.bits,IntKind.signed]; simp; omega
    have HJ:=η cr;clear az ae c7 HI;by_cases c8:ys.length < 8+j2
    ·have c9:(ys.length:Int) < 8+(j2:Int):=by omega
     have cv:=η c8;have a3:Hid (ys.length+1≤maxLen∧(ys.length+1) * 64≤140737488355328):=η (by have:=ar.out; unfold maxLen; omega);clear c8;obtain ⟨L7,ab,a4,a0,a5,a6,a7,a8,a9⟩:=bq.out.Wx ϑ WO (fun b hb=>by simp at hb);have J:=η (ι a4 (ι a0 (ι a5 (ι a6 (ι a7 (ι a8 a9))))));clear a4 a0 a5 a6 a7 a8 a9
     go_wp2_with (at_builtin; refine cO rfl _ _ _ rfl w.heap.size 40 i0 (.agg #[.string ⟨#[]⟩,.slice none 0 0,.slice none 0 0]) 3 64 Tryz.underlying23 hi aR b1 b2 rfl (by omega) aX (.slice A' ys.length c') ys.length _ ys _ rfl J.out.1 rfl (some ⟨w3.heap.size,0,none⟩) 1 1 _ [zR] _ rfl J.out.2.2.1 rfl J.out.2.2.2.1 J.out.2.2.2.2.1 a3.out.1 a3.out.2 w3 w.heap.size J.out.2.2.2.2.2.1 ν J.out.2.2.2.2.2.2 ?_; intro A8 b7 w8 a1 a2 ao ac)
     have aq:=η (bq.out.app a1 J.out.2.1 a2 U1);clear a1 a2 ao ac J;go_wp2;go_roundw
     case rel=>exact ⟨ys ++ [zR],A8,b7,q+1,by rw [χ]; rfl,by have:=cv.out; have:=HJ.out; simp; omega,by have:=ar.out; simp; omega,by rw [χ]; exact aq.out⟩
     case measure=>have:=ar.out; simp [Xj]; omega
    ·have c9:¬ (ys.length:Int) < 8+(j2:Int):=by omega
     go_wp2;go_ret;exact ⟨ys,_,q+1,rfl,ar.out.1,by have:=ar.out; omega,bq.out⟩
  ·have cE:¬ (m:Int)=1:=by omega
   by_cases h2:m=2
   ·subst h2
    obtain ⟨w5,av⟩:∃ w5,w5=(y.alloc (.cells #[.bool true,.string ⟨#[88]⟩] 91)).alloc (.cells #[.string ⟨#[113]⟩,.slice (some ⟨y.heap.size,0,none⟩) 1 1] 33):=⟨_,rfl⟩;have ca:Below y.heap.size y w5:=av ▸ (ζ).alloc (by simp) _;have cb:w5.heap.size=y.heap.size+2:=by rw [av]; simp
    have cc:w5.heap[y.heap.size]? = some (.cells #[.bool true,.string ⟨#[88]⟩] 91 (0,0)):=by rw [av]; exact (kU y _ _).1
    have b8:w5.heap[y.heap.size+1]? = some (.cells #[.string ⟨#[113]⟩,.slice (some ⟨y.heap.size,0,none⟩) 1 1] 33 (0,0)):=by rw [av]; exact (kU y _ _).2
    have cd:=η (I.out.below ca);have ce:=η (ι cc b8);have cG:=η cb
    have cg:Hid (Calls Tryz.prog 159 #[.pointer (some ⟨g,0,none⟩),.slice (some ⟨w5.heap.size,0,none⟩) 3 3] (w5.alloc (.cells #[.string ⟨#[113]⟩,.string ⟨#[114]⟩,.string ⟨#[115]⟩] 9)).drew (fun e U=>∃ (s:ByteArray) (L7:List Value) (ab:List Nat),e=.returned (.string s)∧Sm s∧U.cell? ⟨y.heap.size+1,0,none⟩=some (.string ⟨#[113]⟩)∧U.cell? ⟨y.heap.size+1,1,none⟩=some (.slice (some ⟨y.heap.size,0,none⟩) 1 1)∧U.heap[y.heap.size+1]? = some (.cells #[.string ⟨#[113]⟩,.slice (some ⟨y.heap.size,0,none⟩) 1 1] 33 (0,0))∧y.heap.size+1 < U.heap.size∧gQ g (q1+1+1) w xs (.slice Av xs.length cp) U∧
      aY 3 gY w.heap.size 40 ((U.alloc (.cells #[.bool false,.string ⟨#[112]⟩,.slice (some ⟨y.heap.size,0,none⟩) 1 1,.bool true,.string s,.slice (some ⟨y.heap.size,0,none⟩) 1 1] 42)).alloc (.cells #[.string ⟨#[113]⟩,.slice (some ⟨y.heap.size,0,none⟩) 1 1,.slice (some ⟨U.heap.size,0,none⟩) 2 2] 40)) (.slice Av xs.length cp) L7 xs ab∧(∀ b ∈ ab ++ ([y.heap.size] ++ (U.heap.size :: ([y.heap.size] ++ [y.heap.size]))),w.heap.size≤b)∧aT 3 gY ((U.alloc (.cells #[.bool false,.string ⟨#[112]⟩,.slice (some ⟨y.heap.size,0,none⟩) 1 1,.bool true,.string s,.slice (some ⟨y.heap.size,0,none⟩) 1 1] 42)).alloc (.cells #[.string ⟨#[113]⟩,.slice (some ⟨y.heap.size,0,none⟩) 1 1,.slice (some ⟨U.heap.size,0,none⟩) 2 2] 40)) [.string ⟨#[113]⟩,.slice (some ⟨y.heap.size,0,none⟩) 1 1,.slice (some ⟨U.heap.size,0,none⟩) 2 2] [qR s] ([y.heap.size] ++ (U.heap.size :: ([y.heap.size] ++ [y.heap.size])))∧
      Lies ((U.alloc (.cells #[.bool false,.string ⟨#[112]⟩,.slice (some ⟨y.heap.size,0,none⟩) 1 1,.bool true,.string s,.slice (some ⟨y.heap.size,0,none⟩) 1 1] 42)).alloc (.cells #[.string ⟨#[113]⟩,.slice (some ⟨y.heap.size,0,none⟩) 1 1,.slice (some ⟨U.heap.size,0,none⟩) 2 2] 40)) (some ⟨U.heap.size+1,0,none⟩) [.string ⟨#[113]⟩,.slice (some ⟨y.heap.size,0,none⟩) 1 1,.slice (some ⟨U.heap.size,0,none⟩) 2 2]∧(∀ b ∈ ([y.heap.size] ++ (U.heap.size :: ([y.heap.size] ++ [y.heap.size]))),(Value.slice Av xs.length cp).ownBlock ≠ some b)∧Below w.heap.size U ((U.alloc (.cells #[.bool false,.string ⟨#[112]⟩,.slice (some ⟨y.heap.size,0,none⟩) 1 1,.bool true,.string s,.slice (some ⟨y.heap.size,0,none⟩) 1 1] 42)).alloc (.cells #[.string ⟨#[113]⟩,.slice (some ⟨y.heap.size,0,none⟩) 1 1,.slice (some ⟨U.heap.size,0,none⟩) 2 2] 40))∧w.heap.size≤((U.alloc (.cells #[.bool false,.string ⟨#[112]⟩,.slice (some ⟨y.heap.size,0,none⟩) 1 1,.bool true,.string s,.slice (some ⟨y.heap.size,0,none⟩) 1 1] 42)).alloc (.cells #[.string ⟨#[113]⟩,.slice (some ⟨y.heap.size,0,none⟩) 1 1,.slice (some ⟨U.heap.size,0,none⟩) 2 2] 40)).heap.size)):=by
     refine η ((ru g (q1+1) [⟨#[113]⟩,⟨#[114]⟩,⟨#[115]⟩] 3 w5.drew cd.out.rdr (by have:=HP.out; have:=HX.out; omega) rfl (by decide) (by decide) (by decide)).mono ?_);rintro e U ⟨s,rfl,hs,cw,b9⟩;have cI:=I.out.glt;have br:w.heap.size≤y.heap.size:=I.out.kept.size;have cx:=b9.blk ce.out.1 (by simp; omega);have bt:=b9.blk ce.out.2 (by simp; omega);have aE:=cd.out.call cw ((aH.refl [g] w5).drew.trans b9);have cJ:w5.heap.size≤U.heap.size:=b9.size;have ci:Below U.heap.size U (U.alloc (.cells #[.bool false,.string ⟨#[112]⟩,.slice (some ⟨y.heap.size,0,none⟩) 1 1,.bool true,.string s,.slice (some ⟨y.heap.size,0,none⟩) 1 1] 42)):=ζ;have tA:=aP.below (uZ cx (by decide)) ci
     have aa:=zG (ω U (.cells #[.bool false,.string ⟨#[112]⟩,.slice (some ⟨y.heap.size,0,none⟩) 1 1,.bool true,.string s,.slice (some ⟨y.heap.size,0,none⟩) 1 1] 42)) (show aJ _ [.string ⟨#[112]⟩,_] ⟨⟨#[112]⟩,[⟨true,⟨#[88]⟩⟩]⟩ _ from ⟨_,rfl,(show (⟨#[112]⟩:ByteArray).size≤maxLen from by decide),tA⟩) (show aJ _ [.string s,_] ⟨s,[⟨true,⟨#[88]⟩⟩]⟩ _ from ⟨_,rfl,Sm.max hs,tA⟩);have am:gY (U.alloc (.cells #[.bool false,.string ⟨#[112]⟩,.slice (some ⟨y.heap.size,0,none⟩) 1 1,.bool true,.string s,.slice (some ⟨y.heap.size,0,none⟩) 1 1] 42)) [.string ⟨#[113]⟩,.slice (some ⟨y.heap.size,0,none⟩) 1 1,.slice (some ⟨U.heap.size,0,none⟩) 2 2] (qR s) ([y.heap.size] ++ (U.heap.size :: ([y.heap.size] ++ [y.heap.size]))):=⟨_,_,_,_,rfl,(show (⟨#[113]⟩:ByteArray).size≤maxLen from by decide),rfl,tA,aa⟩
     obtain ⟨L7,ab,a4,a0,a5,a6,a7,a8,a9⟩:=aE.Wx ci am (fun b hb=>by
      simp only [List.cons_append,List.nil_append,List.mem_cons,List.not_mem_nil,or_false] at hb
      rcases hb with rfl | rfl | rfl | rfl
      ·exact ⟨br,I.out.far ν⟩
      ·exact ⟨by omega,aE.far ν⟩
      ·exact ⟨br,I.out.far ν⟩
      ·exact ⟨br,I.out.far ν⟩)
     exact ⟨s,L7,ab,rfl,hs,ai bt,ai bt,bt,by omega,aE,a4,a0,a5,by simpa only [World.size_alloc] using a6,a7,a8,a9⟩
    have q0:=ai (o:=0) b8;have aL:=ai (o:=1) b8;simp only [List.getElem?_toArray,List.getElem?_cons_zero,List.getElem?_cons_succ] at q0 aL;have bk:y.heap.size+1 < w5.heap.size:=by omega
    clear ca cc b8 cb
    go_wp2_with fail
    rw [← av];clear av
    go_region_held3 (fun w'=>w'.cell? ⟨y.heap.size+1,0,none⟩=some (.string ⟨#[113]⟩)∧w'.cell? ⟨y.heap.size+1,1,none⟩=some (.slice (some ⟨y.heap.size,0,none⟩) 1 1)) (first | exact ⟨q0,aL⟩ | go_keep)
     (first
      | (go_at_call 159; refine cg.out.mono ?_; rintro e U ⟨s,L7,ab,rfl,hs,cj,aw,b5,ck,cl,hY⟩; have cy:=η b5; have cm:Hid (∀ b,y.heap.size≤b→(Value.slice Av xs.length cp).ownBlock ≠ some b):=η (fun b hb=>I.out.far hb); replace q0:=cj; replace aL:=aw; replace bk:=ck; have aE:=η cl; have J:=η hY; have cz:=η hs; clear cj aw ck b5 cl hY hs cg)
      | (refine aV (by rfl) (.tmp 38) (.tmp 53) _ (by rfl) w.heap.size 40 i0 (.agg #[.string ⟨#[]⟩,.slice none 0 0,.slice none 0 0]) 3 64 Tryz.underlying23 hi aR b1 b2 rfl (Θ 2) aX (.slice Av xs.length cp) xs.length L7 xs ab (by rfl) J.out.1 rfl (some ⟨U.heap.size+1,0,none⟩) 1 1 _ [qR s] _ (by rfl) J.out.2.2.1 rfl J.out.2.2.2.1 J.out.2.2.2.2.1 a3.out.1 a3.out.2 U w.heap.size J.out.2.2.2.2.2.1 ν J.out.2.2.2.2.2.2 ?_; intro A8 b7 w8 a1 a2 ao ac; have aq:=η (aE.out.app a1 J.out.2.1 a2 (U3 cz.out)); have aM:=(ac.block (y.heap.size+1) (by simp; omega) (fun e=>cm.out _ (Nat.le_succ _) e.symm)).trans ((Below.heap_alloc _ _ _ (by simp; omega)).trans ((Below.heap_alloc _ _ _ bk).trans cy.out)); replace q0:=ai (o:=0) aM; replace aL:=ai (o:=1) aM; simp only [List.getElem?_toArray,List.getElem?_cons_zero,List.getElem?_cons_succ] at q0 aL; clear aM a1 a2 ao ac))
    all_goals
     go_wp2;go_ret;exact ⟨xs ++ [qR s],_,q1+2,rfl,by have:=HX.out; simp; omega,by have:=HX.out; omega,aq.out⟩
   ·have cK:¬ (m:Int)=2:=by omega
    by_cases h3:m=3
    ·subst h3
     have af:Below y.heap.size y (y.alloc (.cells #[.bool false,.string ⟨#[97]⟩,.bool false,.string ⟨#[98]⟩] 91)):=ζ;have cn:=FP (ω y (.cells #[.bool false,.string ⟨#[97]⟩,.bool false,.string ⟨#[98]⟩] 91)) (by decide) (by decide);have am:gY (y.alloc (.cells #[.bool false,.string ⟨#[97]⟩,.bool false,.string ⟨#[98]⟩] 91)) [.string ⟨#[112]⟩,.slice (some ⟨y.heap.size,0,none⟩) 2 2,.slice none 0 0] pR ([y.heap.size] ++ []):=⟨_,_,_,_,rfl,(show (⟨#[112]⟩:ByteArray).size≤maxLen from by decide),rfl,cn,BJ⟩;have cA:=I.out.kept.size;obtain ⟨L7,ab,a4,a0,a5,a6,a7,a8,a9⟩:=I.out.arm af am (fun b hb=>by simp at hb; omega);have J:=η (ι a4 (ι a0 (ι a5 (ι a6 (ι a7 (ι a8 a9))))));clear a4 a0 a5 a6 a7 a8 a9;simp only [World.size_alloc] at J;clear af cn am cA
     go_wp2_with (at_builtin; refine cO rfl _ _ _ rfl w.heap.size 40 i0 (.agg #[.string ⟨#[]⟩,.slice none 0 0,.slice none 0 0]) 3 64 Tryz.underlying23 hi aR b1 b2 rfl (by omega) aX (.slice Av xs.length cp) xs.length _ xs _ rfl J.out.1 rfl (some ⟨y.heap.size+1,0,none⟩) 1 1 _ [pR] _ rfl J.out.2.2.1 rfl J.out.2.2.2.1 J.out.2.2.2.2.1 a3.out.1 a3.out.2 y w.heap.size J.out.2.2.2.2.2.1 ν (τ I.out.kept.size (by simp; omega)) ?_; intro A8 b7 w8 a1 a2 ao ac)
     have aq:=η (I.out.app a1 J.out.2.1 a2 U2);clear a1 a2 ao ac J;go_wp2;go_ret;exact ⟨xs ++ [pR],_,q1+1,rfl,by have:=HX.out; simp; omega,by have:=HX.out; omega,aq.out⟩
    ·have cL:¬ (m:Int)=3:=by omega
     go_wp2;go_ret;exact ⟨xs,_,q1+1,rfl,by have:=HX.out; omega,by have:=HX.out; omega,I.out⟩
end Go.Proofs.YtkjinanbccloeaaGreatDoor
