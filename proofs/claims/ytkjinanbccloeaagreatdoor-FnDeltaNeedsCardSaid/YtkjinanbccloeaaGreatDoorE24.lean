/- Of the proof of FnDeltaNeeds: ChgI, L3Do, DrawAR, Draw9, RunP. -/
import Derived.Test.YtkjinanbccloeaaGreatDoorE22
import Derived.Test.YtkjinanbccloeaaGreatDoorE23
set_option linter.unusedVariables false
set_option maxHeartbeats 4000000
set_option maxRecDepth 100000
namespace Go.Proofs.YtkjinanbccloeaaGreatDoor
section
open Go.RowKit D
attribute [local go_sem ↓] Go.wp_at_zero Go.wp_at_succ
def D.VJ (U:List A) (B:Nat) (w:World) (e:Ending) (w':World):Prop:=Below B w w'∧∃ v bs y,y=(if U.length≤300 then U else [])∧e=.returned (.tuple #[v,.bool (decide (U.length≤300))])∧aC w' [v] y bs
theorem NG (xs:List A) (c:Ch) (v c0 c1:Value) (bs b2:List Nat) (w:World) (h:aC w [v] xs bs) (h2:gK w [c0,c1] c b2) (n1:xs.length≤500000) (n2:c.comes.length≤500000) (n3:c.goes.length≤500000):
  Calls Tryz.prog 76 #[v,.agg #[c0,c1]] w (VJ (dA (gy xs c.goes) c.comes) w.heap.size w):=by
 obtain ⟨Ad,cap,rfl,hl,hm⟩:=aj h;obtain ⟨Ac,y,Ag,I,rfl,rfl⟩:=iD h2;obtain ⟨d1,d2,rfl,ht,hp⟩:=gQ h2;have hA:Below w.heap.size w (w.alloc (.cells #[.slice Ac c.comes.length y,.slice Ag c.goes.length I] 54)):=ζ;have k1:=uV xs c.goes _ _ bs d2 _ (au.below h hA.drew) (au.below hp hA.drew) (by omega) (by omega)
 have a4:(gy xs c.goes).length≤1000000:=by
  unfold gy;rw [List.length_map];exact τ (List.length_filter_le _ _) (τ (rG _ xs c.goes ν) (by omega))
 have k2:=fun v' bs' w' (hb:Below w.heap.size w w') (h':aC w' [v'] (gy xs c.goes) bs')=>Tf (gy xs c.goes) c.comes v' _ bs' d1 w' h' (au.below ht hb) a4 (by omega)
 have x0:(w.alloc (.cells #[.slice Ac c.comes.length y,.slice Ag c.goes.length I] 54)).cell? ⟨w.heap.size,0,none⟩=some (.slice Ac c.comes.length y):=by go_simp
 have x1:(w.alloc (.cells #[.slice Ac c.comes.length y,.slice Ag c.goes.length I] 54)).cell? ⟨w.heap.size,1,none⟩=some (.slice Ag c.goes.length I):=by go_simp
 clear h hp h2 ht hl hm n1 n2 n3 a4;generalize dA (gy xs c.goes) c.comes=U at *
 go_enter Tryz.func76,Tryz.ntmps76
 go_wp2
 go_region_held3 (fun w'=>w'.cell? ⟨w.heap.size,0,none⟩=some (.slice Ac c.comes.length y)∧w'.cell? ⟨w.heap.size,1,none⟩=some (.slice Ag c.goes.length I))
  (first | go_keep | exact ⟨x0,x1⟩)
  (first
   | (go_at_call 84; refine k1.mono ?_; rintro e w1 ⟨J,v1,b3,rfl,a1⟩; have k3:=k2 _ _ _ (hA.drew.trans (J.mono hA.drew.size)) a1; obtain ⟨A1,p1,rfl,_,_⟩:=aj a1; have B1:=hA.drew.trans (J.mono hA.drew.size); replace x0:=ξ J x0; replace x1:=ξ J x1; clear a1)
   | (go_at_call 83; refine k3.mono ?_; rintro e w2 ⟨a2,v2,b4,rfl,a3⟩; have HR:=η a3; obtain ⟨A2,p2,rfl,a5,a6⟩:=aj a3; have a8:=ay (τ a5 a6); have B2:=B1.trans (a2.mono B1.size); replace x0:=ξ a2 x0; replace x1:=ξ a2 x1; clear a3 a5 a6))
 by_cases a0:U.length≤300
 ·have a7:¬ (300:Int) < (U.length:Int):=by omega
  have HL:=η a0;clear a0;go_wp2;go_ret2;exact ⟨B2,_,b4,U,by rw [if_pos HL.out],by rw [decide_eq_true HL.out]; rfl,HR.out⟩
 ·have a7:(300:Int) < (U.length:Int):=by omega
  have HL:=η a0;clear a0;go_wp2;go_ret2;exact ⟨B2,_,[],[],by rw [if_neg HL.out],by rw [decide_eq_false HL.out]; rfl,dh _⟩
theorem VK (xs:List A) (c:Ch) (v c0 c1:Value) (bs b2:List Nat) (w:World) (h:aC w [v] xs bs) (h2:gK w [c0,c1] c b2) (hs:gm xs=true) (hg:gm c.goes=true) (f1:EY xs) (f2:EY c.comes):
  Calls Tryz.prog 80 #[v,.agg #[c0,c1]] w (Reads aC (behind xs c) w.heap.size w):=by
 obtain ⟨Ad,cap,rfl,hl,hm⟩:=aj h;obtain ⟨Ac,J,Ag,a3,rfl,rfl⟩:=iD h2;obtain ⟨d1,d2,rfl,ht,hp⟩:=gQ h2;have hA:Below w.heap.size w (w.alloc (.cells #[.slice Ac c.comes.length J,.slice Ag c.goes.length a3] 54)):=ζ;have k1:=xJ xs c.goes _ _ bs d2 _ (au.below h hA) (au.below hp hA) hg (τ f1.1 (by omega)) f1.2;have HB:=η (Pz (c:=c) f1 f2);have aa:Hid ((cu xs c.goes).length+c.comes.length≤2000000):=η (by have h1:(cu xs c.goes).length≤xs.length:=List.length_filter_le _ _; have:=f1.1; have:=f2.1; omega);have ab:=η (yt (ys:=c.goes) hs);have HE:Hid (behind xs c=kY (cu xs c.goes) c.comes):=η rfl;obtain ⟨_,_,_,a4,a5⟩:=aj ht;have ae:=ay (τ a4 a5);clear h hp h2 hs hg f1 f2 hl hm a4 a5;generalize cu xs c.goes=M at *
 go_enter Tryz.func80,Tryz.ntmps80
 go_wp2_with fail
 refine k1.mono ?_;rintro e w1 ⟨a6,v1,b3,rfl,a0⟩;obtain ⟨A1,p1,rfl,_,_⟩:=aj a0;have B1:=hA.trans (a6.mono hA.size);have x0:w1.cell? ⟨w.heap.size,0,none⟩=some (.slice Ac c.comes.length J):=ξ a6 (by go_simp);have HS:=η (ι a0 (ι B1 x0));clear k1 a0 B1 x0 hA;go_wp2
 go_loopw [5,6] (fun v i wr=>∃ (k m:Nat) (Av:Option Addr) (cp:Nat) (b4:List Nat),k≤c.comes.length∧i=.int .i64 k∧v=.slice Av m cp∧m=(kY M (c.comes.take k)).length∧aC wr [.slice Av m cp] (kY M (c.comes.take k)) b4∧Below w.heap.size w wr∧wr.cell? ⟨w.heap.size,0,none⟩=some (.slice Ac c.comes.length J)) (fun _ i _=>c.comes.length - (intOf i).toNat)
 case atStart=>exact ⟨0,M.length,A1,p1,b3,ε,rfl,rfl,rfl,HS.out.1,HS.out.2.1,HS.out.2.2⟩
 case round=>
  obtain ⟨k,m,Av,cp,b4,hk,rfl,rfl,y,hR,hb,x0⟩:=hrel;clear HS;have HM:=η y;by_cases a1:k < c.comes.length
  ·have af:(0:Int)≤(k:Int):=by omega
   have ag:(k:Int) < (c.comes.length:Int):=by omega
   obtain ⟨b,o,Ae,ce,bk,rfl,_,e0,e1,a7,_⟩:=dL (au.below ht hb) a1
   have hlen:(kY M (c.comes.take k)).length≤2000000:=by
    have h1:=uq (c.comes.take k) M;rw [List.length_take] at h1;have:=aa.out;omega
   have HT:Hid (kY M (c.comes.take (k+1))=eG (kY M (c.comes.take k)) c.comes[k]):=η (Sl M c.comes k a1);have a8:=η a1;have a9:=SC (kY M (c.comes.take k)) c.comes[k] _ _ _ b4 bk wr hR a7 (yu ab.out) (by omega);clear y hR a7 hlen ht
   go_wp2_with fail
   refine a9.mono ?_;rintro e w2 ⟨U,v2,b5,rfl,I⟩;obtain ⟨A2,p2,rfl,_,_⟩:=aj I;have HX:=η (ι I (ι (hb.trans (U.mono hb.size)) (ξ U x0)));clear a9 I;go_wp2;go_roundw
   case rel=>exact ⟨k+1,_,A2,p2,b5,a8.out,by go_num,rfl,by rw [HT.out]; rfl,by rw [HT.out]; exact HX.out.1,HX.out.2.1,HX.out.2.2⟩
   case measure=>have:=a8.out; simp [intOf]; omega
  ·have he:k=c.comes.length:=by omega
   subst he;rw [ϕ ν] at hR;rw [← HE.out] at hR;have a2:=Ph (behind xs c) _ b4 wr (by rw [y,ϕ ν,← HE.out] at hR; exact hR) (τ HB.out.1 (by omega)) HB.out.2;rw [ϕ ν,← HE.out] at y;rw [← y] at a2;clear hR ht;have ac:=η y;clear y HM
   go_wp2_with fail
   refine a2.mono ?_;rintro e w2 ⟨U,v2,b5,rfl,I⟩;have HX:=η (ι I (hb.trans (U.mono hb.size)));obtain ⟨A2,p2,rfl,_,_⟩:=aj I;clear a2 I;go_wp2;go_ret;exact ⟨HX.out.2,_,b5,rfl,HX.out.1⟩
def D.X8:Value→Nat
 | .slice _ n _=>n
 | _=>0
theorem D.NH {w:World}:gG w [.slice none 0 0] [] []:=⟨none,0,rfl,ν,by unfold maxLen; omega,fun _=>rfl,fun h=>absurd rfl h⟩
theorem D.Dp {w:World}:jd w [.slice none 0 0] [] []:=⟨none,0,rfl,ν,by unfold maxLen; omega,fun _=>rfl,fun h=>absurd rfl h⟩
def D.zR:Ru:=⟨⟨⟨#[122]⟩,[]⟩,[]⟩
theorem D.XI {w:World}:iy w [.string ⟨#[122]⟩,.slice none 0 0,.slice none 0 0] zR []:=⟨_,_,[],[],rfl,(show (⟨#[122]⟩:ByteArray).size≤maxLen from by decide),rfl,NH,Dp⟩
theorem D.VL:Uc zR:=⟨⟨(show Sm ⟨#[122]⟩ from by decide),by simp [zR],fun t y=>by simp [zR] at y⟩,by simp [zR],fun x I=>by simp [zR] at I⟩
def D.pR:Ru:=⟨⟨⟨#[112]⟩,[⟨false,⟨#[97]⟩⟩,⟨false,⟨#[98]⟩⟩]⟩,[]⟩
theorem D.VN:Uc pR:=⟨⟨(show Sm ⟨#[112]⟩ from by decide),by simp [pR],fun t y=>by
 simp only [pR,ύ,List.not_mem_nil,or_false] at y
 rcases y with rfl | rfl
 ·exact (show Sm ⟨#[97]⟩ from by decide)
 ·exact (show Sm ⟨#[98]⟩ from by decide)⟩,by simp [pR],fun x I=>by simp [pR] at I⟩
def D.qR (s:ByteArray):Ru:=⟨⟨⟨#[113]⟩,[⟨true,⟨#[88]⟩⟩]⟩,[⟨false,⟨⟨#[112]⟩,[⟨true,⟨#[88]⟩⟩]⟩⟩,⟨true,⟨s,[⟨true,⟨#[88]⟩⟩]⟩⟩]⟩
theorem D.VO {s:ByteArray} (J:Sm s):Uc (qR s):=⟨⟨(show Sm ⟨#[113]⟩ from by decide),by simp [qR],fun t y=>by simp only [qR,ύ,List.not_mem_nil,or_false] at y; subst y; decide⟩,by simp [qR],fun x I=>by
 simp only [qR,ύ,List.not_mem_nil,or_false] at I
 rcases I with rfl | rfl
 ·exact ⟨(show Sm ⟨#[112]⟩ from by decide),by simp,fun t y=>by simp only [ύ,List.not_mem_nil,or_false] at y; subst y; decide⟩
 ·exact ⟨J,by simp,fun t y=>by simp only [ύ,List.not_mem_nil,or_false] at y; subst y; decide⟩⟩
theorem DW (g p:Nat) (w:World) (h:kQ g p w) (hp:p≤400000):
  Calls Tryz.prog 99 #[.pointer (some ⟨g,0,none⟩)] w (Vg 9 g p 150 w):=by
 obtain ⟨i0,hi,aR,b5,b6⟩:=info_parts Iu;have bw:=zo g p w h (by omega);have HP:=η hp;clear h hp
 go_enter Tryz.func99,Tryz.ntmps99
 go_wp2_with fail
 refine bw.mono ?_;rintro e w1 ⟨xs,v1,q1,rfl,bx,aw,hF⟩;obtain ⟨Av,cp,rfl⟩:=hF.shape;have HF:=η hF;have HX:Hid (xs.length≤5∧q1≤p+100):=η ⟨bx,aw⟩;have az:=pick_any g q1 20 _ HF.out.rdr (by have:=HP.out; omega) (by omega) (by omega);clear bw hF bx aw
 go_wp2_with fail
 refine az.mono ?_;rintro e y ⟨m,rfl,hm,bz,bA⟩;have I:=η (HF.out.call bz (aI.dB bA));have a3:Hid (xs.length+1≤maxLen∧(xs.length+1) * 64≤140737488355328):=η (by have:=HX.out; unfold maxLen; omega);clear az hm bz bA HF;by_cases h0:m=0
 ·subst h0
  have bB:=yJ g (q1+1) y I.out.rdr (by have:=HP.out; have:=HX.out; omega)
  go_wp2_with fail
  refine bB.mono ?_;rintro e w3 ⟨a,v3,L3,q3,rfl,bo,bE,bp,ae,b7,bL,bg⟩;obtain ⟨A3,c3,rfl⟩:=dU bp.own;have af:Below w3.heap.size w3 (w3.alloc (.cells #[.string ⟨#[101]⟩,.string ⟨#[112]⟩,.string ⟨#[113]⟩] 9)):=ζ;obtain ⟨b3,bh,aD⟩:=(bp.below bD af).slice;have bi:aJ (w3.alloc (.cells #[.string ⟨#[101]⟩,.string ⟨#[112]⟩,.string ⟨#[113]⟩] 9)) [.string a.name,.slice A3 a.args.length c3] a b3:=⟨_,rfl,Sm.max bo,bh⟩;have bq:=η ((I.out.call ae bL).below af);have br:Hid (∀ b ∈ b3,y.heap.size≤b):=η fun b hb=>(aD b hb).resolve_right (by simp)
  have bj:g ∉ b3:=fun hg=>by have:=br.out g hg; have:=I.out.glt; have:=I.out.kept.size; omega
  have b8:Hid (AtS a∧q3≤q1+21):=η ⟨⟨bo,bE,bg⟩,by omega⟩;have bO:=Dh g q3 [⟨#[101]⟩,⟨#[112]⟩,⟨#[113]⟩] 3 w3.heap.size _ (ae.below af) (ω w3 _) (Nat.ne_of_lt ae.lt) (by have:=HP.out; have:=HX.out; have:=b8.out.2; omega) rfl (by decide) (by decide) (by decide);have bR:=η (ι bi bj);clear bB bo bE bp ae b7 bL bg af bh aD bi bj
  go_wp2_with fail
  refine bO.mono ?_;rintro e w4 ⟨ys,v4,q4,rfl,cr,bX,cv,aa⟩;obtain ⟨A4,c4,rfl⟩:=aa.shape;have bk:aJ w4 [.string a.name,.slice A3 a.args.length c3] a b3:=Good.kept ak bR.out.1 aa.kept (fun b hb=>by simp; rintro rfl; exact bR.out.2 hb);obtain ⟨b4,bl,ag⟩:=aa.parts;have c5:=η (bq.out.call aa.rdr aa.kept);have am:iy w4 [.string a.name,.slice A3 a.args.length c3,.slice A4 ys.length c4] (⟨a,ys⟩:Ru) (b3 ++ b4):=⟨_,_,b3,b4,rfl,Sm.max b8.out.1.1,rfl,dM bk,bl⟩;have c6:Hid (Uc ⟨a,ys⟩∧q4≤q1+46):=η ⟨⟨b8.out.1,by have:ys.length≤3:=bX; show ys.length≤8; omega,aa.small⟩,by have:=b8.out.2; omega⟩
  obtain ⟨L7,ab,a4,a0,a5,a6,a7,a8,a9⟩:=c5.out.Xv ϑ am (fun b hb=>by
   rcases μ.1 hb with hb | hb
   ·exact ⟨τ I.out.kept.size (br.out b hb),I.out.far (br.out b hb)⟩
   ·exact ⟨τ bq.out.kept.size (ag b hb),bq.out.far (ag b hb)⟩)
  have J:=η (ι a4 (ι a0 (ι a5 (ι a6 (ι a7 (ι a8 a9))))));clear a4 a0 a5 a6 a7 a8 a9;clear bO cr bX cv aa bk bl ag am
  go_wp2_with (at_builtin; refine bU rfl _ _ _ rfl w.heap.size 40 i0 (.agg #[.string ⟨#[]⟩,.slice none 0 0,.slice none 0 0]) 3 64 Tryz.underlying23 hi aR b5 b6 rfl (by omega) aY (.slice Av xs.length cp) xs.length _ xs _ rfl J.out.1 rfl (some ⟨w4.heap.size,0,none⟩) 1 1 _ [⟨a,ys⟩] _ rfl J.out.2.2.1 rfl J.out.2.2.2.1 J.out.2.2.2.2.1 a3.out.1 a3.out.2 w4 w.heap.size J.out.2.2.2.2.2.1 ν J.out.2.2.2.2.2.2 ?_; intro A8 b9 w8 a1 a2 ao ac)
  have aq:=η (c5.out.app a1 J.out.2.1 a2 c6.out.1);clear a1 a2 ao ac J;go_wp2;go_ret;exact ⟨xs ++ [⟨a,ys⟩],_,q4,rfl,by have:=HX.out; simp; omega,by have:=HX.out; have:=c6.out.2; omega,aq.out⟩
 ·have cE:¬ (m:Int)=0:=by omega
  by_cases h1:m=1
  ·subst h1
   have c7:Hid (∃ (ys:List Ru) (A':Option Addr) (c' q:Nat),Value.slice Av xs.length cp=.slice A' ys.length c'∧ys.length≤9∧q≤p+102+ys.length∧gZ g q w ys (.slice A' ys.length c') y):=η ⟨xs,Av,cp,_,rfl,by have:=HX.out; omega,by have:=HX.out; omega,I.out⟩;clear a3
   go_wp2_with fail
   go_loopw [3] (fun v wr=>∃ (ys:List Ru) (A':Option Addr) (c' q:Nat),v=.slice A' ys.length c'∧ys.length≤9∧q≤p+102+ys.length∧gZ g q w ys (.slice A' ys.length c') wr) (fun v _=>10 - X8 v)
   case atStart=>exact c7.out
   case round=>
    clear I c7 HX;obtain ⟨ys,A',c',q,rfl,c8,hq,hI⟩:=hrel;have HI:=η hI;have ar:Hid (ys.length≤9∧q≤p+102+ys.length):=η ⟨c8,hq⟩;have az:=pick_any g q 2 _ HI.out.rdr (by have:=HP.out; have:=ar.out; omega) (by omega) (by omega);clear hI hq c8
    go_wp2_with fail
    refine az.mono ?_;rintro e w3 ⟨j2,rfl,cw,ae,c9⟩;have bt:=η (HI.out.call ae (aI.dB c9));have cG:IntKind.i64.wrap (8+(j2:Int))=8+(j2:Int):=by simp only [IntKind.wrap,IntKind.bits,IntKind.signed]; simp; omega
    have HJ:=η cw;clear az ae c9 HI;by_cases ca:ys.length < 8+j2
    ·have cb:(ys.length:Int) < 8+(j2:Int):=by omega
     have cx:=η ca;have a3:Hid (ys.length+1≤maxLen∧(ys.length+1) * 64≤140737488355328):=η (by have:=ar.out; unfold maxLen; omega);clear ca;obtain ⟨L7,ab,a4,a0,a5,a6,a7,a8,a9⟩:=bt.out.Xv ϑ XI (fun b hb=>by simp at hb);have J:=η (ι a4 (ι a0 (ι a5 (ι a6 (ι a7 (ι a8 a9))))));clear a4 a0 a5 a6 a7 a8 a9
     go_wp2_with (at_builtin; refine bU rfl _ _ _ rfl w.heap.size 40 i0 (.agg #[.string ⟨#[]⟩,.slice none 0 0,.slice none 0 0]) 3 64 Tryz.underlying23 hi aR b5 b6 rfl (by omega) aY (.slice A' ys.length c') ys.length _ ys _ rfl J.out.1 rfl (some ⟨w3.heap.size,0,none⟩) 1 1 _ [zR] _ rfl J.out.2.2.1 rfl J.out.2.2.2.1 J.out.2.2.2.2.1 a3.out.1 a3.out.2 w3 w.heap.size J.out.2.2.2.2.2.1 ν J.out.2.2.2.2.2.2 ?_; intro A8 b9 w8 a1 a2 ao ac)
     have aq:=η (bt.out.app a1 J.out.2.1 a2 VL);clear a1 a2 ao ac J;go_wp2;go_roundw
     case rel=>exact ⟨ys ++ [zR],A8,b9,q+1,by rw [χ]; rfl,by have:=cx.out; have:=HJ.out; simp; omega,by have:=ar.out; simp; omega,by rw [χ]; exact aq.out⟩
     case measure=>have:=ar.out; simp [X8]; omega
    ·have cb:¬ (ys.length:Int) < 8+(j2:Int):=by omega
     go_wp2;go_ret;exact ⟨ys,_,q+1,rfl,ar.out.1,by have:=ar.out; omega,bt.out⟩
  ·have cI:¬ (m:Int)=1:=by omega
   by_cases h2:m=2
   ·subst h2
    obtain ⟨w5,av⟩:∃ w5,w5=(y.alloc (.cells #[.bool true,.string ⟨#[88]⟩] 91)).alloc (.cells #[.string ⟨#[113]⟩,.slice (some ⟨y.heap.size,0,none⟩) 1 1] 33):=⟨_,rfl⟩;have cc:Below y.heap.size y w5:=av ▸ (ζ).alloc (by simp) _;have cd:w5.heap.size=y.heap.size+2:=by rw [av]; simp
    have ce:w5.heap[y.heap.size]? = some (.cells #[.bool true,.string ⟨#[88]⟩] 91 (0,0)):=by rw [av]; exact (kZ y _ _).1
    have bc:w5.heap[y.heap.size+1]? = some (.cells #[.string ⟨#[113]⟩,.slice (some ⟨y.heap.size,0,none⟩) 1 1] 33 (0,0)):=by rw [av]; exact (kZ y _ _).2
    have cg:=η (I.out.below cc);have ci:=η (ι ce bc);have cJ:=η cd
    have cj:Hid (Calls Tryz.prog 159 #[.pointer (some ⟨g,0,none⟩),.slice (some ⟨w5.heap.size,0,none⟩) 3 3] (w5.alloc (.cells #[.string ⟨#[113]⟩,.string ⟨#[114]⟩,.string ⟨#[115]⟩] 9)).drew (fun e U=>∃ (s:ByteArray) (L7:List Value) (ab:List Nat),e=.returned (.string s)∧Sm s∧U.cell? ⟨y.heap.size+1,0,none⟩=some (.string ⟨#[113]⟩)∧U.cell? ⟨y.heap.size+1,1,none⟩=some (.slice (some ⟨y.heap.size,0,none⟩) 1 1)∧U.heap[y.heap.size+1]? = some (.cells #[.string ⟨#[113]⟩,.slice (some ⟨y.heap.size,0,none⟩) 1 1] 33 (0,0))∧y.heap.size+1 < U.heap.size∧gZ g (q1+1+1) w xs (.slice Av xs.length cp) U∧
      aX 3 iy w.heap.size 40 ((U.alloc (.cells #[.bool false,.string ⟨#[112]⟩,.slice (some ⟨y.heap.size,0,none⟩) 1 1,.bool true,.string s,.slice (some ⟨y.heap.size,0,none⟩) 1 1] 42)).alloc (.cells #[.string ⟨#[113]⟩,.slice (some ⟨y.heap.size,0,none⟩) 1 1,.slice (some ⟨U.heap.size,0,none⟩) 2 2] 40)) (.slice Av xs.length cp) L7 xs ab∧(∀ b ∈ ab ++ ([y.heap.size] ++ (U.heap.size :: ([y.heap.size] ++ [y.heap.size]))),w.heap.size≤b)∧aT 3 iy ((U.alloc (.cells #[.bool false,.string ⟨#[112]⟩,.slice (some ⟨y.heap.size,0,none⟩) 1 1,.bool true,.string s,.slice (some ⟨y.heap.size,0,none⟩) 1 1] 42)).alloc (.cells #[.string ⟨#[113]⟩,.slice (some ⟨y.heap.size,0,none⟩) 1 1,.slice (some ⟨U.heap.size,0,none⟩) 2 2] 40)) [.string ⟨#[113]⟩,.slice (some ⟨y.heap.size,0,none⟩) 1 1,.slice (some ⟨U.heap.size,0,none⟩) 2 2] [qR s] ([y.heap.size] ++ (U.heap.size :: ([y.heap.size] ++ [y.heap.size])))∧
      Lies ((U.alloc (.cells #[.bool false,.string ⟨#[112]⟩,.slice (some ⟨y.heap.size,0,none⟩) 1 1,.bool true,.string s,.slice (some ⟨y.heap.size,0,none⟩) 1 1] 42)).alloc (.cells #[.string ⟨#[113]⟩,.slice (some ⟨y.heap.size,0,none⟩) 1 1,.slice (some ⟨U.heap.size,0,none⟩) 2 2] 40)) (some ⟨U.heap.size+1,0,none⟩) [.string ⟨#[113]⟩,.slice (some ⟨y.heap.size,0,none⟩) 1 1,.slice (some ⟨U.heap.size,0,none⟩) 2 2]∧(∀ b ∈ ([y.heap.size] ++ (U.heap.size :: ([y.heap.size] ++ [y.heap.size]))),(Value.slice Av xs.length cp).ownBlock ≠ some b)∧Below w.heap.size U ((U.alloc (.cells #[.bool false,.string ⟨#[112]⟩,.slice (some ⟨y.heap.size,0,none⟩) 1 1,.bool true,.string s,.slice (some ⟨y.heap.size,0,none⟩) 1 1] 42)).alloc (.cells #[.string ⟨#[113]⟩,.slice (some ⟨y.heap.size,0,none⟩) 1 1,.slice (some ⟨U.heap.size,0,none⟩) 2 2] 40))∧w.heap.size≤((U.alloc (.cells #[.bool false,.string ⟨#[112]⟩,.slice (some ⟨y.heap.size,0,none⟩) 1 1,.bool true,.string s,.slice (some ⟨y.heap.size,0,none⟩) 1 1] 42)).alloc (.cells #[.string ⟨#[113]⟩,.slice (some ⟨y.heap.size,0,none⟩) 1 1,.slice (some ⟨U.heap.size,0,none⟩) 2 2] 40)).heap.size)):=by
     refine η ((rY g (q1+1) [⟨#[113]⟩,⟨#[114]⟩,⟨#[115]⟩] 3 w5.drew cg.out.rdr (by have:=HP.out; have:=HX.out; omega) rfl (by decide) (by decide) (by decide)).mono ?_);rintro e U ⟨s,rfl,hs,cy,bf⟩;have cK:=I.out.glt;have bu:w.heap.size≤y.heap.size:=I.out.kept.size;have cz:=bf.blk ci.out.1 (by simp; omega);have bv:=bf.blk ci.out.2 (by simp; omega);have aE:=cg.out.call cy ((aI.refl [g] w5).drew.trans bf);have cL:w5.heap.size≤U.heap.size:=bf.size;have ck:Below U.heap.size U (U.alloc (.cells #[.bool false,.string ⟨#[112]⟩,.slice (some ⟨y.heap.size,0,none⟩) 1 1,.bool true,.string s,.slice (some ⟨y.heap.size,0,none⟩) 1 1] 42)):=ζ;have tA:=aQ.below (vV cz (by decide)) ck
     have aa:=Bl (ω U (.cells #[.bool false,.string ⟨#[112]⟩,.slice (some ⟨y.heap.size,0,none⟩) 1 1,.bool true,.string s,.slice (some ⟨y.heap.size,0,none⟩) 1 1] 42)) (show aJ _ [.string ⟨#[112]⟩,_] ⟨⟨#[112]⟩,[⟨true,⟨#[88]⟩⟩]⟩ _ from ⟨_,rfl,(show (⟨#[112]⟩:ByteArray).size≤maxLen from by decide),tA⟩) (show aJ _ [.string s,_] ⟨s,[⟨true,⟨#[88]⟩⟩]⟩ _ from ⟨_,rfl,Sm.max hs,tA⟩);have am:iy (U.alloc (.cells #[.bool false,.string ⟨#[112]⟩,.slice (some ⟨y.heap.size,0,none⟩) 1 1,.bool true,.string s,.slice (some ⟨y.heap.size,0,none⟩) 1 1] 42)) [.string ⟨#[113]⟩,.slice (some ⟨y.heap.size,0,none⟩) 1 1,.slice (some ⟨U.heap.size,0,none⟩) 2 2] (qR s) ([y.heap.size] ++ (U.heap.size :: ([y.heap.size] ++ [y.heap.size]))):=⟨_,_,_,_,rfl,(show (⟨#[113]⟩:ByteArray).size≤maxLen from by decide),rfl,tA,aa⟩
     obtain ⟨L7,ab,a4,a0,a5,a6,a7,a8,a9⟩:=aE.Xv ck am (fun b hb=>by
      simp only [List.cons_append,List.nil_append,ύ,List.not_mem_nil,or_false] at hb
      rcases hb with rfl | rfl | rfl | rfl
      ·exact ⟨bu,I.out.far ν⟩
      ·exact ⟨by omega,aE.far ν⟩
      ·exact ⟨bu,I.out.far ν⟩
      ·exact ⟨bu,I.out.far ν⟩)
     exact ⟨s,L7,ab,rfl,hs,ai bv,ai bv,bv,by omega,aE,a4,a0,a5,by simpa only [World.size_alloc] using a6,a7,a8,a9⟩
    have q0:=ai (o:=0) bc;have aL:=ai (o:=1) bc;simp only [List.getElem?_toArray,List.getElem?_cons_zero,List.getElem?_cons_succ] at q0 aL;have bn:y.heap.size+1 < w5.heap.size:=by omega
    clear cc ce bc cd
    go_wp2_with fail
    rw [← av];clear av
    go_region_held3 (fun w'=>w'.cell? ⟨y.heap.size+1,0,none⟩=some (.string ⟨#[113]⟩)∧w'.cell? ⟨y.heap.size+1,1,none⟩=some (.slice (some ⟨y.heap.size,0,none⟩) 1 1)) (first | exact ⟨q0,aL⟩ | go_keep)
     (first
      | (go_at_call 159; refine cj.out.mono ?_; rintro e U ⟨s,L7,ab,rfl,hs,cl,aw,b7,cm,cn,hY⟩; have cA:=η b7; have co:Hid (∀ b,y.heap.size≤b→(Value.slice Av xs.length cp).ownBlock ≠ some b):=η (fun b hb=>I.out.far hb); replace q0:=cl; replace aL:=aw; replace bn:=cm; have aE:=η cn; have J:=η hY; have cB:=η hs; clear cl aw cm b7 cn hY hs cj)
      | (refine aV (by rfl) (.tmp 38) (.tmp 53) _ (by rfl) w.heap.size 40 i0 (.agg #[.string ⟨#[]⟩,.slice none 0 0,.slice none 0 0]) 3 64 Tryz.underlying23 hi aR b5 b6 rfl (Θ 2) aY (.slice Av xs.length cp) xs.length L7 xs ab (by rfl) J.out.1 rfl (some ⟨U.heap.size+1,0,none⟩) 1 1 _ [qR s] _ (by rfl) J.out.2.2.1 rfl J.out.2.2.2.1 J.out.2.2.2.2.1 a3.out.1 a3.out.2 U w.heap.size J.out.2.2.2.2.2.1 ν J.out.2.2.2.2.2.2 ?_; intro A8 b9 w8 a1 a2 ao ac; have aq:=η (aE.out.app a1 J.out.2.1 a2 (VO cB.out)); have aM:=(ac.block (y.heap.size+1) (by simp; omega) (fun e=>co.out _ (Nat.le_succ _) e.symm)).trans ((Below.heap_alloc _ _ _ (by simp; omega)).trans ((Below.heap_alloc _ _ _ bn).trans cA.out)); replace q0:=ai (o:=0) aM; replace aL:=ai (o:=1) aM; simp only [List.getElem?_toArray,List.getElem?_cons_zero,List.getElem?_cons_succ] at q0 aL; clear aM a1 a2 ao ac))
    all_goals
     go_wp2;go_ret;exact ⟨xs ++ [qR s],_,q1+2,rfl,by have:=HX.out; simp; omega,by have:=HX.out; omega,aq.out⟩
   ·have cP:¬ (m:Int)=2:=by omega
    by_cases h3:m=3
    ·subst h3
     have af:Below y.heap.size y (y.alloc (.cells #[.bool false,.string ⟨#[97]⟩,.bool false,.string ⟨#[98]⟩] 91)):=ζ;have cq:=Hg (ω y (.cells #[.bool false,.string ⟨#[97]⟩,.bool false,.string ⟨#[98]⟩] 91)) (by decide) (by decide);have am:iy (y.alloc (.cells #[.bool false,.string ⟨#[97]⟩,.bool false,.string ⟨#[98]⟩] 91)) [.string ⟨#[112]⟩,.slice (some ⟨y.heap.size,0,none⟩) 2 2,.slice none 0 0] pR ([y.heap.size] ++ []):=⟨_,_,_,_,rfl,(show (⟨#[112]⟩:ByteArray).size≤maxLen from by decide),rfl,cq,Dp⟩;have cD:=I.out.kept.size;obtain ⟨L7,ab,a4,a0,a5,a6,a7,a8,a9⟩:=I.out.arm af am (fun b hb=>by simp at hb; omega);have J:=η (ι a4 (ι a0 (ι a5 (ι a6 (ι a7 (ι a8 a9))))));clear a4 a0 a5 a6 a7 a8 a9;simp only [World.size_alloc] at J;clear af cq am cD
     go_wp2_with (at_builtin; refine bU rfl _ _ _ rfl w.heap.size 40 i0 (.agg #[.string ⟨#[]⟩,.slice none 0 0,.slice none 0 0]) 3 64 Tryz.underlying23 hi aR b5 b6 rfl (by omega) aY (.slice Av xs.length cp) xs.length _ xs _ rfl J.out.1 rfl (some ⟨y.heap.size+1,0,none⟩) 1 1 _ [pR] _ rfl J.out.2.2.1 rfl J.out.2.2.2.1 J.out.2.2.2.2.1 a3.out.1 a3.out.2 y w.heap.size J.out.2.2.2.2.2.1 ν (τ I.out.kept.size (by simp; omega)) ?_; intro A8 b9 w8 a1 a2 ao ac)
     have aq:=η (I.out.app a1 J.out.2.1 a2 VN);clear a1 a2 ao ac J;go_wp2;go_ret;exact ⟨xs ++ [pR],_,q1+1,rfl,by have:=HX.out; simp; omega,by have:=HX.out; omega,aq.out⟩
    ·have cQ:¬ (m:Int)=3:=by omega
     go_wp2;go_ret;exact ⟨xs,_,q1+1,rfl,by have:=HX.out; omega,by have:=HX.out; omega,I.out⟩
theorem D.iT {w:World} {n0:Nat} {A B:Option Addr} {l c I J:Nat} {t:TypeId} (h:w.heap[n0]? = some (.cells #[.slice A l c,.slice B I J] t (0,0))):Rz w n0:=fun o u y=>by
 rw [ai h] at y
 match o with
 | 0=>simp at y; subst y; exact ⟨fun s=>by simp,fun b=>by simp⟩
 | 1=>simp at y; subst y; exact ⟨fun s=>by simp,fun b=>by simp⟩
 | o+2=>simp at y
theorem D.fH {w:World} {n0:Nat} {o:Nat} {u v:Value} {xs:List A} {bs:List Nat} (h:aC w [v] xs bs) (hn:n0 ∉ bs):aC (w.setCell ⟨n0,o,none⟩ u) [v] xs bs:=
 au.keep h fun b hb=>π _ _ _ _ (by intro e; have y:b=n0:=e; exact hn (y ▸ hb))
def Y3 (g p q:Nat) (w:World) (e:Ending) (w':World):Prop:=
 ∃ (c:Ch) (A1 A2:Option Addr) (c1 c2:Nat) (L:List Value) (b1 b2:List Nat) (y:Nat),e=.returned (.agg #[.slice A1 c.comes.length c1,.slice A2 c.goes.length c2])∧aC w' [.slice A1 c.comes.length c1] c.comes b1∧
  aX 2 aJ w.heap.size 33 w' (.slice A2 c.goes.length c2) L c.goes b2∧(∀ b ∈ b1,(Value.slice A2 c.goes.length c2).ownBlock ≠ some b)∧(c.comes.length≤50∧c.goes.length≤5∧(∀ a ∈ c.comes,a.args.length≤4)∧∀ a ∈ c.goes,a.args.length≤4)∧
  kQ g y w'∧y≤p+q∧aI [g] w w'
theorem Gx (g p:Nat) (w:World) (h:kQ g p w) (hp:p≤600000):
  Calls Tryz.prog 138 #[.pointer (some ⟨g,0,none⟩)] w (Y3 g p 80 w):=by
 have hA:Below w.heap.size w (w.alloc (.cells #[.slice none 0 0,.slice none 0 0] 54)):=ζ;have I:=η (ω w (.cells #[.slice none 0 0,.slice none 0 0] 54));have HL:=η h.lt;have k1:=oL g p 5 _ (h.below hA) (by omega) (by omega) (by omega);have HA:=η hA;have HP:=η hp;clear h hA hp
 go_enter Tryz.func138,Tryz.ntmps138
 go_wp2_with fail
 refine k1.mono ?_;rintro e w1 ⟨xs,v1,p1,rfl,am,a1,a7,ao,y⟩;obtain ⟨A1,c1,rfl⟩:=y.shape;obtain ⟨b1,a2,a9⟩:=y.atoms;have aq:Hid (∀ n0,n0=w.heap.size→n0 ∉ [g]):=η (fun n0 e=>by have:=HL.out; simp; omega);replace I:=η (y.kept.blk I.out (aq.out _ rfl));have ar:=η ((aI.of_below HA.out).trans y.kept);have b6:=η y.rdr;have a0:=η a2;have aL:=η (dH y.rdr.Gh a2);have a6:=η (ι am (ι a1 (ι a7 ao)));have k2:=oL g p1 5 w1 y.rdr (by have:=HP.out; omega) (by omega) (by omega);clear k1 y a2 a9 am a1 a7 ao
 go_wp2_with fail
 refine k2.mono ?_;rintro e w2 ⟨ys,v2,p2,rfl,aM,a3,a4,av,J⟩;obtain ⟨A2,c2,rfl⟩:=J.shape;obtain ⟨b2,a8,aa⟩:=J.atoms;replace I:=η (J.kept.blk I.out (aq.out _ rfl));replace a0:=η (Good.kept au a0.out J.kept (fun b hb=>by simp; intro e; exact aL.out (e ▸ hb)));have aw:=η (ar.out.trans J.kept);have aR:=η J.rdr;have ab:Hid (ys.length≤5∧(∀ a ∈ ys,a.args.length≤3)∧p2≤p1+40):=η ⟨a3,a4,av⟩;have k3:=Fe ys xs _ _ b2 b1 w2 a8 a0.out a6.out.1 (by omega) (fun a ha=>by have:=a4 a ha; omega);clear k2 J a8 aa aM a3 a4 av
 go_wp2_with fail
 refine k3.mono ?_;rintro e w3 ⟨a5,v3,L3,b3,rfl,U,ac⟩;obtain ⟨A3,c3,rfl⟩:=dU U.own;replace I:=η ((a5.block _ (ψ I.out)).trans I.out);have b4:=η (au.lt a0.out);have b7:=η ar.out.size;have az:=η aw.out.size;have ae:w.heap.size ∉ b1:=dH (iT (I.out)) (au.below a0.out a5);have af:w.heap.size ∉ b3:=uU (iT (I.out)) U.row;have a1:=fH (o:=0) (u:=.slice A1 xs.length c1) (au.below a0.out a5) ae;have a3:=fH (o:=1) (u:=.slice A3 (cu ys xs).length c3) a1 ae;have z1:=qJ (u:=.slice A1 xs.length c1) I.out;have aD:=U.l9 (o:=0) (u:=.slice A1 xs.length c1) ak (gV U.own I.out (by decide)) af;have aE:=aD.l9 (o:=1) (u:=.slice A3 (cu ys xs).length c3) ak (gV U.own I.out (by decide)) af;have ag:Below w.heap.size w3 ((w3.setCell ⟨w.heap.size,0,none⟩ (.slice A1 xs.length c1)).setCell ⟨w.heap.size,1,none⟩ (.slice A3 (cu ys xs).length c3)):=((Below.refl w.heap.size w3).setCell (p:=⟨w.heap.size,0,none⟩) ν _).setCell (p:=⟨w.heap.size,1,none⟩) ν _
 have HD:Hid (Y3 g p 80 w (.returned (.agg #[.slice A1 xs.length c1,.slice A3 (cu ys xs).length c3])) ((w3.setCell ⟨w.heap.size,0,none⟩ (.slice A1 xs.length c1)).setCell ⟨w.heap.size,1,none⟩ (.slice A3 (cu ys xs).length c3))):=η
  ⟨⟨xs,cu ys xs⟩,A1,A3,c1,c3,L3,b1,b3,p2,rfl,a3,aE.mono az.out,fun b hb=>aO U.own (b4.out b hb),⟨by have:=a6.out.2.1; dsimp only; omega,by have:=ab.out.1; have h9:(cu ys xs).length≤ys.length:=List.length_filter_le _ _; dsimp only; omega,fun a ha=>by have:=a6.out.2.2.1 a ha; omega,fun a ha=>by have:=ab.out.2.1 a (qI ha); omega⟩,
   ((aR.out.below a5).eP ag HL.out),by have:=a6.out.2.2.2; have:=ab.out.2.2; omega,(aw.out.eP a5 az.out).eP ag ν⟩
 have z0:w3.cell? ⟨w.heap.size,0,none⟩=some (.slice none 0 0):=ai I.out;have b5:w3.cell? ⟨w.heap.size,1,none⟩=some (.slice none 0 0):=ai I.out;have f0:w3.frozen? ⟨w.heap.size,0,none⟩=false:=ax I.out;have f1:w3.frozen? ⟨w.heap.size,1,none⟩=false:=ax I.out;clear k3 U ac a1 a3 aD aE ae af z1 ag;go_wp2;refine bodyPost_ret (v:=.agg #[.slice A1 xs.length c1,.slice A3 (cu ys xs).length c3]) (by simp [results,Tryz.results138,go_sem,z0,b5]) rfl HD.out
structure tY (g p:Nat) (w:World) (n0 n1:Nat) (c:Ch) (A1 A2:Option Addr) (c1 c2:Nat) (L:List Value) (b1 b2:List Nat) (wr:World):Prop where
 r0:wr.heap[n0]? = some (.cells #[.slice none 0 0,.slice none 0 0] 54 (0,0))
 r1:wr.heap[n1]? = some (.cells #[.slice A1 c.comes.length c1,.slice A2 c.goes.length c2] 54 (0,0))
 h0:w.heap.size≤n0
 h1:w.heap.size≤n1
 ne:n0 ≠ n1
 at1:aC wr [.slice A1 c.comes.length c1] c.comes b1
 coll:aX 2 aJ w.heap.size 33 wr (.slice A2 c.goes.length c2) L c.goes b2
 dif:∀ b ∈ b1,(Value.slice A2 c.goes.length c2).ownBlock ≠ some b
 rdr:kQ g p wr
 kept:aI [g] w wr
 glt:g < w.heap.size
structure Gy (g p:Nat) (w:World) (n0 n1:Nat) (c:Ch) (A1 A2:Option Addr) (c1 c2:Nat) (b1 b2:List Nat) (wr:World):Prop where
 r0:wr.heap[n0]? = some (.cells #[.slice none 0 0,.slice none 0 0] 54 (0,0))
 r1:wr.heap[n1]? = some (.cells #[.slice A1 c.comes.length c1,.slice A2 c.goes.length c2] 54 (0,0))
 h0:w.heap.size≤n0
 h1:w.heap.size≤n1
 ne:n0 ≠ n1
 at1:aC wr [.slice A1 c.comes.length c1] c.comes b1
 at2:aC wr [.slice A2 c.goes.length c2] c.goes b2
 rdr:kQ g p wr
 kept:aI [g] w wr
 glt:g < w.heap.size
def VP (g p q:Nat) (w:World) (e:Ending) (w':World):Prop:=
 ∃ (c:Ch) (A1 A2:Option Addr) (c1 c2:Nat) (b1 b2:List Nat) (y:Nat),e=.returned (.agg #[.slice A1 c.comes.length c1,.slice A2 c.goes.length c2])∧aC w' [.slice A1 c.comes.length c1] c.comes b1∧aC w' [.slice A2 c.goes.length c2] c.goes b2∧
  (c.comes.length≤50∧c.goes.length≤6∧(∀ a ∈ c.comes,a.args.length≤4)∧∀ a ∈ c.goes,a.args.length≤4)∧kQ g y w'∧y≤p+q∧aI [g] w w'
section
variable {g p:Nat} {w:World} {n0 n1:Nat} {c:Ch} {A1 A2:Option Addr} {c1 c2:Nat} {L:List Value} {b1 b2:List Nat} {wr:World}
theorem tY.call {p2:Nat} {y:World} (h:tY g p w n0 n1 c A1 A2 c1 c2 L b1 b2 wr) (J:kQ g p2 y) (hK:aI [g] wr y):tY g p2 w n0 n1 c A1 A2 c1 c2 L b1 b2 y:=by
 have I:=h.glt; have h0:=h.h0; have h1:=h.h1
 have ha:=dH h.rdr.Gh h.at1;exact ⟨hK.blk h.r0 (by simp; omega),hK.blk h.r1 (by simp; omega),h0,h1,h.ne,Good.kept au h.at1 hK (fun b hb=>by simp; intro e; exact ha (e ▸ hb)),h.coll.KG ak hK I (uU h.rdr.Gh h.coll.row),h.dif,J,h.kept.trans hK,I⟩
theorem tY.drew (h:tY g p w n0 n1 c A1 A2 c1 c2 L b1 b2 wr):tY g p w n0 n1 c A1 A2 c1 c2 L b1 b2 wr.drew:=
 ⟨h.r0,h.r1,h.h0,h.h1,h.ne,au.keep h.at1 fun _ _=>rfl,⟨h.coll.own,h.coll.row.keep ak fun _ _=>rfl,h.coll.far⟩,h.dif,h.rdr.drew,h.kept.drew,h.glt⟩
theorem tY.alloc (h:tY g p w n0 n1 c A1 A2 c1 c2 L b1 b2 wr) (o:Obj):tY g p w n0 n1 c A1 A2 c1 c2 L b1 b2 (wr.alloc o):=by
 have y:Below wr.heap.size wr (wr.alloc o):=ζ;exact ⟨(y.block n0 (ψ h.r0)).trans h.r0,(y.block n1 (ψ h.r1)).trans h.r1,h.h0,h.h1,h.ne,au.below h.at1 y,h.coll.below ak y,h.dif,h.rdr.below y,h.kept.eP y h.kept.size,h.glt⟩
theorem tY.Zh (h:tY g p w n0 n1 c A1 A2 c1 c2 L b1 b2 wr):∃ y,Gy g p w n0 n1 c A1 A2 c1 c2 b1 y wr:=by
 obtain ⟨y,I,_⟩:=h.coll.slice;exact ⟨y,h.r0,h.r1,h.h0,h.h1,h.ne,h.at1,I,h.rdr,h.kept,h.glt⟩
theorem tY.cells (h:tY g p w n0 n1 c A1 A2 c1 c2 L b1 b2 wr):wr.cell? ⟨n1,0,none⟩=some (.slice A1 c.comes.length c1)∧wr.cell? ⟨n1,1,none⟩=some (.slice A2 c.goes.length c2)∧wr.frozen? ⟨n1,1,none⟩=false:=⟨ai h.r1,ai h.r1,ax h.r1⟩
theorem tY.lit {a:A} {y:Option Addr} {I:Nat} {J:List Nat} (h:tY g p w n0 n1 c A1 A2 c1 c2 L b1 b2 wr) (ha:aJ wr [.string a.name,.slice y a.args.length I] a J) (hb:∀ b ∈ J,(Value.slice A2 c.goes.length c2).ownBlock ≠ some b):
  aX 2 aJ w.heap.size 33 (wr.alloc (.cells #[.string a.name,.slice y a.args.length I] 33)) (.slice A2 c.goes.length c2) L c.goes b2∧aT 2 aJ (wr.alloc (.cells #[.string a.name,.slice y a.args.length I] 33)) [.string a.name,.slice y a.args.length I] [a] J∧
   Lies (wr.alloc (.cells #[.string a.name,.slice y a.args.length I] 33)) (some ⟨wr.heap.size,0,none⟩) [.string a.name,.slice y a.args.length I]∧Below w.heap.size wr (wr.alloc (.cells #[.string a.name,.slice y a.args.length I] 33))∧w.heap.size≤(wr.alloc (.cells #[.string a.name,.slice y a.args.length I] 33)).heap.size:=by
 have U:=h.alloc (.cells #[.string a.name,.slice y a.args.length I] 33);have hA:Below wr.heap.size wr (wr.alloc (.cells #[.string a.name,.slice y a.args.length I] 33)):=ζ;exact ⟨U.coll,aT.dJ eH (ak.below ha hA),aP (ω wr _),ϑ.alloc h.kept.size _,U.kept.size⟩
theorem tY.app {J:World} {o:Obj} {A3:Option Addr} {k3 c3:Nat} {L3:List Value} {U:List A} {b3:List Nat} (h:tY g p w n0 n1 c A1 A2 c1 c2 L b1 b2 wr) (hC:aX 2 aJ w.heap.size 33 J (.slice A3 k3 c3) L3 U b3) (hk:k3=U.length) (hB:Below w.heap.size wr J) (hG:(wr.alloc o).grownBy J (Value.slice A2 c.goes.length c2).ownBlock):
  J.cell? ⟨n1,0,none⟩=some (.slice A1 c.comes.length c1)∧J.cell? ⟨n1,1,none⟩=some (.slice A2 c.goes.length c2)∧J.frozen? ⟨n1,1,none⟩=false∧∃ b4,Gy g p w n0 n1 ⟨c.comes,U⟩ A1 A3 c1 c3 b1 b4 (J.setCell ⟨n1,1,none⟩ (.slice A3 k3 c3)):=by
 subst hk;have I:=h.alloc o;have b0:=(hG.block n0 (ψ I.r0) (gV I.coll.own I.r0 (by decide)).symm).trans I.r0;have y:=(hG.block n1 (ψ I.r1) (gV I.coll.own I.r1 (by decide)).symm).trans I.r1;have ha:aC J [.slice A1 c.comes.length c1] c.comes b1:=au.keep I.at1 fun b hb=>hG.block b (au.lt I.at1 b hb) (I.dif b hb).symm
 obtain ⟨b4,hs,_⟩:=hC.slice;refine ⟨ai y,ai y,ax y,b4,(π _ _ _ _ h.ne).trans b0,vO y,h.h0,h.h1,h.ne,fH ha (dH (iT y) ha),fH hs (dH (iT y) hs),?_,(h.kept.eP hB ν).zK h.h1 _,h.glt⟩;exact (h.rdr.eP hB h.glt).eP ((Below.refl w.heap.size J).setCell h.h1 _) h.glt
theorem Gy.call {p2:Nat} {y:World} (h:Gy g p w n0 n1 c A1 A2 c1 c2 b1 b2 wr) (J:kQ g p2 y) (hK:aI [g] wr y):Gy g p2 w n0 n1 c A1 A2 c1 c2 b1 b2 y:=by
 have U:=h.glt; have h0:=h.h0; have h1:=h.h1
 have ha:=dH h.rdr.Gh h.at1;have I:=dH h.rdr.Gh h.at2;exact ⟨hK.blk h.r0 (by simp; omega),hK.blk h.r1 (by simp; omega),h0,h1,h.ne,Good.kept au h.at1 hK (fun b hb=>by simp; intro e; exact ha (e ▸ hb)),Good.kept au h.at2 hK (fun b hb=>by simp; intro e; exact I (e ▸ hb)),J,h.kept.trans hK,U⟩
theorem Gy.comes {xs:List A} {y:Option Addr} {I:Nat} {J:List Nat} (h:Gy g p w n0 n1 c A1 A2 c1 c2 b1 b2 wr) (ha:aC wr [.slice y xs.length I] xs J):Gy g p w n0 n1 ⟨xs,c.goes⟩ y A2 I c2 J b2 (wr.setCell ⟨n1,0,none⟩ (.slice y xs.length I)):=
 ⟨(π _ _ _ _ h.ne).trans h.r0,qJ h.r1,h.h0,h.h1,h.ne,fH ha (dH (iT h.r1) ha),fH h.at2 (dH (iT h.r1) h.at2),h.rdr.eP ((Below.refl w.heap.size wr).setCell h.h1 _) h.glt,h.kept.zK h.h1 _,h.glt⟩
theorem Gy.done {q p0:Nat} (h:Gy g p w n0 n1 c A1 A2 c1 c2 b1 b2 wr) (J:c.comes.length≤50∧c.goes.length≤6∧(∀ a ∈ c.comes,a.args.length≤4)∧∀ a ∈ c.goes,a.args.length≤4) (U:p≤p0+q):
  VP g p0 q w (.returned (.agg #[.slice A1 c.comes.length c1,.slice A2 c.goes.length c2])) ((wr.setCell ⟨n0,0,none⟩ (.slice A1 c.comes.length c1)).setCell ⟨n0,1,none⟩ (.slice A2 c.goes.length c2)):=by
 have hB:Below w.heap.size wr ((wr.setCell ⟨n0,0,none⟩ (.slice A1 c.comes.length c1)).setCell ⟨n0,1,none⟩ (.slice A2 c.goes.length c2)):=(ϑ.setCell h.h0 _).setCell h.h0 _;have y:=dH (iT h.r0) h.at1;have I:=dH (iT h.r0) h.at2;exact ⟨c,A1,A2,c1,c2,b1,b2,p,rfl,fH (fH h.at1 y) y,fH (fH h.at2 I) I,J,h.rdr.eP hB h.glt,U,h.kept.eP hB ν⟩
end
theorem BI (g p:Nat) (w:World) (h:kQ g p w) (hp:p≤500000):
  Calls Tryz.prog 74 #[.pointer (some ⟨g,0,none⟩)] w (VP g p 300 w):=by
 obtain ⟨i0,hi,b7,b8,b9⟩:=info_parts IE;have hA:Below w.heap.size w (w.alloc (.cells #[.slice none 0 0,.slice none 0 0] 54)):=ζ;have HZ:=η (ω w (.cells #[.slice none 0 0,.slice none 0 0] 54));have HL:=η h.lt;have k1:=Gx g p _ (h.below hA) (by omega);have HA:=η hA;have HP:=η hp;clear h hA hp
 go_enter Tryz.func74,Tryz.ntmps74
 go_wp2_with fail
 refine k1.mono ?_;rintro e J ⟨c,A1,A2,c1,c2,L,b1,b2,p1,rfl,a0,hC,a8,ae,hR,af,hK⟩;have HX:=η (ι ae af)
 have I:Hid (tY g p1 w w.heap.size J.heap.size c A1 A2 c1 c2 L b1 b2 (J.alloc (.cells #[.slice A1 c.comes.length c1,.slice A2 c.goes.length c2] 54))):=η (by
  have a1:Below J.heap.size J (J.alloc (.cells #[.slice A1 c.comes.length c1,.slice A2 c.goes.length c2] 54)):=ζ;have hz:=hK.blk HZ.out (by have:=HL.out; simp; omega);have hk:=(aI.of_below HA.out).trans hK
  exact ⟨(a1.block _ (ψ hz)).trans hz,ω J _,ν,hk.size,Nat.ne_of_lt (ψ hz),au.below a0 a1,(hC.mono (by have:=HA.out.size; simp)).below ak a1,a8,hR.below a1,hk.eP a1 hk.size,HL.out⟩)
 have bi:w.heap.size < J.heap.size:=ψ (hK.blk HZ.out (by have:=HL.out; simp; omega));have ag:=pick_any g p1 16 _ I.out.rdr (by have:=HP.out; omega) (by omega) (by omega);clear k1 a0 hC a8 ae hR af hK HZ
 go_wp2_with fail
 refine ag.mono ?_;rintro e w2 ⟨j,rfl,hj,am,ao⟩;replace I:=η (I.out.call am (aI.dB ao));clear ag am ao;by_cases aa:j=0
 ·subst aa
  clear hj;replace I:=η I.out.drew;have q0:=I.out.cells.1;have q1:=I.out.cells.2.1;have q2:=I.out.cells.2.2;have bc:Hid (c.goes.length+1≤maxLen):=η (by have:=HX.out.1.2.1; unfold maxLen; omega);have bf:Hid ((c.goes.length+1) * 40≤140737488355328):=η (by have:=HX.out.1.2.1; omega);go_wp2
  go_region_law
   (first
    | (go_simp; go_at_call 139; refine (uK g _ _ I.out.rdr (by have:=HP.out; have:=HX.out.2; omega)).mono ?_; rintro e w3 ⟨a,v3,L3,p3,rfl,aq,ar,ab,a2,a6,a3⟩; have HF:Hid (∀ b,_≤b→(Value.slice A2 c.goes.length c2).ownBlock ≠ some b):=η (fun b hb=>jk I.out.coll.own hb); replace I:=η (I.out.call a2 a3); replace q0:=I.out.cells.1; replace q1:=I.out.cells.2.1; replace q2:=I.out.cells.2.2; have q3:J.heap.size < w3.heap.size:=lt_of_cell q1; obtain ⟨A3,c3,rfl⟩:=dU ab.own; obtain ⟨b5,a9,a4⟩:=ab.slice; have ac:Hid (∀ b ∈ b5,(Value.slice A2 c.goes.length c2).ownBlock ≠ some b):=η (fun b hb=>HF.out b ((a4 b hb).resolve_right (by simp))); have HT:=η (I.out.lit (a:=a) ⟨_,rfl,Sm.max aq,a9⟩ ac.out); have av:Hid (a.args.length≤4∧p3≤p1+1+20):=η ⟨ar,a6⟩; clear a9 a4 aq ar a6; clear ab a2 a3)
    | (refine aV (by rfl) (.tmp 11) (.tmp 14) _ (by rfl) w.heap.size 33 i0 (.agg #[.string ⟨#[]⟩,.slice none 0 0]) 2 40 Tryz.underlying24 hi b7 b8 b9 rfl (Θ 1) ak (.slice A2 c.goes.length c2) c.goes.length L c.goes b2 (by rfl) HT.out.1 rfl (some ⟨w3.heap.size,0,none⟩) 1 1 _ [a] _ (by rfl) HT.out.2.1 rfl HT.out.2.2.1 ac.out bc.out bf.out w3 w.heap.size HT.out.2.2.2.1 ν HT.out.2.2.2.2 ?_; intro A4 c4 w4 aw az bj aD; have a5:=η (I.out.app aw (by simp) az aD); replace q0:=a5.out.1; replace q1:=a5.out.2.1; replace q2:=a5.out.2.2.1; clear aw az aD))
  all_goals
   obtain ⟨b4,y⟩:=a5.out.2.2.2;obtain ⟨G,a7⟩:∃ G,G=c.goes ++ [a]:=⟨_,rfl⟩;have hlen:c.goes.length+1=G.length:=by rw [a7]; simp
   have aE:Hid (G.length≤6∧∀ x ∈ G,x.args.length≤4):=η (by
    have h5:=HX.out.1.2.1;refine ⟨by omega,fun x hx=>?_⟩;rw [a7] at hx
    rcases μ.1 hx with hx | hx
    ·exact HX.out.1.2.2.2 x hx
    ·rw [ώ.1 hx]; exact av.out.1)
   rw [← a7,hlen] at y;rw [hlen];clear a7 hlen HT I HF ac a5 q0 q1 q2;obtain ⟨W,hW⟩:∃ W,W=w4.setCell ⟨J.heap.size,1,none⟩ (.slice A4 G.length c4):=⟨_,rfl⟩;rw [← hW] at y ⊢;clear hW;have q0:W.cell? ⟨J.heap.size,0,none⟩=some (.slice A1 c.comes.length c1):=ai y.r1;have q1:W.cell? ⟨J.heap.size,1,none⟩=some (.slice A4 G.length c4):=ai y.r1;have z0:W.cell? ⟨w.heap.size,0,none⟩=some (.slice none 0 0):=ai y.r0;have z1:W.cell? ⟨w.heap.size,1,none⟩=some (.slice none 0 0):=ai y.r0;have f0:W.frozen? ⟨w.heap.size,0,none⟩=false:=ax y.r0;have f1:W.frozen? ⟨w.heap.size,1,none⟩=false:=ax y.r0;have HD:Hid (VP g p 300 w (.returned (.agg #[.slice A1 c.comes.length c1,.slice A4 G.length c4])) ((W.setCell ⟨w.heap.size,0,none⟩ (.slice A1 c.comes.length c1)).setCell ⟨w.heap.size,1,none⟩ (.slice A4 G.length c4))):=η (y.done (p0:=p) (q:=300) ⟨HX.out.1.1,aE.out.1,HX.out.1.2.2.1,aE.out.2⟩ (by have:=av.out.2; have:=HX.out.2; omega));clear y;go_wp2
   refine bodyPost_ret (v:=.agg #[.slice A1 c.comes.length c1,.slice A4 G.length c4]) (by simp [results,Tryz.results74,go_sem,z0,z1]) rfl HD.out
 ·have bg:((j:Int) == 0)=false:=beq_eq_false_iff_ne.2 (by omega)
  obtain ⟨b3,hD⟩:=I.out.Zh;clear I;by_cases aL:j=1
  ·subst aL
   have hc:=tN g _ w2 hD.rdr (by have:=HP.out; have:=HX.out.2; omega);have aM:=η hD;clear hD hj aa
   go_wp2_with fail
   refine hc.mono ?_;rintro e w3 ⟨xs,v3,b5,p3,rfl,⟨a0,aR⟩,hx,b6,a2,a6,a3⟩;obtain ⟨A3,c3,rfl,_,_⟩:=aj a0;have U:=aM.out.call a2 a3;have q0:w3.cell? ⟨J.heap.size,0,none⟩=some (.slice A1 c.comes.length c1):=ai U.r1;have q1:w3.cell? ⟨J.heap.size,1,none⟩=some (.slice A2 c.goes.length c2):=ai U.r1;have q2:w3.frozen? ⟨J.heap.size,0,none⟩=false:=ax U.r1;have z0:w3.cell? ⟨w.heap.size,0,none⟩=some (.slice none 0 0):=ai U.r0;have z1:w3.cell? ⟨w.heap.size,1,none⟩=some (.slice none 0 0):=ai U.r0;have f0:w3.frozen? ⟨w.heap.size,0,none⟩=false:=ax U.r0;have f1:w3.frozen? ⟨w.heap.size,1,none⟩=false:=ax U.r0;have bk:¬ (w.heap.size=J.heap.size):=by omega
   have bl:¬ (J.heap.size=w.heap.size):=by omega
   have HD:Hid (VP g p 300 w (.returned (.agg #[.slice A3 xs.length c3,.slice A2 c.goes.length c2])) (((w3.setCell ⟨J.heap.size,0,none⟩ (.slice A3 xs.length c3)).setCell ⟨w.heap.size,0,none⟩ (.slice A3 xs.length c3)).setCell ⟨w.heap.size,1,none⟩ (.slice A2 c.goes.length c2))):=η ((U.comes a0).done (p0:=p) (q:=300) ⟨hx,by have:=HX.out.1.2.1; dsimp only; omega,b6,HX.out.1.2.2.2⟩ (by have:=HX.out.2; omega));clear hc aM U a0 aR hx b6 a2 a6 a3;go_wp2;refine bodyPost_ret (v:=.agg #[.slice A3 xs.length c3,.slice A2 c.goes.length c2]) (by simp [results,Tryz.results74,go_sem,z0,z1]) rfl HD.out
  ·have bh:((j:Int) == 1)=false:=beq_eq_false_iff_ne.2 (by omega)
   have q0:w2.cell? ⟨J.heap.size,0,none⟩=some (.slice A1 c.comes.length c1):=ai hD.r1;have q1:w2.cell? ⟨J.heap.size,1,none⟩=some (.slice A2 c.goes.length c2):=ai hD.r1;have z0:w2.cell? ⟨w.heap.size,0,none⟩=some (.slice none 0 0):=ai hD.r0;have z1:w2.cell? ⟨w.heap.size,1,none⟩=some (.slice none 0 0):=ai hD.r0;have f0:w2.frozen? ⟨w.heap.size,0,none⟩=false:=ax hD.r0;have f1:w2.frozen? ⟨w.heap.size,1,none⟩=false:=ax hD.r0;have HD:Hid (VP g p 300 w (.returned (.agg #[.slice A1 c.comes.length c1,.slice A2 c.goes.length c2])) ((w2.setCell ⟨w.heap.size,0,none⟩ (.slice A1 c.comes.length c1)).setCell ⟨w.heap.size,1,none⟩ (.slice A2 c.goes.length c2))):=η (hD.done (p0:=p) (q:=300) ⟨HX.out.1.1,by have:=HX.out.1.2.1; omega,HX.out.1.2.2.1,HX.out.1.2.2.2⟩ (by have:=HX.out.2; omega));clear hD hj aa aL;go_wp2;refine bodyPost_ret (v:=.agg #[.slice A1 c.comes.length c1,.slice A2 c.goes.length c2]) (by simp [results,Tryz.results74,go_sem,z0,z1]) rfl HD.out
end
section
open Go.RowKit D
def D.jA (more:List A) (n:Nat) (r:Rd):Rd:=more.foldl (fun r a=>iK r a n) r
theorem D.NI (more:List A) (n:Nat) (r:Rd) (k:Nat) (h:k < more.length):jA (more.take (k+1)) n r=iK (jA (more.take k) n r) more[k] n:=by
 unfold jA;rw [ρ h,List.foldl_append];rfl
theorem D.vX (r:Rd) (a:A) (n:Nat):(iK r a n).1=eG r.1 a:=by
 unfold iK eG
 split
 ·rfl
 ·rfl
structure D.qB (r:Rd):Prop where
 gm:gm r.1=true
 len:r.2.length=r.1.length
theorem D.qB.put {r:Rd} (h:qB r) (a:A) (n:Nat):qB (iK r a n):=by
 refine ⟨by rw [vX]; exact yj h.gm a,?_⟩;unfold iK;have J:=(qG h.gm a).2.2;have I:=h.len;by_cases y:hasB r.1 a=true
 ·rw [if_pos y]; exact I
 ·rw [if_neg y]
  show (r.2.take (pl r.1 a) ++ [n] ++ r.2.drop (pl r.1 a)).length=(eG r.1 a).length;unfold eG;rw [if_neg y];simp;omega
theorem D.NJ (r:Rd) (a:A) (n:Nat):r.1.length≤(iK r a n).1.length∧(iK r a n).1.length≤r.1.length+1:=by
 rw [vX];refine ⟨?_,JJ _ _⟩;unfold eG
 split
 ·exact ν
 ·simp
  omega
theorem D.oU {r:Rd} (h:qB r) (n:Nat):∀ more,qB (jA more n r)∧r.1.length≤(jA more n r).1.length∧(jA more n r).1.length≤r.1.length+more.length:=by
 intro more
 induction more generalizing r with
 | nil=>exact ⟨h,ν,ν⟩
 | cons a more ih=>
  have h1:=ih (h.put a n);have y:=NJ r a n;refine ⟨h1.1,?_,?_⟩
  ·exact τ y.1 h1.2.1
  ·have:=h1.2.2
   simp only [jA,List.foldl_cons,List.length_cons] at *;omega
def D.fU (rs:List Ru) (lv:List Nat) (level:Nat) (r:Rd) (n:Nat):Rd:=jA (jo r.1 level (rs.zip lv)) n r
def D.Ea (rs:List Ru) (lv:List Nat):Nat→Nat→Rd→Nat→Rd × Bool
 | 0,_,r,_=>(r,true)
 | k+1,0,r,_=>(r,false)
 | k+1,fuel+1,r,n=>
  if 300 < (fU rs lv (rs.length - k) r (n+1)).1.length then (fU rs lv (rs.length - k) r (n+1),false)
  else if (fU rs lv (rs.length - k) r (n+1)).1.length=r.1.length then Ea rs lv k 302 (fU rs lv (rs.length - k) r (n+1)) n
  else Ea rs lv (k+1) fuel (fU rs lv (rs.length - k) r (n+1)) (n+1)
 termination_by k fuel=>(k,fuel)
def D.jb (rs:List Ru) (given:List A):Rd × Bool:=Ea rs (aA rs) (rs.length+1) 302 (given,List.replicate given.length 0) 0
end
end Go.Proofs.YtkjinanbccloeaaGreatDoor
