/- Of the proof of FnDelta: DrawRs. -/
import Derived.Test.YtkjinanbccloeaaGreatDoorA24
import Derived.Test.YtkjinanbccloeaaGreatDoorA25
set_option linter.unusedVariables false
set_option maxHeartbeats 4000000
set_option maxRecDepth 100000
namespace Go.Proofs.YtkjinanbccloeaaGreatDoor
open Go.RowKit D
attribute [local go_sem ↓] Go.wp_at_zero Go.wp_at_succ
theorem D.yN (n x y:ByteArray) (hn:Sm n) (J:Sm x) (U:Sm y):AtS (edge n x y):=⟨hn,by simp [edge],fun t I=>by
 simp only [edge,List.mem_cons,List.not_mem_nil,or_false] at I
 rcases I with rfl | rfl
 ·exact J
 ·exact U⟩
theorem yO (g p:Nat) (w:World) (h:kJ g p w) (hp:p≤500000):
  Calls Tryz.prog 101 #[.pointer (some ⟨g,0,none⟩)] w (Uw 5 g p 100 w):=by
 obtain ⟨i0,hi,ao,a6,aq⟩:=info_parts Gq;have hg:=h.lt;have HF:=η (gQ.start hg h);have y:=pick_any g p 2 _ HF.out.rdr (by omega) (by omega) (by omega);have HP:=η hp;clear h hp
 go_enter Tryz.func101,Tryz.ntmps101
 go_wp2_with fail
 refine y.mono ?_;rintro e w1 ⟨m,rfl,hm,aD,d3⟩;have a8:=η (HF.out.call aD (aH.dA d3));clear y aD d3 HF hm
 go_upto_if 11 with fail
 go_cut [3] from 8 to 102 (fun v wx=>∃ (xs:List Ru) (Av:Option Addr) (cp:Nat),v=.slice Av xs.length cp∧xs.length≤2∧gQ g (p+1) w xs (.slice Av xs.length cp) wx)
 case first=>
  by_cases hz:m=0
  ·subst hz
   go_wp2_with fail
   refine (mZ ⟨#[116]⟩ ⟨#[88]⟩ ⟨#[89]⟩ _ (by decide) (by decide) (by decide)).mono ?_;rintro e w2 ⟨d4,b1,b2,rfl,a2,d5⟩;have cq:w1.heap.size≤b2:=by omega
   clear d5 b1;have T2:Below w1.heap.size w1 w2:=d4
   go_wp2_with fail
   refine (mZ ⟨#[101]⟩ ⟨#[88]⟩ ⟨#[89]⟩ _ (by decide) (by decide) (by decide)).mono ?_;rintro e w3 ⟨cr,el,b3,rfl,bX,d6⟩;have cv:w2.heap.size≤b3:=by omega
   clear d6 el;have T3:Below w1.heap.size w1 w3:=T2.trans (cr.mono T2.size);replace a2:=au.below a2 cr;have bn:Below w3.heap.size w3 (w3.alloc (.cells #[.bool false,.string ⟨#[101]⟩,.slice (some ⟨b3,0,none⟩) 2 2] 42)):=ζ;have c6:=QX (ω w3 (.cells #[.bool false,.string ⟨#[101]⟩,.slice (some ⟨b3,0,none⟩) 2 2] 42)) (au.below bX bn);have c7:=au.below a2 bn;have ca:gY (w3.alloc (.cells #[.bool false,.string ⟨#[101]⟩,.slice (some ⟨b3,0,none⟩) 2 2] 42)) [.string ⟨#[116]⟩,.slice (some ⟨b2,0,none⟩) 2 2,.slice (some ⟨w3.heap.size,0,none⟩) 1 1] (⟨edge ⟨#[116]⟩ ⟨#[88]⟩ ⟨#[89]⟩,[⟨false,edge ⟨#[101]⟩ ⟨#[88]⟩ ⟨#[89]⟩⟩]⟩:Ru) ([b2] ++ (w3.heap.size :: [b3])):=⟨_,_,_,_,rfl,by decide,rfl,dI c7,c6⟩
   obtain ⟨L3,eZ,d7,cb,d8,cw,d9,da,db⟩:=a8.out.arm (T3.trans (bn.mono T3.size)) ca (by
    intro b hb;have hz:=T3.size;have:=T2.size;have:=a8.out.kept.size;simp only [List.cons_append,List.nil_append,List.mem_cons,List.not_mem_nil,or_false] at hb
    rcases hb with rfl | rfl | rfl <;> omega)
   rw [World.size_alloc] at cw;have a9:=η (ι d7 (ι cb (ι d8 (ι cw (ι d9 (ι da db))))))
   have dc:Hid (SH (⟨edge ⟨#[116]⟩ ⟨#[88]⟩ ⟨#[89]⟩,[⟨false,edge ⟨#[101]⟩ ⟨#[88]⟩ ⟨#[89]⟩⟩]⟩:Ru)):=η ⟨yN _ _ _ (by decide) (by decide) (by decide),by simp,fun x hx=>by
    simp only [List.mem_cons,List.not_mem_nil,or_false] at hx
    rcases hx with rfl <;> exact yN _ _ _ (by decide) (by decide) (by decide)⟩
   clear d4 a2 cq T2 cr bX cv T3 bn c6 c7 ca d7 cb d8 cw d9 da db
   go_wp2_with (at_builtin; refine cO rfl _ _ _ rfl w.heap.size 40 i0 (.agg #[.string ⟨#[]⟩,.slice none 0 0,.slice none 0 0]) 3 64 Tryz.underlying23 hi ao a6 aq rfl (by omega) aX (.slice (some ⟨w.heap.size,0,none⟩) 0 0) 0 _ [] _ rfl a9.out.1 rfl (some ⟨w3.heap.size+1,0,none⟩) 1 1 _ [(⟨edge ⟨#[116]⟩ ⟨#[88]⟩ ⟨#[89]⟩,[⟨false,edge ⟨#[101]⟩ ⟨#[88]⟩ ⟨#[89]⟩⟩]⟩:Ru)] _ rfl a9.out.2.2.1 rfl a9.out.2.2.2.1 a9.out.2.2.2.2.1 (by unfold maxLen; decide) (by decide) w1 w.heap.size a9.out.2.2.2.2.2.1 ν a9.out.2.2.2.2.2.2 ?_; intro A4 em w4 de dg en bo)
   have cx:=η (a8.out.app de a9.out.2.1 dg dc.out);clear de dg en bo a9
   go_wp2_with fail
   refine (mZ ⟨#[116]⟩ ⟨#[88]⟩ ⟨#[90]⟩ _ (by decide) (by decide) (by decide)).mono ?_;rintro e w5 ⟨b4,eo,b5,rfl,a5,di⟩;have cy:w4.heap.size≤b5:=by omega
   clear di eo;have T5:Below w4.heap.size w4 w5:=b4
   go_wp2_with fail
   refine (mZ ⟨#[116]⟩ ⟨#[88]⟩ ⟨#[89]⟩ _ (by decide) (by decide) (by decide)).mono ?_;rintro e w6 ⟨cz,ep,b6,rfl,az,dj⟩;have cA:w5.heap.size≤b6:=by omega
   clear dj ep;have T6:Below w4.heap.size w4 w6:=T5.trans (cz.mono T5.size);replace a5:=au.below a5 cz
   go_wp2_with fail
   refine (mZ ⟨#[101]⟩ ⟨#[89]⟩ ⟨#[90]⟩ _ (by decide) (by decide) (by decide)).mono ?_;rintro e w7 ⟨bp,et,b7,rfl,cc,dk⟩;have cB:w6.heap.size≤b7:=by omega
   clear dk et;have T7:Below w4.heap.size w4 w7:=T6.trans (bp.mono T6.size);replace a5:=au.below a5 bp;replace az:=au.below az bp;have b8:Below w7.heap.size w7 (w7.alloc (.cells #[.bool false,.string ⟨#[116]⟩,.slice (some ⟨b6,0,none⟩) 2 2,.bool false,.string ⟨#[101]⟩,.slice (some ⟨b7,0,none⟩) 2 2] 42)):=ζ;have cd:=zG (ω w7 (.cells #[.bool false,.string ⟨#[116]⟩,.slice (some ⟨b6,0,none⟩) 2 2,.bool false,.string ⟨#[101]⟩,.slice (some ⟨b7,0,none⟩) 2 2] 42)) (au.below az b8) (au.below cc b8);have ce:=au.below a5 b8;have cg:gY (w7.alloc (.cells #[.bool false,.string ⟨#[116]⟩,.slice (some ⟨b6,0,none⟩) 2 2,.bool false,.string ⟨#[101]⟩,.slice (some ⟨b7,0,none⟩) 2 2] 42)) [.string ⟨#[116]⟩,.slice (some ⟨b5,0,none⟩) 2 2,.slice (some ⟨w7.heap.size,0,none⟩) 2 2] (⟨edge ⟨#[116]⟩ ⟨#[88]⟩ ⟨#[90]⟩,[⟨false,edge ⟨#[116]⟩ ⟨#[88]⟩ ⟨#[89]⟩⟩,⟨false,edge ⟨#[101]⟩ ⟨#[89]⟩ ⟨#[90]⟩⟩]⟩:Ru) ([b5] ++ (w7.heap.size :: ([b6] ++ [b7]))):=⟨_,_,_,_,rfl,by decide,rfl,dI ce,cd⟩
   obtain ⟨L7,cD,aa,U,a3,a4,ab,a7,b9⟩:=cx.out.arm (T7.trans (b8.mono T7.size)) cg (by
    intro b hb;have hz:=T7.size;have:=T5.size;have:=T6.size;have:=cx.out.kept.size;simp only [List.cons_append,List.nil_append,List.mem_cons,List.not_mem_nil,or_false] at hb
    rcases hb with rfl | rfl | rfl | rfl <;> omega)
   rw [World.size_alloc] at a4;have ac:=η (ι aa (ι U (ι a3 (ι a4 (ι ab (ι a7 b9))))))
   have dl:Hid (SH (⟨edge ⟨#[116]⟩ ⟨#[88]⟩ ⟨#[90]⟩,[⟨false,edge ⟨#[116]⟩ ⟨#[88]⟩ ⟨#[89]⟩⟩,⟨false,edge ⟨#[101]⟩ ⟨#[89]⟩ ⟨#[90]⟩⟩]⟩:Ru)):=η ⟨yN _ _ _ (by decide) (by decide) (by decide),by simp,fun x hx=>by
    simp only [List.mem_cons,List.not_mem_nil,or_false] at hx
    rcases hx with rfl | rfl <;> exact yN _ _ _ (by decide) (by decide) (by decide)⟩
   clear b4 a5 cy T5 cz az cA T6 bp cc cB T7 b8 cd ce cg aa U a3 a4 ab a7 b9
   go_wp2_with (at_builtin; refine cO rfl _ _ _ rfl w.heap.size 40 i0 (.agg #[.string ⟨#[]⟩,.slice none 0 0,.slice none 0 0]) 3 64 Tryz.underlying23 hi ao a6 aq rfl (by omega) aX (.slice A4 1 em) 1 _ [(⟨edge ⟨#[116]⟩ ⟨#[88]⟩ ⟨#[89]⟩,[⟨false,edge ⟨#[101]⟩ ⟨#[88]⟩ ⟨#[89]⟩⟩]⟩:Ru)] _ rfl ac.out.1 rfl (some ⟨w7.heap.size+1,0,none⟩) 1 1 _ [(⟨edge ⟨#[116]⟩ ⟨#[88]⟩ ⟨#[90]⟩,[⟨false,edge ⟨#[116]⟩ ⟨#[88]⟩ ⟨#[89]⟩⟩,⟨false,edge ⟨#[101]⟩ ⟨#[89]⟩ ⟨#[90]⟩⟩]⟩:Ru)] _ rfl ac.out.2.2.1 rfl ac.out.2.2.2.1 ac.out.2.2.2.2.1 (by unfold maxLen; decide) (by decide) w4 w.heap.size ac.out.2.2.2.2.2.1 ν ac.out.2.2.2.2.2.2 ?_; intro A8 cE w8 ae af bc ar)
   have cG:=η (cx.out.app ae ac.out.2.1 af dl.out);clear ae af bc ar ac;go_wp2
   go_meet
   case rel=>exact ⟨[(⟨edge ⟨#[116]⟩ ⟨#[88]⟩ ⟨#[89]⟩,[⟨false,edge ⟨#[101]⟩ ⟨#[88]⟩ ⟨#[89]⟩⟩]⟩:Ru)] ++ [(⟨edge ⟨#[116]⟩ ⟨#[88]⟩ ⟨#[90]⟩,[⟨false,edge ⟨#[116]⟩ ⟨#[88]⟩ ⟨#[89]⟩⟩,⟨false,edge ⟨#[101]⟩ ⟨#[89]⟩ ⟨#[90]⟩⟩]⟩:Ru)],A8,cE,rfl,by simp,cG.out⟩
  ·have a6:¬ (m:Int)=0:=by omega
   go_wp2
   go_meet
   case rel=>exact ⟨[],_,_,rfl,by simp,a8.out⟩
 case rest=>
  obtain ⟨xs,Av,cp,rfl,ew,hF⟩:=hcut;have HF:=η hF;have y:=pick_any g (p+1) 3 _ HF.out.rdr (by have:=HP.out; omega) (by omega) (by omega);clear hF
  go_wp2_with fail
  refine y.mono ?_;rintro e w5 ⟨m5,rfl,ey,dp,ds⟩;have bf:=η (HF.out.call dp (aH.dA ds));have dt:(xs.length:Int)≤2:=by omega
  clear y dp ds HF ey
  go_upto_if 32 with fail
  go_cut [3] from 8 to 102 (fun v wx=>∃ (xs:List Ru) (Av:Option Addr) (cp q:Nat),v=.slice Av xs.length cp∧xs.length≤3∧q≤p+3∧gQ g q w xs (.slice Av xs.length cp) wx)
  case first=>
   by_cases hz:m5=0
   ·subst hz
    obtain ⟨wz,bt⟩:∃ wz,wz=w5:=⟨_,rfl⟩;have du:Below wz.heap.size wz ((wz.alloc (.cells #[.bool true,.string ⟨#[88]⟩] 91)).alloc (.cells #[.bool true,.string ⟨#[88]⟩] 91)):=(ζ).alloc (by simp) _;have cI:=η ((show gQ g (p+1+1) w xs (.slice Av xs.length cp) wz from bt ▸ bf.out).below du);have bg:=η (show gQ g (p+1+1) w xs (.slice Av xs.length cp) wz from bt ▸ bf.out);have dv:Hid (((wz.alloc (.cells #[.bool true,.string ⟨#[88]⟩] 91)).alloc (.cells #[.bool true,.string ⟨#[88]⟩] 91)).heap[wz.heap.size]? = some (.cells #[.bool true,.string ⟨#[88]⟩] 91 (0,0))):=η ((Below.heap_alloc _ _ _ (by simp)).trans (ω _ _));have dx:Hid (((wz.alloc (.cells #[.bool true,.string ⟨#[88]⟩] 91)).alloc (.cells #[.bool true,.string ⟨#[88]⟩] 91)).heap[wz.heap.size+1]? = some (.cells #[.bool true,.string ⟨#[88]⟩] 91 (0,0))):=η (by simpa using ω (wz.alloc (.cells #[.bool true,.string ⟨#[88]⟩] 91)) (.cells #[.bool true,.string ⟨#[88]⟩] 91))
    have aE:=ru g (p+1+1) [⟨#[113]⟩,⟨#[115]⟩] 2 ((wz.alloc (.cells #[.bool true,.string ⟨#[88]⟩] 91)).alloc (.cells #[.bool true,.string ⟨#[88]⟩] 91)) cI.out.rdr (by have:=HP.out; omega) rfl (by decide) (by decide) (by decide);simp only [World.size_alloc] at aE;rw [← bt];clear du bt bf
    go_wp2_with fail
    refine aE.mono ?_;rintro e w6 ⟨s,rfl,hs,dy,bh⟩;have f0:g < wz.heap.size:=by have:=bg.out.kept.size; omega
    have dz:=bh.blk dv.out (by simp; omega);have dC:=bh.blk dx.out (by simp; omega);have ag:=η (cI.out.call dy bh);have f1:wz.heap.size+2≤w6.heap.size:=by have:=bh.size; simpa using this
    have bu:Below w6.heap.size w6 ((w6.alloc (.cells #[.bool true,.string ⟨#[88]⟩] 91)).alloc (.cells #[.bool false,.string ⟨#[112]⟩,.slice (some ⟨wz.heap.size+1,0,none⟩) 1 1,.bool true,.string s,.slice (some ⟨w6.heap.size,0,none⟩) 1 1] 42)):=(ζ).alloc (by simp) _;have dE:Below w6.heap.size w6 (w6.alloc (.cells #[.bool true,.string ⟨#[88]⟩] 91)):=ζ;have ci:Below (w6.alloc (.cells #[.bool true,.string ⟨#[88]⟩] 91)).heap.size (w6.alloc (.cells #[.bool true,.string ⟨#[88]⟩] 91)) ((w6.alloc (.cells #[.bool true,.string ⟨#[88]⟩] 91)).alloc (.cells #[.bool false,.string ⟨#[112]⟩,.slice (some ⟨wz.heap.size+1,0,none⟩) 1 1,.bool true,.string s,.slice (some ⟨w6.heap.size,0,none⟩) 1 1] 42)):=ζ;have tA:=aP.below (uZ dz (by decide)) bu;have tB:=aP.below (uZ dC (by decide)) bu;have tC:=aP.below (uZ (ω w6 (.cells #[.bool true,.string ⟨#[88]⟩] 91)) (by decide)) ci
    have av:=zG (ω (w6.alloc (.cells #[.bool true,.string ⟨#[88]⟩] 91)) (.cells #[.bool false,.string ⟨#[112]⟩,.slice (some ⟨wz.heap.size+1,0,none⟩) 1 1,.bool true,.string s,.slice (some ⟨w6.heap.size,0,none⟩) 1 1] 42)) (show aJ _ [.string ⟨#[112]⟩,_] ⟨⟨#[112]⟩,[⟨true,⟨#[88]⟩⟩]⟩ _ from ⟨_,rfl,(show (⟨#[112]⟩:ByteArray).size≤maxLen from by decide),tB⟩) (show aJ _ [.string s,_] ⟨s,[⟨true,⟨#[88]⟩⟩]⟩ _ from ⟨_,rfl,Sm.max hs,tC⟩);rw [World.size_alloc] at av
    have am:gY ((w6.alloc (.cells #[.bool true,.string ⟨#[88]⟩] 91)).alloc (.cells #[.bool false,.string ⟨#[112]⟩,.slice (some ⟨wz.heap.size+1,0,none⟩) 1 1,.bool true,.string s,.slice (some ⟨w6.heap.size,0,none⟩) 1 1] 42)) [.string ⟨#[114]⟩,.slice (some ⟨wz.heap.size,0,none⟩) 1 1,.slice (some ⟨w6.heap.size+1,0,none⟩) 2 2] (⟨⟨⟨#[114]⟩,[⟨true,⟨#[88]⟩⟩]⟩,[⟨false,⟨⟨#[112]⟩,[⟨true,⟨#[88]⟩⟩]⟩⟩,⟨true,⟨s,[⟨true,⟨#[88]⟩⟩]⟩⟩]⟩:Ru) ([wz.heap.size] ++ ((w6.heap.size+1) :: ([wz.heap.size+1] ++ [w6.heap.size]))):=
     ⟨_,_,_,_,rfl,(show (⟨#[114]⟩:ByteArray).size≤maxLen from by decide),rfl,tA,av⟩
    have f3:w.heap.size≤wz.heap.size:=bg.out.kept.size
    obtain ⟨L7,cD,aa,U,a3,a4,ab,a7,b9⟩:=ag.out.Wx bu am (by
     intro b hb;simp only [List.cons_append,List.nil_append,List.mem_cons,List.not_mem_nil,or_false] at hb
     rcases hb with rfl | rfl | rfl | rfl
     ·exact ⟨by omega,bg.out.far ν⟩
     ·exact ⟨by omega,ag.out.far (by omega)⟩
     ·exact ⟨by omega,bg.out.far (by omega)⟩
     ·exact ⟨by omega,ag.out.far (by omega)⟩)
    simp only [World.size_alloc] at a4;have HY:=η (ι aa (ι U (ι a3 (ι a4 (ι ab (ι a7 b9))))))
    have ez:Hid (SH (⟨⟨⟨#[114]⟩,[⟨true,⟨#[88]⟩⟩]⟩,[⟨false,⟨⟨#[112]⟩,[⟨true,⟨#[88]⟩⟩]⟩⟩,⟨true,⟨s,[⟨true,⟨#[88]⟩⟩]⟩⟩]⟩:Ru)):=η ⟨⟨(show Sm ⟨#[114]⟩ from by decide),by simp,fun t ht=>by
     simp only [List.mem_cons,List.not_mem_nil,or_false] at ht; subst ht; decide⟩,by simp,fun x hx=>by
     simp only [List.mem_cons,List.not_mem_nil,or_false] at hx
     rcases hx with rfl | rfl
     ·exact ⟨by decide,by simp,fun t ht=>by simp only [List.mem_cons,List.not_mem_nil,or_false] at ht; subst ht; decide⟩
     ·exact ⟨hs,by simp,fun t ht=>by simp only [List.mem_cons,List.not_mem_nil,or_false] at ht; subst ht; decide⟩⟩
    have dT:Hid (xs.length+1≤maxLen∧(xs.length+1) * 64≤140737488355328):=η (by unfold maxLen; omega);clear aE hs dy bh dz dC bu dE ci tA tB tC av am aa U a3 a4 ab a7 b9 dv dx bg cI
    go_wp2_with (at_builtin; refine cO rfl _ _ _ rfl w.heap.size 40 i0 (.agg #[.string ⟨#[]⟩,.slice none 0 0,.slice none 0 0]) 3 64 Tryz.underlying23 hi ao a6 aq rfl (by omega) aX (.slice Av xs.length cp) xs.length _ xs _ rfl HY.out.1 rfl (some ⟨w6.heap.size+1+1,0,none⟩) 1 1 _ [(⟨⟨⟨#[114]⟩,[⟨true,⟨#[88]⟩⟩]⟩,[⟨false,⟨⟨#[112]⟩,[⟨true,⟨#[88]⟩⟩]⟩⟩,⟨true,⟨s,[⟨true,⟨#[88]⟩⟩]⟩⟩]⟩:Ru)] _ rfl HY.out.2.2.1 rfl HY.out.2.2.2.1 HY.out.2.2.2.2.1 dT.out.1 dT.out.2 w6 w.heap.size HY.out.2.2.2.2.2.1 ν HY.out.2.2.2.2.2.2 ?_; intro A8 cE w8 ae af bc ar)
    have cG:=η (ag.out.app ae HY.out.2.1 af ez.out);clear ae af bc ar HY;go_wp2
    go_meet
    case rel=>exact ⟨xs ++ [(⟨⟨⟨#[114]⟩,[⟨true,⟨#[88]⟩⟩]⟩,[⟨false,⟨⟨#[112]⟩,[⟨true,⟨#[88]⟩⟩]⟩⟩,⟨true,⟨s,[⟨true,⟨#[88]⟩⟩]⟩⟩]⟩:Ru)],A8,cE,p+1+1+1,by simp,by simp; omega,by omega,by rw [χ]; exact cG.out⟩
   ·have a6:¬ (m5:Int)=0:=by omega
    go_wp2
    go_meet
    case rel=>exact ⟨xs,Av,cp,_,rfl,by omega,by omega,bf.out⟩
  case rest=>
   clear ew dt bf;obtain ⟨xs,Av,cp,q,rfl,eA,hq,hF⟩:=hcut;have ag:=η hF;have y:=pick_any g q 3 _ ag.out.rdr (by have:=HP.out; omega) (by omega) (by omega);clear hF
   go_wp2_with fail
   refine y.mono ?_;rintro e w7 ⟨n0,rfl,e0,a3,e1⟩;have e2:=η (ag.out.call a3 (aH.dA e1));have bv:Hid (xs.length+n0≤5∧n0≤2∧q+1+40 * n0≤p+90):=η (by omega);have eB:(n0:Int) < 3:=e0;clear y a3 e1 ag e0 eA hq;go_wp2
   go_loopw [3,4] (fun v i wr=>∃ (k:Nat) (xs:List Ru) (Av:Option Addr) (cp q:Nat),i=.int .i64 k∧v=.slice Av xs.length cp∧xs.length+k≤5∧k≤2∧q+40 * k≤p+90∧gQ g q w xs (.slice Av xs.length cp) wr) (fun _ i _=>(intOf i).toNat)
   case atStart=>exact ⟨n0,xs,_,_,q+1,rfl,rfl,bv.out.1,bv.out.2.1,bv.out.2.2,e2.out⟩
   case round=>
    obtain ⟨k,xs,Av,cp,q,rfl,rfl,e3,e4,hq,hF⟩:=hrel;have HF:=η hF;have HS:Hid (xs.length+k≤5∧k≤2∧q+40 * k≤p+90∧q≤600000):=η ⟨e3,e4,hq,by have:=HP.out; omega⟩;clear hF e2 bv e3 e4 hq eB;by_cases cJ:0 < k
    ·have f4:(0:Int) < (k:Int):=by omega
     have f6:(k:Int)≤2:=by have:=HS.out.2.1; omega
     have HK:=η cJ;have aE:=ru g q [⟨#[113]⟩,⟨#[115]⟩,⟨#[114]⟩,⟨#[117]⟩,⟨#[116]⟩] 5 wr HF.out.rdr (by have:=HS.out; omega) rfl (by decide) (by decide) (by decide);clear cJ
     go_wp2_with fail
     refine aE.mono ?_;rintro e w1 ⟨s,rfl,hs,aD,e5⟩;have a8:=η (HF.out.call aD e5);have e6:=oh s true g (q+1) w1 aD (by have:=HS.out; omega) hs;clear aE hs aD e5
     go_wp2_with fail
     refine e6.mono ?_;rintro e w2 ⟨a,v2,L2,q2,rfl,b1,eC,cK,bw,eD,e7,cj⟩;obtain ⟨A2,c2,rfl⟩:=dO cK.own;have cL:=η (a8.out.call bw e7);have bx:Below w2.heap.size w2 (w2.alloc (.cells #[.string ⟨#[101]⟩,.string ⟨#[112]⟩,.string ⟨#[101]⟩,.string ⟨#[116]⟩,.string ⟨#[113]⟩,.string ⟨#[104]⟩,.string ⟨#[122]⟩,.string ⟨#[115]⟩] 9)):=ζ;obtain ⟨b2,ck,bi⟩:=(cK.below bD bx).slice;have a2:aJ (w2.alloc (.cells #[.string ⟨#[101]⟩,.string ⟨#[112]⟩,.string ⟨#[101]⟩,.string ⟨#[116]⟩,.string ⟨#[113]⟩,.string ⟨#[104]⟩,.string ⟨#[122]⟩,.string ⟨#[115]⟩] 9)) [.string a.name,.slice A2 a.args.length c2] a b2:=⟨_,rfl,Sm.max b1,ck⟩;have cP:Hid (∀ b ∈ b2,w.heap.size≤b):=η fun b hb=>τ a8.out.kept.size ((bi b hb).resolve_right (by simp))
     have cl:g ∉ b2:=fun hg=>by have:=cP.out g hg; have:=cL.out.glt; omega
     have bz:Hid (AtS a∧q2≤q+7):=η ⟨⟨b1,by omega,cj⟩,by omega⟩;have e8:=Bq g q2 [⟨#[101]⟩,⟨#[112]⟩,⟨#[101]⟩,⟨#[116]⟩,⟨#[113]⟩,⟨#[104]⟩,⟨#[122]⟩,⟨#[115]⟩] 8 w2.heap.size _ (bw.below bx) (ω w2 _) (Nat.ne_of_lt bw.lt) (by have:=HS.out; have:=bz.out.2; omega) rfl (by decide) (by decide) (by decide);have cQ:=η (cL.out.below bx);have e9:Hid (w.heap.size≤(w2.alloc (.cells #[.string ⟨#[101]⟩,.string ⟨#[112]⟩,.string ⟨#[101]⟩,.string ⟨#[116]⟩,.string ⟨#[113]⟩,.string ⟨#[104]⟩,.string ⟨#[122]⟩,.string ⟨#[115]⟩] 9)).heap.size):=η cQ.out.kept.size;have cT:=η (ι a2 cl);clear e6 b1 eC cK bw eD e7 cj bx ck bi a2 cl cL a8
     go_wp2_with fail
     refine e8.mono ?_;rintro e w3 ⟨ys,v3,q3,rfl,eE,ea,eI,av⟩;obtain ⟨A3,c3,rfl⟩:=av.shape;have cU:=η (jg.start cT.out.1 cT.out.2 av);have bA:Hid (q3≤q+32∧ys.length≤3):=η ⟨by have:=bz.out.2; omega,ea⟩;have y:=pick_any g q3 8 _ cU.out.bd.rdr (by have:=HS.out; have:=bA.out; omega) (by omega) (by omega);clear e8 eE ea eI av cT
     go_wp2_with fail
     refine y.mono ?_;rintro e w4 ⟨m8,rfl,eJ,eb,bo⟩;have aL:=η (cU.out.call eb (aH.dA bo));clear y eJ eb bo cU;generalize (w2.alloc (.cells #[.string ⟨#[101]⟩,.string ⟨#[112]⟩,.string ⟨#[101]⟩,.string ⟨#[116]⟩,.string ⟨#[113]⟩,.string ⟨#[104]⟩,.string ⟨#[122]⟩,.string ⟨#[115]⟩] 9))=wb at *
     go_upto_if 70 with fail
     go_cut [] from 54 to 101 (fun wx=>∃ (zs:List Pt) (A4:Option Addr) (c4:Nat),zs.length≤3∧jg g (q3+1) w3.heap.size wb a A2 c2 b2 zs A4 c4 wx)
     case first=>
      by_cases hm:m8=0
      ·subst hm
       have J:=η aL.out.bare;have f2:=aL.out.vH 2;have q2:=aL.out.cell.2.2;have n4:w3.heap.size < w4.heap.size:=ψ aL.out.box;go_wp2
       go_meet
       case rel=>exact ⟨[],_,_,by simp,J.out⟩
      ·have eK:¬ (m8:Int)=0:=by omega
       go_wp2
       go_meet
       case rel=>exact ⟨ys,_,_,bA.out.2,aL.out⟩
     case rest=>
      clear aL;obtain ⟨zs,A4,c4,ec,hX⟩:=hcut;have HX:=η hX;have bB:=η ec;have zc:=hX.cell;obtain ⟨z0,z1,z2⟩:=zc;obtain ⟨br,am,bE⟩:=hX.rule cP.out e9.out;have ed:=Bl ⟨a,zs⟩ _ _ _ br _ am (τ (DZ _ 4 zs fun x hx=>(hX.bd.small x hx).2.1) (by omega)) (τ bz.out.1.2.1 (by omega));clear hX ec am bE
      go_wp2_with fail
      refine ed.mono ?_;rintro e w5 ⟨he,b4⟩;replace he:e=.returned (.bool (fJ a zs)):=he;subst he;have J:=η (HX.out.below b4);clear ed b4 z0 z1 z2 HX;generalize fJ a zs=tb
      go_upto_if 75 with fail
      go_cut [] from 54 to 101 (fun wx=>∃ (zs:List Pt) (A4:Option Addr) (c4:Nat),zs.length≤4∧jg g (q3+1) w3.heap.size wb a A2 c2 b2 zs A4 c4 wx)
      case first=>
       cases tb
       case true=>
        go_wp2
        go_meet
        case rel=>exact ⟨zs,_,_,by have:=bB.out; omega,J.out⟩
       case false=>
        obtain ⟨p0,hp,eL,eM,eN⟩:=info_parts Gn;have cV:Below w5.heap.size w5 (w5.alloc (.cells #[.bool true,.string ⟨#[88]⟩,.bool true,.string ⟨#[89]⟩,.bool true,.string ⟨#[90]⟩] 91)):=ζ;have cW:=J.out.below cV;have ee:=LJ (ω w5 (.cells #[.bool true,.string ⟨#[88]⟩,.bool true,.string ⟨#[89]⟩,.bool true,.string ⟨#[90]⟩] 91)) (by decide) (by decide) (by decide);obtain ⟨L7,cD,aa,U,a3,a4,ab,a7⟩:=cW.bd.part (a:=(⟨⟨#[104]⟩,[⟨true,⟨#[88]⟩⟩,⟨true,⟨#[89]⟩⟩,⟨true,⟨#[90]⟩⟩]⟩:A)) J.out.bd rfl ⟨_,rfl,(show (⟨#[104]⟩:ByteArray).size≤maxLen from by decide),ee⟩ (fun b hb=>by simp at hb; omega) false;have HY:=η (ι aa (ι U (ι a3 (ι a4 (ι ab (ι a7 (τ cW.bd.kept.size a7.size)))))));simp only [World.size_alloc] at HY;have cm:Below w5.heap.size w5 ((w5.alloc (.cells #[.bool true,.string ⟨#[88]⟩,.bool true,.string ⟨#[89]⟩,.bool true,.string ⟨#[90]⟩] 91)).alloc (.cells #[.bool false,.string ⟨#[104]⟩,.slice (some ⟨w5.heap.size,0,none⟩) 3 3] 42)):=cV.trans (ϑ.alloc (by simp) _)
        have bL:=η cm
        have eO:Hid (Xi ⟨false,(⟨⟨#[104]⟩,[⟨true,⟨#[88]⟩⟩,⟨true,⟨#[89]⟩⟩,⟨true,⟨#[90]⟩⟩]⟩:A)⟩):=η ⟨by decide,by simp,fun t ht=>by
         simp only [List.mem_cons,List.not_mem_nil,or_false] at ht
         rcases ht with rfl | rfl | rfl <;> decide⟩
        have eg:Hid (zs.length+1≤maxLen∧(zs.length+1) * 48≤140737488355328):=η (by have:=bB.out; unfold maxLen; omega);have f2:=J.out.vH 2;have q2:=J.out.cell.2.2;have n4:w3.heap.size < w5.heap.size:=ψ J.out.box;clear cV cW ee aa U a3 a4 ab a7 cm
        go_wp2_with (at_builtin; refine cO rfl _ _ _ rfl wb.heap.size 42 p0 (.agg #[.bool false,.string ⟨#[]⟩,.slice none 0 0]) 3 48 Tryz.underlying38 hp eL eM eN rfl (by omega) jD (.slice A4 zs.length c4) zs.length L7 zs cD rfl HY.out.1 rfl (some ⟨w5.heap.size+1,0,none⟩) 1 1 _ [⟨false,(⟨⟨#[104]⟩,[⟨true,⟨#[88]⟩⟩,⟨true,⟨#[89]⟩⟩,⟨true,⟨#[90]⟩⟩]⟩:A)⟩] _ rfl HY.out.2.2.1 rfl HY.out.2.2.2.1 HY.out.2.2.2.2.1 eg.out.1 eg.out.2 w5 wb.heap.size (bL.out.mono J.out.bd.kept.size) ν (τ J.out.bd.kept.size bL.out.size) ?_; intro A8 c8 w8 ae af bc ar; have eQ:=η (J.out.app bL.out ae HY.out.2.1 af ar eO.out); have eR:=J.out.keep bL.out ar; obtain ⟨_,q8,f8,n8⟩:=eR; clear ae af bc ar)
        go_wp2
        go_meet
        case rel=>exact ⟨zs ++ [⟨false,(⟨⟨#[104]⟩,[⟨true,⟨#[88]⟩⟩,⟨true,⟨#[89]⟩⟩,⟨true,⟨#[90]⟩⟩]⟩:A)⟩],A8,c8,by have:=bB.out; simp; omega,eQ.out⟩
      case rest=>
       clear J bB;obtain ⟨zs,A4,c4,cX,hX⟩:=hcut;have HX:=η hX;have f9:=η cX;have aM:=η (cQ.out.call HX.out.bd.rdr HX.out.bd.kept);have eS:Hid (SH ⟨a,zs⟩):=η ⟨bz.out.1,τ cX (by decide),HX.out.bd.small⟩;obtain ⟨br,am,bE⟩:=HX.out.rule cP.out e9.out;have cY:=η (ι am bE);have bO:Hid (xs.length≤100):=η (by have:=HS.out.1; omega);have eW:w3.heap.size < wc.heap.size:=ψ HX.out.box;have Ha:Hid (Below wc.heap.size wc (wc.alloc (.cells #[] 40)).drew∧(wc.alloc (.cells #[] 40)).drew.heap[wc.heap.size]? = some (.cells #[] 40 (0,0))):=η ⟨(ζ).drew,ω wc _⟩
       have Hb:Hid (Below wc.heap.size wc ((wc.alloc (.cells #[] 40)).alloc (.cells #[.string a.name,.slice A2 a.args.length c2,.slice A4 zs.length c4] 40)).drew∧((wc.alloc (.cells #[] 40)).alloc (.cells #[.string a.name,.slice A2 a.args.length c2,.slice A4 zs.length c4] 40)).drew.heap[wc.heap.size]? = some (.cells #[] 40 (0,0))∧((wc.alloc (.cells #[] 40)).alloc (.cells #[.string a.name,.slice A2 a.args.length c2,.slice A4 zs.length c4] 40)).drew.heap[wc.heap.size+1]? = some (.cells #[.string a.name,.slice A2 a.args.length c2,.slice A4 zs.length c4] 40 (0,0))):=η ⟨((ζ).alloc (by simp) _).drew,(kU wc _ _).1,(kU wc _ _).2⟩
       have Hc:Hid (Below wc.heap.size wc ((wc.alloc (.cells #[.string a.name,.slice A2 a.args.length c2,.slice A4 zs.length c4] 40)).alloc (.cells #[] 40)).drew∧((wc.alloc (.cells #[.string a.name,.slice A2 a.args.length c2,.slice A4 zs.length c4] 40)).alloc (.cells #[] 40)).drew.heap[wc.heap.size+1]? = some (.cells #[] 40 (0,0))∧((wc.alloc (.cells #[.string a.name,.slice A2 a.args.length c2,.slice A4 zs.length c4] 40)).alloc (.cells #[] 40)).drew.heap[wc.heap.size]? = some (.cells #[.string a.name,.slice A2 a.args.length c2,.slice A4 zs.length c4] 40 (0,0))):=η ⟨((ζ).alloc (by simp) _).drew,(kU wc _ _).2,(kU wc _ _).1⟩;obtain ⟨z0,z1,z2⟩:=HX.out.cell;clear hX cX am bE
       go_upto_region 17 with fail
       go_cut [7] from 54 to 101 (fun v7 wx=>∃ (A5:Option Addr) (c5:Nat),v7=.slice A5 (xs.length+1) c5∧gQ g (q3+1) w (xs ++ [⟨a,zs⟩]) (.slice A5 (xs.length+1) c5) wx∧gQ g (q3+1) w xs (.slice Av xs.length cp) wx)
       case first=>
        go_wp2
        go_region_law
         (first
          | (refine Ee hi ao a6 aq (by rfl) (.tmp 87) (.tmp 88) (by rfl) wc.heap.size (by rfl) (by with_reducible exact Ha.out.2) ν aM.out (by rfl) rfl (by with_reducible exact Ha.out.1) bO.out ?_; intro A9 c9 w9 I a1 aw; obtain ⟨L9,eh,I,a0⟩:=I; have aR:=η (ι (I.below aX (ϑ.alloc ν (.cells #[.string a.name,.slice A2 a.args.length c2,.slice A4 zs.length c4] 40))) (ι (ω w9 (.cells #[.string a.name,.slice A2 a.args.length c2,.slice A4 zs.length c4] 40)) (a1.alloc a1.size (.cells #[.string a.name,.slice A2 a.args.length c2,.slice A4 zs.length c4] 40)))); obtain ⟨z0,z1,z2⟩:=(HX.out.below a1).cell; have bR:=η a0; clear I a1 aw a0 Ha Hb Hc)
          | (refine Ee hi ao a6 aq (by rfl) (.tmp 87) (.tmp 88) (by rfl) wc.heap.size (by rfl) (by with_reducible exact Hb.out.2.1) ν aM.out (by rfl) rfl (by with_reducible exact Hb.out.1) bO.out ?_; intro A9 c9 w9 I a1 aw; obtain ⟨L9,eh,I,a0⟩:=I; have aR:=η (ι I (ι ((aw.block (wc.heap.size+1) (by simp) (by simp)).trans Hb.out.2.2) a1)); obtain ⟨z0,z1,z2⟩:=(HX.out.below a1).cell; have bR:=η a0; clear I a1 aw a0 Ha Hb Hc)
          | (refine Ee hi ao a6 aq (by rfl) (.tmp 87) (.tmp 88) (by rfl) (wc.heap.size+1) (by rfl) (by with_reducible exact Hc.out.2.1) (Nat.le_succ _) aM.out (by rfl) rfl (by with_reducible exact Hc.out.1) bO.out ?_; intro A9 c9 w9 I a1 aw; obtain ⟨L9,eh,I,a0⟩:=I; have aR:=η (ι I (ι ((aw.block wc.heap.size (by simp; omega) (by simp)).trans Hc.out.2.2) a1)); obtain ⟨z0,z1,z2⟩:=(HX.out.below a1).cell; have bR:=η a0; clear I a1 aw a0 Ha Hb Hc)
          | (refine UE hi ao a6 aq (by rfl) (.tmp 89) (.tmp 91) (by rfl) (by rfl) aR.out.1 bR.out aM.out _ (by rfl) aR.out.2.1 cY.out.1 cY.out.2 eS.out rfl aR.out.2.2 bO.out ?_; intro fa fb fd cn co; have HY:=η cn; have HO:=η (aM.out.below co); clear cn co aR bR z0 z1 z2))
        all_goals
         go_wp2
         go_meet
         case rel=>exact ⟨_,_,rfl,HY.out,HO.out⟩
       case rest=>
        clear HX cY aM HF cQ Ha Hb Hc z0 z1 z2;obtain ⟨A5,c5,rfl,hY,hO⟩:=hcut;have HY:=η hY;have HO:=η hO;obtain ⟨bq,hq,_⟩:=hY.rules;have ei:=uo _ _ bq _ hq;clear hq hY hO;generalize fH (xs ++ [⟨a,zs⟩])=pc at *
        go_wp2_with fail
        refine ei.mono ?_;rintro e fe ⟨rfl,bj⟩;have d0:=η (HY.out.below bj);have d1:=η (HO.out.below bj);clear ei bj HY HO;have d2:Hid (q3+2≤q+40):=η (by have:=bA.out.1; omega);by_cases hc:(pc:Int)=0
        ·go_wp2
         go_roundw
         case rel=>exact ⟨k - 1,xs ++ [⟨a,zs⟩],A5,c5,q3+1,by have:=HK.out; first | (unfold wrap64; congr 1; omega) | go_num,by rw [χ]; rfl,by rw [χ]; have:=HS.out; have:=HK.out; simp; omega,by have:=HS.out; omega,by have:=HS.out; have:=HK.out; have:=d2.out; omega,by rw [χ]; exact d0.out⟩
         case measure=>have:=HK.out; simp [intOf]; omega
        ·have y:=pick_any g (q3+1) 24 _ d1.out.rdr (by have:=HS.out; have:=bA.out; omega) (by omega) (by omega)
         go_wp2_with fail
         refine y.mono ?_;rintro e ff ⟨ej,rfl,ek,bk,bl⟩;have eT:=η (d0.out.call bk (aH.dA bl));have eV:=η (d1.out.call bk (aH.dA bl));clear y ek bk bl d0 d1;by_cases hm:ej=0
         ·subst hm
          go_wp2;go_roundw
          case rel=>exact ⟨k - 1,xs ++ [⟨a,zs⟩],A5,c5,q3+1+1,by have:=HK.out; first | (unfold wrap64; congr 1; omega) | go_num,by rw [χ]; rfl,by rw [χ]; have:=HS.out; have:=HK.out; simp; omega,by have:=HS.out; omega,by have:=HS.out; have:=HK.out; have:=d2.out; omega,by rw [χ]; exact eT.out⟩
          case measure=>have:=HK.out; simp [intOf]; omega
         ·have eK:((ej:Int) == 0)=false:=by simp; omega
          have fg:((pc:Int) == 0)=false:=by simp; omega
          clear hc hm;go_wp2;go_roundw
          case rel=>exact ⟨k - 1,xs,Av,cp,q3+1+1,by have:=HK.out; first | (unfold wrap64; congr 1; omega) | go_num,rfl,by have:=HS.out; omega,by have:=HS.out; omega,by have:=HS.out; have:=HK.out; have:=d2.out; omega,eV.out⟩
          case measure=>have:=HK.out; simp [intOf]; omega
    ·obtain rfl:k=0:=by omega
     clear cJ;go_wp2;go_ret;exact ⟨xs,_,q,rfl,by have:=HS.out; omega,by have:=HS.out; omega,HF.out⟩
end Go.Proofs.YtkjinanbccloeaaGreatDoor
