/- Of the proof of FnDeltaBoth: DrawRs, Draw5. -/
import Derived.Test.YtkjinanbccloeaaGreatDoorC19
import Derived.Test.YtkjinanbccloeaaGreatDoorC20
set_option linter.unusedVariables false
set_option maxHeartbeats 4000000
set_option maxRecDepth 100000
namespace Go.Proofs.YtkjinanbccloeaaGreatDoor
open Go.RowKit D
attribute [local go_sem ↓] Go.wp_at_zero Go.wp_at_succ
theorem D.zu (n x y:ByteArray) (hn:Sm n) (J:Sm x) (U:Sm y):AtS (edge n x y):=⟨hn,by simp [edge],fun t I=>by
 simp only [edge,ύ,List.not_mem_nil,or_false] at I
 rcases I with rfl | rfl
 ·exact J
 ·exact U⟩
theorem zA (g p:Nat) (w:World) (h:kP g p w) (hp:p≤500000):
  Calls Tryz.prog 101 #[.pointer (some ⟨g,0,none⟩)] w (U3 5 g p 100 w):=by
 obtain ⟨i0,hi,ao,a6,aq⟩:=info_parts Iy;have hg:=h.lt;have HF:=η (gY.start hg h);have y:=pick_any g p 2 _ HF.out.rdr (by omega) (by omega) (by omega);have HP:=η hp;clear h hp
 go_enter Tryz.func101,Tryz.ntmps101
 go_wp2_with fail
 refine y.mono ?_;rintro e w1 ⟨m,rfl,hm,aD,d2⟩;have a8:=η (HF.out.call aD (aI.dL d2));clear y aD d2 HF hm
 go_upto_if 11 with fail
 go_cut [3] from 8 to 102 (fun v wx=>∃ (xs:List Ru) (Av:Option Addr) (cp:Nat),v=.slice Av xs.length cp∧xs.length≤2∧gY g (p+1) w xs (.slice Av xs.length cp) wx)
 case first=>
  by_cases hz:m=0
  ·subst hz
   go_wp2_with fail
   refine (nN ⟨#[116]⟩ ⟨#[88]⟩ ⟨#[89]⟩ _ (by decide) (by decide) (by decide)).mono ?_;rintro e w2 ⟨d3,b1,b2,rfl,a2,d4⟩;have cq:w1.heap.size≤b2:=by omega
   clear d4 b1;have T2:Below w1.heap.size w1 w2:=d3
   go_wp2_with fail
   refine (nN ⟨#[101]⟩ ⟨#[88]⟩ ⟨#[89]⟩ _ (by decide) (by decide) (by decide)).mono ?_;rintro e w3 ⟨cr,ek,b3,rfl,bX,d5⟩;have cu:w2.heap.size≤b3:=by omega
   clear d5 ek;have T3:Below w1.heap.size w1 w3:=T2.trans (cr.mono T2.size);replace a2:=au.below a2 cr;have bn:Below w3.heap.size w3 (w3.alloc (.cells #[.bool false,.string ⟨#[101]⟩,.slice (some ⟨b3,0,none⟩) 2 2] 42)):=ζ;have c6:=RS (ω w3 (.cells #[.bool false,.string ⟨#[101]⟩,.slice (some ⟨b3,0,none⟩) 2 2] 42)) (au.below bX bn);have c7:=au.below a2 bn;have ca:iD (w3.alloc (.cells #[.bool false,.string ⟨#[101]⟩,.slice (some ⟨b3,0,none⟩) 2 2] 42)) [.string ⟨#[116]⟩,.slice (some ⟨b2,0,none⟩) 2 2,.slice (some ⟨w3.heap.size,0,none⟩) 1 1] (⟨edge ⟨#[116]⟩ ⟨#[88]⟩ ⟨#[89]⟩,[⟨false,edge ⟨#[101]⟩ ⟨#[88]⟩ ⟨#[89]⟩⟩]⟩:Ru) ([b2] ++ (w3.heap.size :: [b3])):=⟨_,_,_,_,rfl,by decide,rfl,dQ c7,c6⟩
   obtain ⟨L3,eW,d6,cb,d7,cv,d8,d9,da⟩:=a8.out.arm (T3.trans (bn.mono T3.size)) ca (by
    intro b hb;have hz:=T3.size;have:=T2.size;have:=a8.out.kept.size;simp only [List.cons_append,List.nil_append,ύ,List.not_mem_nil,or_false] at hb
    rcases hb with rfl | rfl | rfl <;> omega)
   rw [World.size_alloc] at cv;have a9:=η (ι d6 (ι cb (ι d7 (ι cv (ι d8 (ι d9 da))))))
   have db:Hid (TK (⟨edge ⟨#[116]⟩ ⟨#[88]⟩ ⟨#[89]⟩,[⟨false,edge ⟨#[101]⟩ ⟨#[88]⟩ ⟨#[89]⟩⟩]⟩:Ru)):=η ⟨zu _ _ _ (by decide) (by decide) (by decide),by simp,fun x hx=>by
    simp only [ύ,List.not_mem_nil,or_false] at hx
    rcases hx with rfl <;> exact zu _ _ _ (by decide) (by decide) (by decide)⟩
   clear d3 a2 cq T2 cr bX cu T3 bn c6 c7 ca d6 cb d7 cv d8 d9 da
   go_wp2_with (at_builtin; refine dG rfl _ _ _ rfl w.heap.size 40 i0 (.agg #[.string ⟨#[]⟩,.slice none 0 0,.slice none 0 0]) 3 64 Tryz.underlying23 hi ao a6 aq rfl (by omega) bI (.slice (some ⟨w.heap.size,0,none⟩) 0 0) 0 _ [] _ rfl a9.out.1 rfl (some ⟨w3.heap.size+1,0,none⟩) 1 1 _ [(⟨edge ⟨#[116]⟩ ⟨#[88]⟩ ⟨#[89]⟩,[⟨false,edge ⟨#[101]⟩ ⟨#[88]⟩ ⟨#[89]⟩⟩]⟩:Ru)] _ rfl a9.out.2.2.1 rfl a9.out.2.2.2.1 a9.out.2.2.2.2.1 (by unfold maxLen; decide) (by decide) w1 w.heap.size a9.out.2.2.2.2.2.1 ν a9.out.2.2.2.2.2.2 ?_; intro A4 el w4 dc de em bo)
   have cw:=η (a8.out.app dc a9.out.2.1 de db.out);clear dc de em bo a9
   go_wp2_with fail
   refine (nN ⟨#[116]⟩ ⟨#[88]⟩ ⟨#[90]⟩ _ (by decide) (by decide) (by decide)).mono ?_;rintro e w5 ⟨b4,en,b5,rfl,a5,dg⟩;have cx:w4.heap.size≤b5:=by omega
   clear dg en;have T5:Below w4.heap.size w4 w5:=b4
   go_wp2_with fail
   refine (nN ⟨#[116]⟩ ⟨#[88]⟩ ⟨#[89]⟩ _ (by decide) (by decide) (by decide)).mono ?_;rintro e w6 ⟨cy,eo,b6,rfl,az,di⟩;have cz:w5.heap.size≤b6:=by omega
   clear di eo;have T6:Below w4.heap.size w4 w6:=T5.trans (cy.mono T5.size);replace a5:=au.below a5 cy
   go_wp2_with fail
   refine (nN ⟨#[101]⟩ ⟨#[89]⟩ ⟨#[90]⟩ _ (by decide) (by decide) (by decide)).mono ?_;rintro e w7 ⟨bp,ep,b7,rfl,cc,dj⟩;have cA:w6.heap.size≤b7:=by omega
   clear dj ep;have T7:Below w4.heap.size w4 w7:=T6.trans (bp.mono T6.size);replace a5:=au.below a5 bp;replace az:=au.below az bp;have b8:Below w7.heap.size w7 (w7.alloc (.cells #[.bool false,.string ⟨#[116]⟩,.slice (some ⟨b6,0,none⟩) 2 2,.bool false,.string ⟨#[101]⟩,.slice (some ⟨b7,0,none⟩) 2 2] 42)):=ζ;have cd:=AP (ω w7 (.cells #[.bool false,.string ⟨#[116]⟩,.slice (some ⟨b6,0,none⟩) 2 2,.bool false,.string ⟨#[101]⟩,.slice (some ⟨b7,0,none⟩) 2 2] 42)) (au.below az b8) (au.below cc b8);have ce:=au.below a5 b8;have cg:iD (w7.alloc (.cells #[.bool false,.string ⟨#[116]⟩,.slice (some ⟨b6,0,none⟩) 2 2,.bool false,.string ⟨#[101]⟩,.slice (some ⟨b7,0,none⟩) 2 2] 42)) [.string ⟨#[116]⟩,.slice (some ⟨b5,0,none⟩) 2 2,.slice (some ⟨w7.heap.size,0,none⟩) 2 2] (⟨edge ⟨#[116]⟩ ⟨#[88]⟩ ⟨#[90]⟩,[⟨false,edge ⟨#[116]⟩ ⟨#[88]⟩ ⟨#[89]⟩⟩,⟨false,edge ⟨#[101]⟩ ⟨#[89]⟩ ⟨#[90]⟩⟩]⟩:Ru) ([b5] ++ (w7.heap.size :: ([b6] ++ [b7]))):=⟨_,_,_,_,rfl,by decide,rfl,dQ ce,cd⟩
   obtain ⟨L7,cB,aa,U,a3,a4,ab,a7,b9⟩:=cw.out.arm (T7.trans (b8.mono T7.size)) cg (by
    intro b hb;have hz:=T7.size;have:=T5.size;have:=T6.size;have:=cw.out.kept.size;simp only [List.cons_append,List.nil_append,ύ,List.not_mem_nil,or_false] at hb
    rcases hb with rfl | rfl | rfl | rfl <;> omega)
   rw [World.size_alloc] at a4;have ac:=η (ι aa (ι U (ι a3 (ι a4 (ι ab (ι a7 b9))))))
   have dk:Hid (TK (⟨edge ⟨#[116]⟩ ⟨#[88]⟩ ⟨#[90]⟩,[⟨false,edge ⟨#[116]⟩ ⟨#[88]⟩ ⟨#[89]⟩⟩,⟨false,edge ⟨#[101]⟩ ⟨#[89]⟩ ⟨#[90]⟩⟩]⟩:Ru)):=η ⟨zu _ _ _ (by decide) (by decide) (by decide),by simp,fun x hx=>by
    simp only [ύ,List.not_mem_nil,or_false] at hx
    rcases hx with rfl | rfl <;> exact zu _ _ _ (by decide) (by decide) (by decide)⟩
   clear b4 a5 cx T5 cy az cz T6 bp cc cA T7 b8 cd ce cg aa U a3 a4 ab a7 b9
   go_wp2_with (at_builtin; refine dG rfl _ _ _ rfl w.heap.size 40 i0 (.agg #[.string ⟨#[]⟩,.slice none 0 0,.slice none 0 0]) 3 64 Tryz.underlying23 hi ao a6 aq rfl (by omega) bI (.slice A4 1 el) 1 _ [(⟨edge ⟨#[116]⟩ ⟨#[88]⟩ ⟨#[89]⟩,[⟨false,edge ⟨#[101]⟩ ⟨#[88]⟩ ⟨#[89]⟩⟩]⟩:Ru)] _ rfl ac.out.1 rfl (some ⟨w7.heap.size+1,0,none⟩) 1 1 _ [(⟨edge ⟨#[116]⟩ ⟨#[88]⟩ ⟨#[90]⟩,[⟨false,edge ⟨#[116]⟩ ⟨#[88]⟩ ⟨#[89]⟩⟩,⟨false,edge ⟨#[101]⟩ ⟨#[89]⟩ ⟨#[90]⟩⟩]⟩:Ru)] _ rfl ac.out.2.2.1 rfl ac.out.2.2.2.1 ac.out.2.2.2.2.1 (by unfold maxLen; decide) (by decide) w4 w.heap.size ac.out.2.2.2.2.2.1 ν ac.out.2.2.2.2.2.2 ?_; intro A8 cD w8 ae af bc ar)
   have cE:=η (cw.out.app ae ac.out.2.1 af dk.out);clear ae af bc ar ac;go_wp2
   go_meet
   case rel=>exact ⟨[(⟨edge ⟨#[116]⟩ ⟨#[88]⟩ ⟨#[89]⟩,[⟨false,edge ⟨#[101]⟩ ⟨#[88]⟩ ⟨#[89]⟩⟩]⟩:Ru)] ++ [(⟨edge ⟨#[116]⟩ ⟨#[88]⟩ ⟨#[90]⟩,[⟨false,edge ⟨#[116]⟩ ⟨#[88]⟩ ⟨#[89]⟩⟩,⟨false,edge ⟨#[101]⟩ ⟨#[89]⟩ ⟨#[90]⟩⟩]⟩:Ru)],A8,cD,rfl,by simp,cE.out⟩
  ·have a6:¬ (m:Int)=0:=by omega
   go_wp2
   go_meet
   case rel=>exact ⟨[],_,_,rfl,by simp,a8.out⟩
 case rest=>
  obtain ⟨xs,Av,cp,rfl,et,hF⟩:=hcut;have HF:=η hF;have y:=pick_any g (p+1) 3 _ HF.out.rdr (by have:=HP.out; omega) (by omega) (by omega);clear hF
  go_wp2_with fail
  refine y.mono ?_;rintro e w5 ⟨m5,rfl,ew,dl,dp⟩;have bf:=η (HF.out.call dl (aI.dL dp));have ds:(xs.length:Int)≤2:=by omega
  clear y dl dp HF ew
  go_upto_if 32 with fail
  go_cut [3] from 8 to 102 (fun v wx=>∃ (xs:List Ru) (Av:Option Addr) (cp q:Nat),v=.slice Av xs.length cp∧xs.length≤3∧q≤p+3∧gY g q w xs (.slice Av xs.length cp) wx)
  case first=>
   by_cases hz:m5=0
   ·subst hz
    obtain ⟨wz,bt⟩:∃ wz,wz=w5:=⟨_,rfl⟩;have dt:Below wz.heap.size wz ((wz.alloc (.cells #[.bool true,.string ⟨#[88]⟩] 91)).alloc (.cells #[.bool true,.string ⟨#[88]⟩] 91)):=(ζ).alloc (by simp) _;have cG:=η ((show gY g (p+1+1) w xs (.slice Av xs.length cp) wz from bt ▸ bf.out).below dt);have bg:=η (show gY g (p+1+1) w xs (.slice Av xs.length cp) wz from bt ▸ bf.out);have du:Hid (((wz.alloc (.cells #[.bool true,.string ⟨#[88]⟩] 91)).alloc (.cells #[.bool true,.string ⟨#[88]⟩] 91)).heap[wz.heap.size]? = some (.cells #[.bool true,.string ⟨#[88]⟩] 91 (0,0))):=η ((Below.heap_alloc _ _ _ (by simp)).trans (ω _ _));have dv:Hid (((wz.alloc (.cells #[.bool true,.string ⟨#[88]⟩] 91)).alloc (.cells #[.bool true,.string ⟨#[88]⟩] 91)).heap[wz.heap.size+1]? = some (.cells #[.bool true,.string ⟨#[88]⟩] 91 (0,0))):=η (by simpa using ω (wz.alloc (.cells #[.bool true,.string ⟨#[88]⟩] 91)) (.cells #[.bool true,.string ⟨#[88]⟩] 91))
    have aE:=rV g (p+1+1) [⟨#[113]⟩,⟨#[115]⟩] 2 ((wz.alloc (.cells #[.bool true,.string ⟨#[88]⟩] 91)).alloc (.cells #[.bool true,.string ⟨#[88]⟩] 91)) cG.out.rdr (by have:=HP.out; omega) rfl (by decide) (by decide) (by decide);simp only [World.size_alloc] at aE;rw [← bt];clear dt bt bf
    go_wp2_with fail
    refine aE.mono ?_;rintro e w6 ⟨s,rfl,hs,dx,bh⟩;have eZ:g < wz.heap.size:=by have:=bg.out.kept.size; omega
    have dy:=bh.blk du.out (by simp; omega);have dz:=bh.blk dv.out (by simp; omega);have ag:=η (cG.out.call dx bh);have f0:wz.heap.size+2≤w6.heap.size:=by have:=bh.size; simpa using this
    have bu:Below w6.heap.size w6 ((w6.alloc (.cells #[.bool true,.string ⟨#[88]⟩] 91)).alloc (.cells #[.bool false,.string ⟨#[112]⟩,.slice (some ⟨wz.heap.size+1,0,none⟩) 1 1,.bool true,.string s,.slice (some ⟨w6.heap.size,0,none⟩) 1 1] 42)):=(ζ).alloc (by simp) _;have dC:Below w6.heap.size w6 (w6.alloc (.cells #[.bool true,.string ⟨#[88]⟩] 91)):=ζ;have ci:Below (w6.alloc (.cells #[.bool true,.string ⟨#[88]⟩] 91)).heap.size (w6.alloc (.cells #[.bool true,.string ⟨#[88]⟩] 91)) ((w6.alloc (.cells #[.bool true,.string ⟨#[88]⟩] 91)).alloc (.cells #[.bool false,.string ⟨#[112]⟩,.slice (some ⟨wz.heap.size+1,0,none⟩) 1 1,.bool true,.string s,.slice (some ⟨w6.heap.size,0,none⟩) 1 1] 42)):=ζ;have tA:=aT.below (vU dy (by decide)) bu;have tB:=aT.below (vU dz (by decide)) bu;have tC:=aT.below (vU (ω w6 (.cells #[.bool true,.string ⟨#[88]⟩] 91)) (by decide)) ci
    have av:=AP (ω (w6.alloc (.cells #[.bool true,.string ⟨#[88]⟩] 91)) (.cells #[.bool false,.string ⟨#[112]⟩,.slice (some ⟨wz.heap.size+1,0,none⟩) 1 1,.bool true,.string s,.slice (some ⟨w6.heap.size,0,none⟩) 1 1] 42)) (show aK _ [.string ⟨#[112]⟩,_] ⟨⟨#[112]⟩,[⟨true,⟨#[88]⟩⟩]⟩ _ from ⟨_,rfl,(show (⟨#[112]⟩:ByteArray).size≤maxLen from by decide),tB⟩) (show aK _ [.string s,_] ⟨s,[⟨true,⟨#[88]⟩⟩]⟩ _ from ⟨_,rfl,Sm.max hs,tC⟩);rw [World.size_alloc] at av
    have am:iD ((w6.alloc (.cells #[.bool true,.string ⟨#[88]⟩] 91)).alloc (.cells #[.bool false,.string ⟨#[112]⟩,.slice (some ⟨wz.heap.size+1,0,none⟩) 1 1,.bool true,.string s,.slice (some ⟨w6.heap.size,0,none⟩) 1 1] 42)) [.string ⟨#[114]⟩,.slice (some ⟨wz.heap.size,0,none⟩) 1 1,.slice (some ⟨w6.heap.size+1,0,none⟩) 2 2] (⟨⟨⟨#[114]⟩,[⟨true,⟨#[88]⟩⟩]⟩,[⟨false,⟨⟨#[112]⟩,[⟨true,⟨#[88]⟩⟩]⟩⟩,⟨true,⟨s,[⟨true,⟨#[88]⟩⟩]⟩⟩]⟩:Ru) ([wz.heap.size] ++ ((w6.heap.size+1) :: ([wz.heap.size+1] ++ [w6.heap.size]))):=
     ⟨_,_,_,_,rfl,(show (⟨#[114]⟩:ByteArray).size≤maxLen from by decide),rfl,tA,av⟩
    have f1:w.heap.size≤wz.heap.size:=bg.out.kept.size
    obtain ⟨L7,cB,aa,U,a3,a4,ab,a7,b9⟩:=ag.out.Xh bu am (by
     intro b hb;simp only [List.cons_append,List.nil_append,ύ,List.not_mem_nil,or_false] at hb
     rcases hb with rfl | rfl | rfl | rfl
     ·exact ⟨by omega,bg.out.far ν⟩
     ·exact ⟨by omega,ag.out.far (by omega)⟩
     ·exact ⟨by omega,bg.out.far (by omega)⟩
     ·exact ⟨by omega,ag.out.far (by omega)⟩)
    simp only [World.size_alloc] at a4;have HY:=η (ι aa (ι U (ι a3 (ι a4 (ι ab (ι a7 b9))))))
    have ey:Hid (TK (⟨⟨⟨#[114]⟩,[⟨true,⟨#[88]⟩⟩]⟩,[⟨false,⟨⟨#[112]⟩,[⟨true,⟨#[88]⟩⟩]⟩⟩,⟨true,⟨s,[⟨true,⟨#[88]⟩⟩]⟩⟩]⟩:Ru)):=η ⟨⟨(show Sm ⟨#[114]⟩ from by decide),by simp,fun t ht=>by
     simp only [ύ,List.not_mem_nil,or_false] at ht; subst ht; decide⟩,by simp,fun x hx=>by
     simp only [ύ,List.not_mem_nil,or_false] at hx
     rcases hx with rfl | rfl
     ·exact ⟨by decide,by simp,fun t ht=>by simp only [ύ,List.not_mem_nil,or_false] at ht; subst ht; decide⟩
     ·exact ⟨hs,by simp,fun t ht=>by simp only [ύ,List.not_mem_nil,or_false] at ht; subst ht; decide⟩⟩
    have dE:Hid (xs.length+1≤maxLen∧(xs.length+1) * 64≤140737488355328):=η (by unfold maxLen; omega);clear aE hs dx bh dy dz bu dC ci tA tB tC av am aa U a3 a4 ab a7 b9 du dv bg cG
    go_wp2_with (at_builtin; refine dG rfl _ _ _ rfl w.heap.size 40 i0 (.agg #[.string ⟨#[]⟩,.slice none 0 0,.slice none 0 0]) 3 64 Tryz.underlying23 hi ao a6 aq rfl (by omega) bI (.slice Av xs.length cp) xs.length _ xs _ rfl HY.out.1 rfl (some ⟨w6.heap.size+1+1,0,none⟩) 1 1 _ [(⟨⟨⟨#[114]⟩,[⟨true,⟨#[88]⟩⟩]⟩,[⟨false,⟨⟨#[112]⟩,[⟨true,⟨#[88]⟩⟩]⟩⟩,⟨true,⟨s,[⟨true,⟨#[88]⟩⟩]⟩⟩]⟩:Ru)] _ rfl HY.out.2.2.1 rfl HY.out.2.2.2.1 HY.out.2.2.2.2.1 dE.out.1 dE.out.2 w6 w.heap.size HY.out.2.2.2.2.2.1 ν HY.out.2.2.2.2.2.2 ?_; intro A8 cD w8 ae af bc ar)
    have cE:=η (ag.out.app ae HY.out.2.1 af ey.out);clear ae af bc ar HY;go_wp2
    go_meet
    case rel=>exact ⟨xs ++ [(⟨⟨⟨#[114]⟩,[⟨true,⟨#[88]⟩⟩]⟩,[⟨false,⟨⟨#[112]⟩,[⟨true,⟨#[88]⟩⟩]⟩⟩,⟨true,⟨s,[⟨true,⟨#[88]⟩⟩]⟩⟩]⟩:Ru)],A8,cD,p+1+1+1,by simp,by simp; omega,by omega,by rw [χ]; exact cE.out⟩
   ·have a6:¬ (m5:Int)=0:=by omega
    go_wp2
    go_meet
    case rel=>exact ⟨xs,Av,cp,_,rfl,by omega,by omega,bf.out⟩
  case rest=>
   clear et ds bf;obtain ⟨xs,Av,cp,q,rfl,ez,hq,hF⟩:=hcut;have ag:=η hF;have y:=pick_any g q 3 _ ag.out.rdr (by have:=HP.out; omega) (by omega) (by omega);clear hF
   go_wp2_with fail
   refine y.mono ?_;rintro e w7 ⟨n0,rfl,dT,a3,e0⟩;have e1:=η (ag.out.call a3 (aI.dL e0));have bv:Hid (xs.length+n0≤5∧n0≤2∧q+1+40 * n0≤p+90):=η (by omega);have eA:(n0:Int) < 3:=dT;clear y a3 e0 ag dT ez hq;go_wp2
   go_loopw [3,4] (fun v i wr=>∃ (k:Nat) (xs:List Ru) (Av:Option Addr) (cp q:Nat),i=.int .i64 k∧v=.slice Av xs.length cp∧xs.length+k≤5∧k≤2∧q+40 * k≤p+90∧gY g q w xs (.slice Av xs.length cp) wr) (fun _ i _=>(intOf i).toNat)
   case atStart=>exact ⟨n0,xs,_,_,q+1,rfl,rfl,bv.out.1,bv.out.2.1,bv.out.2.2,e1.out⟩
   case round=>
    obtain ⟨k,xs,Av,cp,q,rfl,rfl,e2,e3,hq,hF⟩:=hrel;have HF:=η hF;have HS:Hid (xs.length+k≤5∧k≤2∧q+40 * k≤p+90∧q≤600000):=η ⟨e2,e3,hq,by have:=HP.out; omega⟩;clear hF e1 bv e2 e3 hq eA;by_cases cI:0 < k
    ·have f3:(0:Int) < (k:Int):=by omega
     have f4:(k:Int)≤2:=by have:=HS.out.2.1; omega
     have HK:=η cI;have aE:=rV g q [⟨#[113]⟩,⟨#[115]⟩,⟨#[114]⟩,⟨#[117]⟩,⟨#[116]⟩] 5 wr HF.out.rdr (by have:=HS.out; omega) rfl (by decide) (by decide) (by decide);clear cI
     go_wp2_with fail
     refine aE.mono ?_;rintro e w1 ⟨s,rfl,hs,aD,e4⟩;have a8:=η (HF.out.call aD e4);have e5:=oQ s true g (q+1) w1 aD (by have:=HS.out; omega) hs;clear aE hs aD e4
     go_wp2_with fail
     refine e5.mono ?_;rintro e w2 ⟨a,v2,L2,q2,rfl,b1,eB,cJ,bw,eC,e6,cj⟩;obtain ⟨A2,c2,rfl⟩:=dZ cJ.own;have cK:=η (a8.out.call bw e6);have bx:Below w2.heap.size w2 (w2.alloc (.cells #[.string ⟨#[101]⟩,.string ⟨#[112]⟩,.string ⟨#[101]⟩,.string ⟨#[116]⟩,.string ⟨#[113]⟩,.string ⟨#[104]⟩,.string ⟨#[122]⟩,.string ⟨#[115]⟩] 9)):=ζ;obtain ⟨b2,ck,bi⟩:=(cJ.below bV bx).slice;have a2:aK (w2.alloc (.cells #[.string ⟨#[101]⟩,.string ⟨#[112]⟩,.string ⟨#[101]⟩,.string ⟨#[116]⟩,.string ⟨#[113]⟩,.string ⟨#[104]⟩,.string ⟨#[122]⟩,.string ⟨#[115]⟩] 9)) [.string a.name,.slice A2 a.args.length c2] a b2:=⟨_,rfl,Sm.max b1,ck⟩;have cL:Hid (∀ b ∈ b2,w.heap.size≤b):=η fun b hb=>τ a8.out.kept.size ((bi b hb).resolve_right (by simp))
     have cl:g ∉ b2:=fun hg=>by have:=cL.out g hg; have:=cK.out.glt; omega
     have bz:Hid (AtS a∧q2≤q+7):=η ⟨⟨b1,by omega,cj⟩,by omega⟩;have e7:=CO g q2 [⟨#[101]⟩,⟨#[112]⟩,⟨#[101]⟩,⟨#[116]⟩,⟨#[113]⟩,⟨#[104]⟩,⟨#[122]⟩,⟨#[115]⟩] 8 w2.heap.size _ (bw.below bx) (ω w2 _) (Nat.ne_of_lt bw.lt) (by have:=HS.out; have:=bz.out.2; omega) rfl (by decide) (by decide) (by decide);have cP:=η (cK.out.below bx);have e8:Hid (w.heap.size≤(w2.alloc (.cells #[.string ⟨#[101]⟩,.string ⟨#[112]⟩,.string ⟨#[101]⟩,.string ⟨#[116]⟩,.string ⟨#[113]⟩,.string ⟨#[104]⟩,.string ⟨#[122]⟩,.string ⟨#[115]⟩] 9)).heap.size):=η cP.out.kept.size;have cQ:=η (ι a2 cl);clear e5 b1 eB cJ bw eC e6 cj bx ck bi a2 cl cK a8
     go_wp2_with fail
     refine e7.mono ?_;rintro e w3 ⟨ys,v3,q3,rfl,eD,e9,eE,av⟩;obtain ⟨A3,c3,rfl⟩:=av.shape;have cT:=η (jm.start cQ.out.1 cQ.out.2 av);have bA:Hid (q3≤q+32∧ys.length≤3):=η ⟨by have:=bz.out.2; omega,e9⟩;have y:=pick_any g q3 8 _ cT.out.bd.rdr (by have:=HS.out; have:=bA.out; omega) (by omega) (by omega);clear e7 eD e9 eE av cQ
     go_wp2_with fail
     refine y.mono ?_;rintro e w4 ⟨m8,rfl,eI,ea,bo⟩;have aL:=η (cT.out.call ea (aI.dL bo));clear y eI ea bo cT;generalize (w2.alloc (.cells #[.string ⟨#[101]⟩,.string ⟨#[112]⟩,.string ⟨#[101]⟩,.string ⟨#[116]⟩,.string ⟨#[113]⟩,.string ⟨#[104]⟩,.string ⟨#[122]⟩,.string ⟨#[115]⟩] 9))=wb at *
     go_upto_if 70 with fail
     go_cut [] from 54 to 101 (fun wx=>∃ (zs:List Pt) (A4:Option Addr) (c4:Nat),zs.length≤3∧jm g (q3+1) w3.heap.size wb a A2 c2 b2 zs A4 c4 wx)
     case first=>
      by_cases hm:m8=0
      ·subst hm
       have J:=η aL.out.bare;have f2:=aL.out.wE 2;have q2:=aL.out.cell.2.2;have n4:w3.heap.size < w4.heap.size:=ψ aL.out.box;go_wp2
       go_meet
       case rel=>exact ⟨[],_,_,by simp,J.out⟩
      ·have eJ:¬ (m8:Int)=0:=by omega
       go_wp2
       go_meet
       case rel=>exact ⟨ys,_,_,bA.out.2,aL.out⟩
     case rest=>
      clear aL;obtain ⟨zs,A4,c4,eb,hX⟩:=hcut;have HX:=η hX;have bB:=η eb;have zc:=hX.cell;obtain ⟨z0,z1,z2⟩:=zc;obtain ⟨br,am,bE⟩:=hX.rule cL.out e8.out;have ec:=CJ ⟨a,zs⟩ _ _ _ br _ am (τ (Fp _ 4 zs fun x hx=>(hX.bd.small x hx).2.1) (by omega)) (τ bz.out.1.2.1 (by omega));clear hX eb am bE
      go_wp2_with fail
      refine ec.mono ?_;rintro e w5 ⟨he,b4⟩;replace he:e=.returned (.bool (gm a zs)):=he;subst he;have J:=η (HX.out.below b4);clear ec b4 z0 z1 z2 HX;generalize gm a zs=tb
      go_upto_if 75 with fail
      go_cut [] from 54 to 101 (fun wx=>∃ (zs:List Pt) (A4:Option Addr) (c4:Nat),zs.length≤4∧jm g (q3+1) w3.heap.size wb a A2 c2 b2 zs A4 c4 wx)
      case first=>
       cases tb
       case true=>
        go_wp2
        go_meet
        case rel=>exact ⟨zs,_,_,by have:=bB.out; omega,J.out⟩
       case false=>
        obtain ⟨p0,hp,eK,eL,eM⟩:=info_parts Iu;have cU:Below w5.heap.size w5 (w5.alloc (.cells #[.bool true,.string ⟨#[88]⟩,.bool true,.string ⟨#[89]⟩,.bool true,.string ⟨#[90]⟩] 91)):=ζ;have cV:=J.out.below cU;have ed:=MW (ω w5 (.cells #[.bool true,.string ⟨#[88]⟩,.bool true,.string ⟨#[89]⟩,.bool true,.string ⟨#[90]⟩] 91)) (by decide) (by decide) (by decide);obtain ⟨L7,cB,aa,U,a3,a4,ab,a7⟩:=cV.bd.part (a:=(⟨⟨#[104]⟩,[⟨true,⟨#[88]⟩⟩,⟨true,⟨#[89]⟩⟩,⟨true,⟨#[90]⟩⟩]⟩:A)) J.out.bd rfl ⟨_,rfl,(show (⟨#[104]⟩:ByteArray).size≤maxLen from by decide),ed⟩ (fun b hb=>by simp at hb; omega) false;have HY:=η (ι aa (ι U (ι a3 (ι a4 (ι ab (ι a7 (τ cV.bd.kept.size a7.size)))))));simp only [World.size_alloc] at HY;have cm:Below w5.heap.size w5 ((w5.alloc (.cells #[.bool true,.string ⟨#[88]⟩,.bool true,.string ⟨#[89]⟩,.bool true,.string ⟨#[90]⟩] 91)).alloc (.cells #[.bool false,.string ⟨#[104]⟩,.slice (some ⟨w5.heap.size,0,none⟩) 3 3] 42)):=cU.trans (ϑ.alloc (by simp) _)
        have bL:=η cm
        have eN:Hid (XM ⟨false,(⟨⟨#[104]⟩,[⟨true,⟨#[88]⟩⟩,⟨true,⟨#[89]⟩⟩,⟨true,⟨#[90]⟩⟩]⟩:A)⟩):=η ⟨by decide,by simp,fun t ht=>by
         simp only [ύ,List.not_mem_nil,or_false] at ht
         rcases ht with rfl | rfl | rfl <;> decide⟩
        have ee:Hid (zs.length+1≤maxLen∧(zs.length+1) * 48≤140737488355328):=η (by have:=bB.out; unfold maxLen; omega);have f2:=J.out.wE 2;have q2:=J.out.cell.2.2;have n4:w3.heap.size < w5.heap.size:=ψ J.out.box;clear cU cV ed aa U a3 a4 ab a7 cm
        go_wp2_with (at_builtin; refine dG rfl _ _ _ rfl wb.heap.size 42 p0 (.agg #[.bool false,.string ⟨#[]⟩,.slice none 0 0]) 3 48 Tryz.underlying38 hp eK eL eM rfl (by omega) jI (.slice A4 zs.length c4) zs.length L7 zs cB rfl HY.out.1 rfl (some ⟨w5.heap.size+1,0,none⟩) 1 1 _ [⟨false,(⟨⟨#[104]⟩,[⟨true,⟨#[88]⟩⟩,⟨true,⟨#[89]⟩⟩,⟨true,⟨#[90]⟩⟩]⟩:A)⟩] _ rfl HY.out.2.2.1 rfl HY.out.2.2.2.1 HY.out.2.2.2.2.1 ee.out.1 ee.out.2 w5 wb.heap.size (bL.out.mono J.out.bd.kept.size) ν (τ J.out.bd.kept.size bL.out.size) ?_; intro A8 c8 w8 ae af bc ar; have eO:=η (J.out.app bL.out ae HY.out.2.1 af ar eN.out); have eQ:=J.out.keep bL.out ar; obtain ⟨_,q8,f8,n8⟩:=eQ; clear ae af bc ar)
        go_wp2
        go_meet
        case rel=>exact ⟨zs ++ [⟨false,(⟨⟨#[104]⟩,[⟨true,⟨#[88]⟩⟩,⟨true,⟨#[89]⟩⟩,⟨true,⟨#[90]⟩⟩]⟩:A)⟩],A8,c8,by have:=bB.out; simp; omega,eO.out⟩
      case rest=>
       clear J bB;obtain ⟨zs,A4,c4,cW,hX⟩:=hcut;have HX:=η hX;have f6:=η cW;have aM:=η (cP.out.call HX.out.bd.rdr HX.out.bd.kept);have eR:Hid (TK ⟨a,zs⟩):=η ⟨bz.out.1,τ cW (by decide),HX.out.bd.small⟩;obtain ⟨br,am,bE⟩:=HX.out.rule cL.out e8.out;have cX:=η (ι am bE);have bO:Hid (xs.length≤100):=η (by have:=HS.out.1; omega);have eV:w3.heap.size < wc.heap.size:=ψ HX.out.box;have Ha:Hid (Below wc.heap.size wc (wc.alloc (.cells #[] 40)).drew∧(wc.alloc (.cells #[] 40)).drew.heap[wc.heap.size]? = some (.cells #[] 40 (0,0))):=η ⟨(ζ).drew,ω wc _⟩
       have Hb:Hid (Below wc.heap.size wc ((wc.alloc (.cells #[] 40)).alloc (.cells #[.string a.name,.slice A2 a.args.length c2,.slice A4 zs.length c4] 40)).drew∧((wc.alloc (.cells #[] 40)).alloc (.cells #[.string a.name,.slice A2 a.args.length c2,.slice A4 zs.length c4] 40)).drew.heap[wc.heap.size]? = some (.cells #[] 40 (0,0))∧((wc.alloc (.cells #[] 40)).alloc (.cells #[.string a.name,.slice A2 a.args.length c2,.slice A4 zs.length c4] 40)).drew.heap[wc.heap.size+1]? = some (.cells #[.string a.name,.slice A2 a.args.length c2,.slice A4 zs.length c4] 40 (0,0))):=η ⟨((ζ).alloc (by simp) _).drew,(kY wc _ _).1,(kY wc _ _).2⟩
       have Hc:Hid (Below wc.heap.size wc ((wc.alloc (.cells #[.string a.name,.slice A2 a.args.length c2,.slice A4 zs.length c4] 40)).alloc (.cells #[] 40)).drew∧((wc.alloc (.cells #[.string a.name,.slice A2 a.args.length c2,.slice A4 zs.length c4] 40)).alloc (.cells #[] 40)).drew.heap[wc.heap.size+1]? = some (.cells #[] 40 (0,0))∧((wc.alloc (.cells #[.string a.name,.slice A2 a.args.length c2,.slice A4 zs.length c4] 40)).alloc (.cells #[] 40)).drew.heap[wc.heap.size]? = some (.cells #[.string a.name,.slice A2 a.args.length c2,.slice A4 zs.length c4] 40 (0,0))):=η ⟨((ζ).alloc (by simp) _).drew,(kY wc _ _).2,(kY wc _ _).1⟩;obtain ⟨z0,z1,z2⟩:=HX.out.cell;clear hX cW am bE
       go_upto_region 17 with fail
       go_cut [7] from 54 to 101 (fun v7 wx=>∃ (A5:Option Addr) (c5:Nat),v7=.slice A5 (xs.length+1) c5∧gY g (q3+1) w (xs ++ [⟨a,zs⟩]) (.slice A5 (xs.length+1) c5) wx∧gY g (q3+1) w xs (.slice Av xs.length cp) wx)
       case first=>
        go_wp2
        go_region_law
         (first
          | (refine FO hi ao a6 aq (by rfl) (.tmp 87) (.tmp 88) (by rfl) wc.heap.size (by rfl) (by with_reducible exact Ha.out.2) ν aM.out (by rfl) rfl (by with_reducible exact Ha.out.1) bO.out ?_; intro A9 c9 w9 I a1 aw; obtain ⟨L9,eg,I,a0⟩:=I; have aR:=η (ι (I.below bI (ϑ.alloc ν (.cells #[.string a.name,.slice A2 a.args.length c2,.slice A4 zs.length c4] 40))) (ι (ω w9 (.cells #[.string a.name,.slice A2 a.args.length c2,.slice A4 zs.length c4] 40)) (a1.alloc a1.size (.cells #[.string a.name,.slice A2 a.args.length c2,.slice A4 zs.length c4] 40)))); obtain ⟨z0,z1,z2⟩:=(HX.out.below a1).cell; have bR:=η a0; clear I a1 aw a0 Ha Hb Hc)
          | (refine FO hi ao a6 aq (by rfl) (.tmp 87) (.tmp 88) (by rfl) wc.heap.size (by rfl) (by with_reducible exact Hb.out.2.1) ν aM.out (by rfl) rfl (by with_reducible exact Hb.out.1) bO.out ?_; intro A9 c9 w9 I a1 aw; obtain ⟨L9,eg,I,a0⟩:=I; have aR:=η (ι I (ι ((aw.block (wc.heap.size+1) (by simp) (by simp)).trans Hb.out.2.2) a1)); obtain ⟨z0,z1,z2⟩:=(HX.out.below a1).cell; have bR:=η a0; clear I a1 aw a0 Ha Hb Hc)
          | (refine FO hi ao a6 aq (by rfl) (.tmp 87) (.tmp 88) (by rfl) (wc.heap.size+1) (by rfl) (by with_reducible exact Hc.out.2.1) (Nat.le_succ _) aM.out (by rfl) rfl (by with_reducible exact Hc.out.1) bO.out ?_; intro A9 c9 w9 I a1 aw; obtain ⟨L9,eg,I,a0⟩:=I; have aR:=η (ι I (ι ((aw.block wc.heap.size (by simp; omega) (by simp)).trans Hc.out.2.2) a1)); obtain ⟨z0,z1,z2⟩:=(HX.out.below a1).cell; have bR:=η a0; clear I a1 aw a0 Ha Hb Hc)
          | (refine Vb hi ao a6 aq (by rfl) (.tmp 89) (.tmp 91) (by rfl) (by rfl) aR.out.1 bR.out aM.out _ (by rfl) aR.out.2.1 cX.out.1 cX.out.2 eR.out rfl aR.out.2.2 bO.out ?_; intro f9 fa fb cn co; have HY:=η cn; have HO:=η (aM.out.below co); clear cn co aR bR z0 z1 z2))
        all_goals
         go_wp2
         go_meet
         case rel=>exact ⟨_,_,rfl,HY.out,HO.out⟩
       case rest=>
        clear HX cX aM HF cP Ha Hb Hc z0 z1 z2;obtain ⟨A5,c5,rfl,hY,hO⟩:=hcut;have HY:=η hY;have HO:=η hO;obtain ⟨bq,hq,_⟩:=hY.rules;have eh:=uT _ _ bq _ hq;clear hq hY hO;generalize fV (xs ++ [⟨a,zs⟩])=pc at *
        go_wp2_with fail
        refine eh.mono ?_;rintro e fd ⟨rfl,bj⟩;have cY:=η (HY.out.below bj);have d0:=η (HO.out.below bj);clear eh bj HY HO;have d1:Hid (q3+2≤q+40):=η (by have:=bA.out.1; omega);by_cases hc:(pc:Int)=0
        ·go_wp2
         go_roundw
         case rel=>exact ⟨k - 1,xs ++ [⟨a,zs⟩],A5,c5,q3+1,by have:=HK.out; first | (unfold wrap64; congr 1; omega) | go_num,by rw [χ]; rfl,by rw [χ]; have:=HS.out; have:=HK.out; simp; omega,by have:=HS.out; omega,by have:=HS.out; have:=HK.out; have:=d1.out; omega,by rw [χ]; exact cY.out⟩
         case measure=>have:=HK.out; simp [intOf]; omega
        ·have y:=pick_any g (q3+1) 24 _ d0.out.rdr (by have:=HS.out; have:=bA.out; omega) (by omega) (by omega)
         go_wp2_with fail
         refine y.mono ?_;rintro e fe ⟨ei,rfl,ej,bk,bl⟩;have eS:=η (cY.out.call bk (aI.dL bl));have eT:=η (d0.out.call bk (aI.dL bl));clear y ej bk bl cY d0;by_cases hm:ei=0
         ·subst hm
          go_wp2;go_roundw
          case rel=>exact ⟨k - 1,xs ++ [⟨a,zs⟩],A5,c5,q3+1+1,by have:=HK.out; first | (unfold wrap64; congr 1; omega) | go_num,by rw [χ]; rfl,by rw [χ]; have:=HS.out; have:=HK.out; simp; omega,by have:=HS.out; omega,by have:=HS.out; have:=HK.out; have:=d1.out; omega,by rw [χ]; exact eS.out⟩
          case measure=>have:=HK.out; simp [intOf]; omega
         ·have eJ:((ei:Int) == 0)=false:=by simp; omega
          have ff:((pc:Int) == 0)=false:=by simp; omega
          clear hc hm;go_wp2;go_roundw
          case rel=>exact ⟨k - 1,xs,Av,cp,q3+1+1,by have:=HK.out; first | (unfold wrap64; congr 1; omega) | go_num,rfl,by have:=HS.out; omega,by have:=HS.out; omega,by have:=HS.out; have:=HK.out; have:=d1.out; omega,eT.out⟩
          case measure=>have:=HK.out; simp [intOf]; omega
    ·obtain rfl:k=0:=by omega
     clear cI;go_wp2;go_ret;exact ⟨xs,_,q,rfl,by have:=HS.out; omega,by have:=HS.out; omega,HF.out⟩
theorem D.Nq:∀ {xs:List A} {a:A},gB (xs ++ [a])=true→∀ x ∈ xs,dh x a < 0
 | [],_,_,x,I=>by simp at I
 | y :: ys,a,h,x,I=>by
  rcases ύ.1 I with rfl | I
  ·exact fQ h a (by simp)
  ·exact Nq (xs:=ys) (eX h) x I
theorem D.Vo {xs:List A} {a:A} (h:gB (xs ++ [a])=true):fD xs a=xs ++ [a]:=by
 have I:=Nq h
 have h1:hasB xs a=false:=by
  unfold hasB;rw [List.any_eq_false];intro x y;have:=I x y;simp; omega
 have J:pl xs a=xs.length:=by
  unfold pl;rw [List.countP_eq_length];intro x y;unfold G5;exact decide_eq_true (I x y)
 unfold fD;rw [h1,J];simp
def D.vd (d:Nat):ByteArray:=⟨#[118,UInt8.ofNat (48+d)]⟩
def D.Yr (j:Nat):A:=⟨⟨#[101]⟩,[⟨false,vd (j / 6)⟩,⟨false,vd (j % 6)⟩]⟩
def D.lQ (n:Nat):List A:=(List.range n).map Yr
theorem D.Vp:gB (lQ 42)=true:=by decide +kernel
theorem D.AZ (n:Nat):lQ (n+1)=lQ n ++ [Yr n]:=by unfold lQ; rw [List.range_succ,List.map_append]; rfl
theorem D.qx (n:Nat):(lQ n).length=n:=by simp [lQ]
theorem D.Nr : ∀ (d n : Nat), n + d = 42 → gB (lQ n) = true
  | 0, n, h => by have : n = 42 := by omega
                  rw [this]; exact Vp
  | d + 1, n, h => by
    have := Nr d (n + 1) (by omega);rw [AZ] at this;exact Kw this
theorem D.Qp {n:Nat} (h:n≤42):gB (lQ n)=true:=Nr (42 - n) n (by omega)
theorem D.Vq {n:Nat} (h:n < 42):fD (lQ n) (Yr n)=lQ (n+1):=by
 rw [AZ];exact Vo (by rw [← AZ]; exact Qp h)
theorem D.sJ (n:Nat):∀ a ∈ lQ n,a.args.length≤4:=by
 intro a ha;unfold lQ at ha;obtain ⟨j,_,rfl⟩:=List.mem_map.1 ha;simp [Yr]
theorem D.dB {w:World} {n0:Nat} (ha:Ri w n0) {v:Value} {xs:List A} {bs:List Nat} (h:ay w [v] xs bs):n0 ∉ bs:=by
 intro hb;obtain ⟨Ad,cap,a4,hl,hm,g0,g1⟩:=h;by_cases I:xs = []
 ·rw [g0 I] at hb; simp at hb
 ·obtain ⟨b,o,rfl,F,G,rfl,hF⟩:=g1 I
  rcases ύ.1 hb with rfl | hb
  ·match xs,I with
   | y :: r,_=>
    obtain ⟨a1,a2,J⟩:=hF 0 y rfl;obtain ⟨s,e,_,_⟩:=J;have:=a2 0 (.string y.name) (by rw [e]; rfl);exact (ha _ _ this).1 _ rfl
  ·obtain ⟨k,hk,U⟩:=List.mem_flatMap.1 hb
   have a0:=List.mem_range.1 hk;obtain ⟨a1,a2,J⟩:=hF k xs[k] (Ψ a0);obtain ⟨s,_,_,ht⟩:=J;exact rU ha ht U
theorem Vr (w:World) (n:Int):(convert 22 9 (.slice (some ⟨w.heap.size,0,none⟩) 1 1)).run Tryz.prog (w.alloc (.cells #[.int .u8 n] 5))=.ok (.string (strOfNums [n])) (w.alloc (.cells #[.int .u8 n] 5)):=
 run_convert_bytes_arg _ 22 5 Tryz.underlying22 Tryz.underlying5 w.heap.size 0 1 1 [n] rfl (fun i y=>by
  obtain rfl:i=0:=by omega
  simp) 9 Tryz.underlying9
theorem Qq (w:World) (s1 s2:ByteArray) (h1:s1.size≤100) (y:s2.size≤100):∃ bs,gI (w.alloc (.cells #[.bool false,.string s1,.bool false,.string s2] 91)) [.slice (some ⟨w.heap.size,0,none⟩) 2 2] [⟨false,s1⟩,⟨false,s2⟩] bs∧∀ c ∈ bs,w.heap.size≤c:=by
 have I:s1.size≤maxLen:=τ h1 (by decide);have J:s2.size≤maxLen:=τ y (by decide);have h:=((aW.dP (n:=2) (R:=kD) (w:=w.alloc (.cells #[.bool false,.string s1,.bool false,.string s2] 91)) lG (cs:=[.bool false,.string s1]) (x:=⟨false,s1⟩) (bs:=[]) ⟨rfl,I,rfl⟩).append (aW.dP (n:=2) (R:=kD) lG (cs:=[.bool false,.string s2]) (x:=⟨false,s2⟩) (bs:=[]) ⟨rfl,J,rfl⟩)).slice (World.ownsRow_lit (base:=w.heap.size) (e:=91) w #[.bool false,.string s1,.bool false,.string s2] 2 ν (by unfold maxLen; omega) rfl);obtain ⟨bs,h,y⟩:=h;exact ⟨bs,h,fun c hc=>(y c hc).elim id (fun hc=>by simp at hc)⟩
def Pv (g p q:Nat) (w:World) (e:Ending) (w':World):Prop:=
 ∃ (xs:List A) (v:Value) (bs:List Nat) (y:Nat),e=.returned v∧(ay w' [v] xs bs∧∀ b ∈ bs,w.heap.size≤b)∧xs.length≤50∧(∀ a ∈ xs,a.args.length≤4)∧kP g y w'∧y≤p+q∧aI [g] w w'
theorem CV (i:Nat) (w:World) (h:i < 7):Calls Tryz.prog 50 #[.int .i64 i] w fun e w'=>e=.returned (.string ⟨#[UInt8.ofNat (48+i)]⟩)∧Below w.heap.size w w':=by
 have I:=Vr;have y:i=0∨i=1∨i=2∨i=3∨i=4∨i=5∨i=6:=by omega
 rcases y with rfl | rfl | rfl | rfl | rfl | rfl | rfl
 all_goals
  go_enter Tryz.func50,Tryz.ntmps50
  go_wp2;go_ret;exact ⟨rfl,ζ⟩
theorem tu (g p:Nat) (w:World) (h:kP g p w) (hp:p≤600000):
  Calls Tryz.prog 100 #[.pointer (some ⟨g,0,none⟩)] w (Pv g p 200 w):=by
 obtain ⟨i0,hi,bv,aD,aE⟩:=info_parts II;have hf:=oN g p 9 w h (by omega) (by omega) (by omega);have ck:=η hp;clear h hp
 go_enter Tryz.func100,Tryz.ntmps100
 go_wp2_with fail
 refine hf.mono ?_;rintro e w1 ⟨xs,v,p1,rfl,hs,hx,bw,cl,hF⟩;obtain ⟨Av,cv,rfl⟩:=hF.shape;have HF:=η hF;have HX:Hid (gB xs=true∧xs.length≤9∧(∀ a ∈ xs,a.args.length≤3)∧p1≤p+72∧p≤600000):=η ⟨hs,hx,bw,by omega,ck.out⟩;have a9:=pick_any g p1 20 w1 hF.rdr (by have:=HX.out; omega) (by omega) (by omega);have bx:Hid (xs.length+1≤maxLen):=η (by unfold maxLen; omega);have bz:Hid ((xs.length+1) * 40≤140737488355328):=η (by omega);clear hf hF hs hx bw cl
 go_wp2_with fail
 refine a9.mono ?_;rintro e w2 ⟨j,rfl,hj,bA,bB⟩;have I:=η (HF.out.call bA (aI.dL bB));clear a9 bA bB HF;by_cases cn:j=0
 ·subst cn
  have hc:=uJ g (p1+1) w2 I.out.rdr (by have:=HX.out; omega)
  go_wp2_with fail
  refine hc.mono ?_;rintro e w3 ⟨a,v3,L3,p3,rfl,aa,aR,a4,a2,b1,ab⟩;obtain ⟨b3,ac,a3⟩:=a4.slice;obtain ⟨A3,c3,rfl⟩:=dZ a4.own;have J:=η (I.out.call a2 ab);have b2:Hid (aK w3 [.string a.name,.slice A3 a.args.length c3] a b3):=η ⟨_,rfl,Sm.max aa,ac⟩;have ae:Hid (a.args.length≤4∧p3≤p1+1+20):=η (by omega);obtain ⟨LL,bb,a5,af⟩:=J.out.coll;have bc:=η af;have bf:Hid (∀ c ∈ b3,w.heap.size≤c):=η (fun c hc=>τ I.out.kept.size ((a3 c hc).resolve_right (by simp)));clear af;have HC:=η a5;have U:Below w3.heap.size w3 (w3.alloc (.cells #[.string a.name,.slice A3 a.args.length c3] 33)):=ζ;have bg:=η (a5.below au U);have bh:=η (aW.dP (n:=2) (R:=aK) fJ (au.below b2.out U));have ag:=η (aV (ω w3 (.cells #[.string a.name,.slice A3 a.args.length c3] 33)));have bi:Hid (∀ c ∈ b3,(Value.slice Av xs.length cv).ownBlock ≠ some c):=η (fun c hc=>by obtain ⟨_,_,h2,_⟩:=I.out.coll; exact jk h2.own ((a3 c hc).resolve_right (by simp)))
  have bj:Hid (w.heap.size≤(w3.alloc (.cells #[.string a.name,.slice A3 a.args.length c3] 33)).heap.size):=η (τ J.out.kept.size U.size);have bk:=η U;clear hc a4 a2 ab ac aa aR b1 a5 U
  go_wp2_with (at_builtin; refine dG rfl _ _ _ rfl w.heap.size 33 i0 (.agg #[.string ⟨#[]⟩,.slice none 0 0]) 2 40 Tryz.underlying24 hi bv aD aE rfl (by omega) au (.slice Av xs.length cv) xs.length LL xs bb rfl bg.out rfl (some ⟨w3.heap.size,0,none⟩) 1 1 _ [a] b3 rfl bh.out rfl ag.out bi.out bx.out bz.out w3 w.heap.size (bk.out.mono J.out.kept.size) ν bj.out ?_; intro A4 c4 w4 am a6 bl a7)
  obtain ⟨b5,ao,aq⟩:=am.slice;have HD:Hid (Pv g p 200 w (.returned (.slice A4 (xs.length+1) c4)) w4):=η ⟨xs ++ [a],_,b5,p3,rfl,⟨ao,fun c hc=>(aq c hc).elim id (fun hc=>(μ.1 hc).elim (bc.out c) (bf.out c))⟩,by have:=HX.out; simp; omega,fun y hy=>by rcases μ.1 hy with hy | hy; exact Nat.le_succ_of_le (HX.out.2.2.1 y hy); rw [ώ.1 hy]; exact ae.out.1,J.out.rdr.fE a6 J.out.glt,by have:=HX.out; have:=ae.out; omega,J.out.kept.fE a6 ν⟩;clear am a6 bl a7 ao aq;go_wp2;go_ret;exact HD.out
 have cJ:((j:Int) == 0)=false:=beq_eq_false_iff_ne.2 (by omega);by_cases co:j=1
 ·subst co
  have hc:=CP g (p1+1) w2 I.out.rdr (by have:=HX.out; omega)
  go_wp2_with fail
  refine hc.mono ?_;rintro e w3 ⟨a,v3,L3,p3,rfl,aa,aR,a4,a2,b1,ab⟩;obtain ⟨b3,ac,a3⟩:=a4.slice;obtain ⟨A3,c3,rfl⟩:=dZ a4.own;have J:=η (I.out.call a2 ab);have b2:Hid (aK w3 [.string a.name,.slice A3 a.args.length c3] a b3):=η ⟨_,rfl,Sm.max aa,ac⟩;have ae:Hid (a.args.length≤4∧p3≤p1+1+20):=η (by omega);obtain ⟨LL,bb,a5,af⟩:=J.out.coll;have bc:=η af;have bf:Hid (∀ c ∈ b3,w.heap.size≤c):=η (fun c hc=>τ I.out.kept.size ((a3 c hc).resolve_right (by simp)));clear af;have HC:=η a5;have U:Below w3.heap.size w3 (w3.alloc (.cells #[.string a.name,.slice A3 a.args.length c3] 33)):=ζ;have bg:=η (a5.below au U);have bh:=η (aW.dP (n:=2) (R:=aK) fJ (au.below b2.out U));have ag:=η (aV (ω w3 (.cells #[.string a.name,.slice A3 a.args.length c3] 33)));have bi:Hid (∀ c ∈ b3,(Value.slice Av xs.length cv).ownBlock ≠ some c):=η (fun c hc=>by obtain ⟨_,_,h2,_⟩:=I.out.coll; exact jk h2.own ((a3 c hc).resolve_right (by simp)))
  have bj:Hid (w.heap.size≤(w3.alloc (.cells #[.string a.name,.slice A3 a.args.length c3] 33)).heap.size):=η (τ J.out.kept.size U.size);have bk:=η U;clear hc a4 a2 ab ac aa aR b1 a5 U
  go_wp2_with (at_builtin; refine dG rfl _ _ _ rfl w.heap.size 33 i0 (.agg #[.string ⟨#[]⟩,.slice none 0 0]) 2 40 Tryz.underlying24 hi bv aD aE rfl (by omega) au (.slice Av xs.length cv) xs.length LL xs bb rfl bg.out rfl (some ⟨w3.heap.size,0,none⟩) 1 1 _ [a] b3 rfl bh.out rfl ag.out bi.out bx.out bz.out w3 w.heap.size (bk.out.mono J.out.kept.size) ν bj.out ?_; intro A4 c4 w4 am a6 bl a7)
  obtain ⟨b5,ao,aq⟩:=am.slice;have HD:Hid (Pv g p 200 w (.returned (.slice A4 (xs.length+1) c4)) w4):=η ⟨xs ++ [a],_,b5,p3,rfl,⟨ao,fun c hc=>(aq c hc).elim id (fun hc=>(μ.1 hc).elim (bc.out c) (bf.out c))⟩,by have:=HX.out; simp; omega,fun y hy=>by rcases μ.1 hy with hy | hy; exact Nat.le_succ_of_le (HX.out.2.2.1 y hy); rw [ώ.1 hy]; exact ae.out.1,J.out.rdr.fE a6 J.out.glt,by have:=HX.out; have:=ae.out; omega,J.out.kept.fE a6 ν⟩;clear am a6 bl a7 ao aq;go_wp2;go_ret;exact HD.out
 have cK:((j:Int) == 1)=false:=beq_eq_false_iff_ne.2 (by omega)
 have ar:Hid (Pv g p 200 w (.returned (.slice Av xs.length cv)) w2):=η (by
  obtain ⟨b9,h9,cp⟩:=I.out.atoms
  exact ⟨xs,_,b9,p1+1,rfl,⟨h9,cp⟩,by have:=HX.out; omega,fun y hy=>Nat.le_succ_of_le (HX.out.2.2.1 y hy),I.out.rdr,by have:=HX.out; omega,I.out.kept⟩)
 by_cases bn:j=2
 ·subst bn
  clear ar;obtain ⟨bt,ht,av⟩:=Qq w2 ⟨#[97]⟩ ⟨#[98]⟩ (by decide) (by decide);have bo:Hid (∀ c ∈ bt,w.heap.size≤c):=η (fun c hc=>τ I.out.kept.size (av c hc));clear av;have a8:Below w2.heap.size w2 (w2.alloc (.cells #[.bool false,.string ⟨#[97]⟩,.bool false,.string ⟨#[98]⟩] 91)):=ζ;have J:=η (I.out.below a8);obtain ⟨b3,bE,bL⟩:=J.out.atoms;have bp:=η bL;clear bL;have a1:=vV xs ⟨⟨#[112]⟩,[⟨false,⟨#[97]⟩⟩,⟨false,⟨#[98]⟩⟩]⟩ _ _ _ b3 bt _ bE ⟨_,rfl,by decide,ht⟩ HX.out.1 (by have:=HX.out; omega);clear bE ht a8
  go_wp2_with fail
  refine a1.mono ?_;rintro e w3 ⟨cq,v3,b4,rfl,a2,ho⟩;have aL:=η (J.out.put (xs':=fD xs ⟨⟨#[112]⟩,[⟨false,⟨#[97]⟩⟩,⟨false,⟨#[98]⟩⟩]⟩) cq (fun y hy=>by rcases vN hy with hy | rfl; exact Nat.le_succ_of_le (HX.out.2.2.1 y hy); decide) ho (fun c hc=>(μ.1 hc).elim (bp.out c) (bo.out c)));obtain ⟨b8,h8,bO⟩:=aL.out.atoms;have HD:Hid (Pv g p 200 w (.returned v3) w3):=η ⟨_,_,b8,p1+1,rfl,⟨h8,bO⟩,by have:=qA xs ⟨⟨#[112]⟩,[⟨false,⟨#[97]⟩⟩,⟨false,⟨#[98]⟩⟩]⟩; have:=HX.out; omega,aL.out.small,aL.out.rdr,by have:=HX.out; omega,aL.out.kept⟩;obtain ⟨A3,c3,rfl,_,_⟩:=aj a2;clear a1 a2 ho J h8 bO;go_wp2;go_ret;exact HD.out
 have cL:((j:Int) == 2)=false:=beq_eq_false_iff_ne.2 (by omega);by_cases cr:j=3
 ·subst cr
  clear ar;have a8:Below w2.heap.size w2 (w2.alloc (.cells #[] 33)):=ζ;have bR:Hid (qV g (p1+1) w (lQ 0) (.slice (some ⟨w2.heap.size,0,none⟩) 0 0) (w2.alloc (.cells #[] 33))):=η ⟨⟨_,_,bK.empty (ω w2 _) I.out.kept.size,fun b hb=>by simp at hb⟩,sJ 0,I.out.rdr.below a8,I.out.kept.fE a8 I.out.kept.size,I.out.glt⟩;clear a8 I hj;go_wp2
  go_loopw [4,5] (fun m i wr=>∃ (n l:Nat) (Am:Option Addr) (cm:Nat),n≤7∧i=.int .i64 n∧m=.slice Am l cm∧l=6 * n∧qV g (p1+1) w (lQ (6 * n)) (.slice Am l cm) wr) (fun _ i _=>7 - (intOf i).toNat)
  case atStart=>exact ⟨0,0,_,_,by omega,rfl,rfl,rfl,bR.out⟩
  case round=>
   obtain ⟨n,l,Am,cm,hn,rfl,rfl,bX,hF⟩:=hrel;have HM:=η hF;have HL:=η bX;clear hF bX bR;by_cases bq:n < 7
   ·have cu:(n:Int) < 7:=by omega
    have HN:=η bq;have cw:Hid (∃ (k l:Nat) (Am:Option Addr) (cm:Nat),k≤6∧l=6 * n+k∧k=0∧qV g (p1+1) w (lQ (6 * n+k)) (.slice Am l cm) wr):=η ⟨0,l,Am,cm,by omega,HL.out,rfl,HM.out⟩;clear hn bq;go_wp2
    go_loopw [4,6] (fun m i wr=>∃ (k l:Nat) (Am:Option Addr) (cm:Nat),k≤6∧i=.int .i64 k∧m=.slice Am l cm∧l=6 * n+k∧qV g (p1+1) w (lQ (6 * n+k)) (.slice Am l cm) wr) (fun _ i _=>6 - (intOf i).toNat)
    case atStart=>exact ⟨0,l,Am,cm,by omega,rfl,rfl,HL.out,HM.out⟩
    case round=>
     obtain ⟨k,l2,cx,cy,hk,rfl,rfl,aM,c5⟩:=hrel;have a0:=η c5;have ag:=η aM;clear c5 aM HM cw HL;by_cases br:k < 6
     ·have cz:(k:Int) < 6:=by omega
      have HK:=η br;clear hk br;have c7:=fun w'=>(CV n w' HN.out).mono (R':=fun e aw=>∃ s:ByteArray,e=.returned (.string s)∧Hid (s=⟨#[UInt8.ofNat (48+n)]⟩)∧s.size=1∧Below w'.heap.size w' aw) (fun e aw ⟨h1,h2⟩=>⟨_,h1,η rfl,rfl,h2⟩)
      have c8:=fun w'=>(CV k w' (by have:=HK.out; omega)).mono (R':=fun e aw=>∃ s:ByteArray,e=.returned (.string s)∧Hid (s=⟨#[UInt8.ofNat (48+k)]⟩)∧s.size=1∧Below w'.heap.size w' aw) (fun e aw ⟨h1,h2⟩=>⟨_,h1,η rfl,rfl,h2⟩)
      go_wp2_with fail
      refine (c7 _).mono ?_;rintro e w4 ⟨s1,rfl,cA,aD,c9⟩;replace a0:=η (a0.out.below c9);have cQ:((⟨#[118]⟩:ByteArray) ++ s1).size=2:=by rw [ByteArray.size_append,aD]; rfl
      clear c7 c9
      go_wp2_with fail
      refine (c8 _).mono ?_;rintro e w5 ⟨s2,rfl,cB,aE,ca⟩;replace a0:=η (a0.out.below ca);have cT:((⟨#[118]⟩:ByteArray) ++ s2).size=2:=by rw [ByteArray.size_append,aE]; rfl
      have HE:Hid (Yr (6 * n+k)=⟨⟨#[101]⟩,[⟨false,(⟨#[118]⟩:ByteArray) ++ s1⟩,⟨false,(⟨#[118]⟩:ByteArray) ++ s2⟩]⟩):=η (by
       have e1:(6 * n+k) / 6=n:=by have:=HK.out; omega
       have e2:(6 * n+k) % 6=k:=by have:=HK.out; omega
       have e3:(⟨#[118]⟩:ByteArray) ++ s1=vd n:=by rw [cA.out]; exact WideShapes.bytes_inj (by rw [ByteArray.data_append,Array.toList_append]; rfl)
       have e4:(⟨#[118]⟩:ByteArray) ++ s2=vd k:=by rw [cB.out]; exact WideShapes.bytes_inj (by rw [ByteArray.data_append,Array.toList_append]; rfl)
       unfold Yr; rw [e1,e2,e3,e4])
      obtain ⟨bt,ht,av⟩:=Qq w5 ((⟨#[118]⟩:ByteArray) ++ s1) ((⟨#[118]⟩:ByteArray) ++ s2) (by omega) (by omega);have cb:Below w5.heap.size w5 (w5.alloc (.cells #[.bool false,.string ((⟨#[118]⟩:ByteArray) ++ s1),.bool false,.string ((⟨#[118]⟩:ByteArray) ++ s2)] 91)):=ζ;have bo:Hid (∀ c ∈ bt,w.heap.size≤c):=η (fun c hc=>τ a0.out.kept.size (av c hc));clear av;replace a0:=η (a0.out.below cb);obtain ⟨b6,h6,cc⟩:=a0.out.atoms;have bp:=η cc;clear cc;have a1:=vV (lQ (6 * n+k)) (Yr (6 * n+k)) _ (.string ⟨#[101]⟩) (.slice (some ⟨w5.heap.size,0,none⟩) 2 2) b6 bt _ h6 (by rw [HE.out]; exact ⟨_,rfl,(show (1:Nat)≤maxLen by decide),ht⟩) (Qp (by have:=HK.out; have:=HN.out; omega)) (by rw [qx]; have:=HK.out; have:=HN.out; omega);rw [Vq (by have:=HK.out; have:=HN.out; omega)] at a1;clear c8 ca ht cb h6
      go_wp2_with fail
      refine a1.mono ?_;rintro e w6 ⟨cD,v6,b7,rfl,cd,ho⟩;have cE:=η (a0.out.put cD (sJ _) ho (fun c hc=>(μ.1 hc).elim (bp.out c) (bo.out c)));obtain ⟨A6,c6,rfl,_,_⟩:=aj cd;clear a1 cd ho a0;go_wp2;go_roundw
      case rel=>exact ⟨k+1,_,A6,c6,HK.out,by go_num,rfl,by rw [qx]; omega,cE.out⟩
      case measure=>have:=HK.out; simp [intOf]; omega
     ·have cz:¬ (k:Int) < 6:=by omega
      obtain rfl:k=6:=by omega
      clear hk br;go_wp2;go_roundw
      case rel=>exact ⟨n+1,l2,cx,cy,HN.out,by go_num,rfl,by have:=ag.out; omega,by rw [show 6 * (n+1)=6 * n+6 by omega]; exact a0.out⟩
      case measure=>have:=HN.out; simp [intOf]; omega
   ·skip
    have cu:¬ (n:Int) < 7:=by omega
    obtain rfl:n=7:=by omega
    clear hn bq;have a9:=pick_any g (p1+1) 2 wr HM.out.rdr (by have:=HX.out; omega) (by omega) (by omega)
    go_wp2_with fail
    refine a9.mono ?_;rintro e w4 ⟨j2,rfl,bn,ce,a7⟩;have az:=η (HM.out.call ce (aI.dL a7));obtain ⟨b5,h5,cg⟩:=az.out.atoms;have ci:=HL.out;subst ci
    have bu:42≤cm∧cm≤maxLen:=by
     obtain ⟨A',c',e',cj,cG,_⟩:=h5;simp only [List.cons.injEq,Value.slice.injEq,and_true] at e';obtain ⟨_,_,rfl⟩:=e';rw [qx] at cj;exact ⟨cj,cG⟩
    have cU:=aB bu.2;have cV:=bu.1;have hj:j2=0∨j2=1:=by omega
    have HT:Hid (∀ d,d≤42→∃ b6,ay w4 [.slice Am d cm] ((lQ 42).take d) b6∧∀ c ∈ b6,w.heap.size≤c):=η (fun d hd=>by obtain ⟨b6,h6,cI⟩:=KG h5 (k:=d) (by rw [qx]; exact hd); exact ⟨b6,h6,fun c hc=>cg c (cI c hc)⟩);clear a9 ce a7 h5 cg HM bu HL bn
    rcases hj with rfl | rfl
    ·have hz:(40:Int)≤(cm:Int):=by omega
     obtain ⟨b6,h6⟩:=HT.out 40 (by omega);have HD:Hid (Pv g p 200 w (.returned (.slice Am 40 cm)) w4):=η ⟨_,_,b6,p1+1+1,rfl,h6,by simp [lQ],fun y hy=>sJ 42 y (List.mem_of_mem_take hy),az.out.rdr,by have:=HX.out; omega,az.out.kept⟩;clear h6 HT;go_wp2;go_ret;exact HD.out
    ·have hz:(41:Int)≤(cm:Int):=by omega
     obtain ⟨b6,h6⟩:=HT.out 41 (by omega);have HD:Hid (Pv g p 200 w (.returned (.slice Am 41 cm)) w4):=η ⟨_,_,b6,p1+1+1,rfl,h6,by simp [lQ],fun y hy=>sJ 42 y (List.mem_of_mem_take hy),az.out.rdr,by have:=HX.out; omega,az.out.kept⟩;clear h6 HT;go_wp2;go_ret;exact HD.out
 have cP:((j:Int) == 3)=false:=beq_eq_false_iff_ne.2 (by omega);go_wp2;go_ret;exact ar.out
end Go.Proofs.YtkjinanbccloeaaGreatDoor
