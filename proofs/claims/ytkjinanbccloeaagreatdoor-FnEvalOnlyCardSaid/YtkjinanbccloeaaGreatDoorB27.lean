/- Of the proof of FnEvalOnly: DrawRs. -/
import Derived.Test.YtkjinanbccloeaaGreatDoorB24
set_option linter.unusedVariables false
set_option maxHeartbeats 4000000
set_option maxRecDepth 100000
namespace Go.Proofs.YtkjinanbccloeaaGreatDoor
open Go.RowKit D
attribute [local go_sem ↓] Go.wp_at_zero Go.wp_at_succ
theorem D.xg (n x y:ByteArray) (J:Sm n) (U:Sm x) (hy:Sm y):AtS (edge n x y):=⟨J,by simp [edge],fun t I=>by
 simp only [edge,List.mem_cons,List.not_mem_nil,or_false] at I
 rcases I with rfl | rfl
 ·exact U
 ·exact hy⟩
theorem xk (g p:Nat) (w:World) (h:kH g p w) (hp:p≤500000):
  Calls Tryz.prog 101 #[.pointer (some ⟨g,0,none⟩)] w (Ti 5 g p 100 w):=by
 obtain ⟨i0,hi,ao,a6,ap⟩:=info_parts FV;have hg:=h.lt;have HF:=η (fJ.start hg h);have y:=pick_any g p 2 _ HF.out.rdr (by omega) (by omega) (by omega);have HP:=η hp;clear h hp
 go_enter Tryz.func101,Tryz.ntmps101
 go_wp2_with fail
 refine y.mono ?_;rintro e w1 ⟨m,rfl,hm,az,d1⟩;have a8:=η (HF.out.call az (aH.dM d1));clear y az d1 HF hm
 go_upto_if 11 with fail
 go_cut [3] from 8 to 102 (fun v wx=>∃ (xs:List Ru) (Av:Option Addr) (cp:Nat),v=.slice Av xs.length cp∧xs.length≤2∧fJ g (p+1) w xs (.slice Av xs.length cp) wx)
 case first=>
  by_cases hz:m=0
  ·subst hz
   go_wp2_with fail
   refine (lI ⟨#[116]⟩ ⟨#[88]⟩ ⟨#[89]⟩ _ (by decide) (by decide) (by decide)).mono ?_;rintro e w2 ⟨d2,aR,b2,rfl,a2,d3⟩;have co:w1.heap.size≤b2:=by omega
   clear d3 aR;have T2:Below w1.heap.size w1 w2:=d2
   go_wp2_with fail
   refine (lI ⟨#[101]⟩ ⟨#[88]⟩ ⟨#[89]⟩ _ (by decide) (by decide) (by decide)).mono ?_;rintro e w3 ⟨cq,ej,b3,rfl,bR,d4⟩;have cr:w2.heap.size≤b3:=by omega
   clear d4 ej;have T3:Below w1.heap.size w1 w3:=T2.trans (cq.mono T2.size);replace a2:=aj.below a2 cq;have bl:Below w3.heap.size w3 (w3.alloc (.cells #[.bool false,.string ⟨#[101]⟩,.slice (some ⟨b3,0,none⟩) 2 2] 42)):=ζ;have bX:=PX (ω w3 (.cells #[.bool false,.string ⟨#[101]⟩,.slice (some ⟨b3,0,none⟩) 2 2] 42)) (aj.below bR bl);have c6:=aj.below a2 bl;have c7:fG (w3.alloc (.cells #[.bool false,.string ⟨#[101]⟩,.slice (some ⟨b3,0,none⟩) 2 2] 42)) [.string ⟨#[116]⟩,.slice (some ⟨b2,0,none⟩) 2 2,.slice (some ⟨w3.heap.size,0,none⟩) 1 1] (⟨edge ⟨#[116]⟩ ⟨#[88]⟩ ⟨#[89]⟩,[⟨false,edge ⟨#[101]⟩ ⟨#[88]⟩ ⟨#[89]⟩⟩]⟩:Ru) ([b2] ++ (w3.heap.size :: [b3])):=⟨_,_,_,_,rfl,by decide,rfl,dm c6,bX⟩
   obtain ⟨L3,eV,d5,ca,d6,cu,d7,d8,d9⟩:=a8.out.arm (T3.trans (bl.mono T3.size)) c7 (by
    intro b hb;have hz:=T3.size;have:=T2.size;have:=a8.out.kept.size;simp only [List.cons_append,List.nil_append,List.mem_cons,List.not_mem_nil,or_false] at hb
    rcases hb with rfl | rfl | rfl <;> omega)
   rw [World.size_alloc] at cu;have a9:=η (ι d5 (ι ca (ι d6 (ι cu (ι d7 (ι d8 d9))))))
   have da:Hid (QZ (⟨edge ⟨#[116]⟩ ⟨#[88]⟩ ⟨#[89]⟩,[⟨false,edge ⟨#[101]⟩ ⟨#[88]⟩ ⟨#[89]⟩⟩]⟩:Ru)):=η ⟨xg _ _ _ (by decide) (by decide) (by decide),by simp,fun x hx=>by
    simp only [List.mem_cons,List.not_mem_nil,or_false] at hx
    rcases hx with rfl <;> exact xg _ _ _ (by decide) (by decide) (by decide)⟩
   clear d2 a2 co T2 cq bR cr T3 bl bX c6 c7 d5 ca d6 cu d7 d8 d9
   go_wp2_with (at_builtin; refine bW rfl _ _ _ rfl w.heap.size 40 i0 (.agg #[.string ⟨#[]⟩,.slice none 0 0,.slice none 0 0]) 3 64 Tryz.underlying23 hi ao a6 ap rfl (by omega) aV (.slice (some ⟨w.heap.size,0,none⟩) 0 0) 0 _ [] _ rfl a9.out.1 rfl (some ⟨w3.heap.size+1,0,none⟩) 1 1 _ [(⟨edge ⟨#[116]⟩ ⟨#[88]⟩ ⟨#[89]⟩,[⟨false,edge ⟨#[101]⟩ ⟨#[88]⟩ ⟨#[89]⟩⟩]⟩:Ru)] _ rfl a9.out.2.2.1 rfl a9.out.2.2.2.1 a9.out.2.2.2.2.1 (by unfold maxLen; decide) (by decide) w1 w.heap.size a9.out.2.2.2.2.2.1 ν a9.out.2.2.2.2.2.2 ?_; intro A4 ek w4 db dc el bn)
   have cv:=η (a8.out.app db a9.out.2.1 dc da.out);clear db dc el bn a9
   go_wp2_with fail
   refine (lI ⟨#[116]⟩ ⟨#[88]⟩ ⟨#[90]⟩ _ (by decide) (by decide) (by decide)).mono ?_;rintro e w5 ⟨b1,em,b5,rfl,a5,de⟩;have cw:w4.heap.size≤b5:=by omega
   clear de em;have T5:Below w4.heap.size w4 w5:=b1
   go_wp2_with fail
   refine (lI ⟨#[116]⟩ ⟨#[88]⟩ ⟨#[89]⟩ _ (by decide) (by decide) (by decide)).mono ?_;rintro e w6 ⟨cx,en,b6,rfl,aw,dg⟩;have cy:w5.heap.size≤b6:=by omega
   clear dg en;have T6:Below w4.heap.size w4 w6:=T5.trans (cx.mono T5.size);replace a5:=aj.below a5 cx
   go_wp2_with fail
   refine (lI ⟨#[101]⟩ ⟨#[89]⟩ ⟨#[90]⟩ _ (by decide) (by decide) (by decide)).mono ?_;rintro e w7 ⟨bo,eo,b7,rfl,cb,di⟩;have cz:w6.heap.size≤b7:=by omega
   clear di eo;have T7:Below w4.heap.size w4 w7:=T6.trans (bo.mono T6.size);replace a5:=aj.below a5 bo;replace aw:=aj.below aw bo;have b4:Below w7.heap.size w7 (w7.alloc (.cells #[.bool false,.string ⟨#[116]⟩,.slice (some ⟨b6,0,none⟩) 2 2,.bool false,.string ⟨#[101]⟩,.slice (some ⟨b7,0,none⟩) 2 2] 42)):=ζ;have cc:=yh (ω w7 (.cells #[.bool false,.string ⟨#[116]⟩,.slice (some ⟨b6,0,none⟩) 2 2,.bool false,.string ⟨#[101]⟩,.slice (some ⟨b7,0,none⟩) 2 2] 42)) (aj.below aw b4) (aj.below cb b4);have cd:=aj.below a5 b4;have ce:fG (w7.alloc (.cells #[.bool false,.string ⟨#[116]⟩,.slice (some ⟨b6,0,none⟩) 2 2,.bool false,.string ⟨#[101]⟩,.slice (some ⟨b7,0,none⟩) 2 2] 42)) [.string ⟨#[116]⟩,.slice (some ⟨b5,0,none⟩) 2 2,.slice (some ⟨w7.heap.size,0,none⟩) 2 2] (⟨edge ⟨#[116]⟩ ⟨#[88]⟩ ⟨#[90]⟩,[⟨false,edge ⟨#[116]⟩ ⟨#[88]⟩ ⟨#[89]⟩⟩,⟨false,edge ⟨#[101]⟩ ⟨#[89]⟩ ⟨#[90]⟩⟩]⟩:Ru) ([b5] ++ (w7.heap.size :: ([b6] ++ [b7]))):=⟨_,_,_,_,rfl,by decide,rfl,dm cd,cc⟩
   obtain ⟨L7,cA,aa,U,a3,a4,ab,a7,b8⟩:=cv.out.arm (T7.trans (b4.mono T7.size)) ce (by
    intro b hb;have hz:=T7.size;have:=T5.size;have:=T6.size;have:=cv.out.kept.size;simp only [List.cons_append,List.nil_append,List.mem_cons,List.not_mem_nil,or_false] at hb
    rcases hb with rfl | rfl | rfl | rfl <;> omega)
   rw [World.size_alloc] at a4;have ac:=η (ι aa (ι U (ι a3 (ι a4 (ι ab (ι a7 b8))))))
   have dj:Hid (QZ (⟨edge ⟨#[116]⟩ ⟨#[88]⟩ ⟨#[90]⟩,[⟨false,edge ⟨#[116]⟩ ⟨#[88]⟩ ⟨#[89]⟩⟩,⟨false,edge ⟨#[101]⟩ ⟨#[89]⟩ ⟨#[90]⟩⟩]⟩:Ru)):=η ⟨xg _ _ _ (by decide) (by decide) (by decide),by simp,fun x hx=>by
    simp only [List.mem_cons,List.not_mem_nil,or_false] at hx
    rcases hx with rfl | rfl <;> exact xg _ _ _ (by decide) (by decide) (by decide)⟩
   clear b1 a5 cw T5 cx aw cy T6 bo cb cz T7 b4 cc cd ce aa U a3 a4 ab a7 b8
   go_wp2_with (at_builtin; refine bW rfl _ _ _ rfl w.heap.size 40 i0 (.agg #[.string ⟨#[]⟩,.slice none 0 0,.slice none 0 0]) 3 64 Tryz.underlying23 hi ao a6 ap rfl (by omega) aV (.slice A4 1 ek) 1 _ [(⟨edge ⟨#[116]⟩ ⟨#[88]⟩ ⟨#[89]⟩,[⟨false,edge ⟨#[101]⟩ ⟨#[88]⟩ ⟨#[89]⟩⟩]⟩:Ru)] _ rfl ac.out.1 rfl (some ⟨w7.heap.size+1,0,none⟩) 1 1 _ [(⟨edge ⟨#[116]⟩ ⟨#[88]⟩ ⟨#[90]⟩,[⟨false,edge ⟨#[116]⟩ ⟨#[88]⟩ ⟨#[89]⟩⟩,⟨false,edge ⟨#[101]⟩ ⟨#[89]⟩ ⟨#[90]⟩⟩]⟩:Ru)] _ rfl ac.out.2.2.1 rfl ac.out.2.2.2.1 ac.out.2.2.2.2.1 (by unfold maxLen; decide) (by decide) w4 w.heap.size ac.out.2.2.2.2.2.1 ν ac.out.2.2.2.2.2.2 ?_; intro A8 cB w8 ae af b9 aq)
   have cD:=η (cv.out.app ae ac.out.2.1 af dj.out);clear ae af b9 aq ac;go_wp2
   go_meet
   case rel=>exact ⟨[(⟨edge ⟨#[116]⟩ ⟨#[88]⟩ ⟨#[89]⟩,[⟨false,edge ⟨#[101]⟩ ⟨#[88]⟩ ⟨#[89]⟩⟩]⟩:Ru)] ++ [(⟨edge ⟨#[116]⟩ ⟨#[88]⟩ ⟨#[90]⟩,[⟨false,edge ⟨#[116]⟩ ⟨#[88]⟩ ⟨#[89]⟩⟩,⟨false,edge ⟨#[101]⟩ ⟨#[89]⟩ ⟨#[90]⟩⟩]⟩:Ru)],A8,cB,rfl,by simp,cD.out⟩
  ·have a6:¬ (m:Int)=0:=by omega
   go_wp2
   go_meet
   case rel=>exact ⟨[],_,_,rfl,by simp,a8.out⟩
 case rest=>
  obtain ⟨xs,Av,cp,rfl,ep,hF⟩:=hcut;have HF:=η hF;have y:=pick_any g (p+1) 3 _ HF.out.rdr (by have:=HP.out; omega) (by omega) (by omega);clear hF
  go_wp2_with fail
  refine y.mono ?_;rintro e w5 ⟨m5,rfl,et,dk,dl⟩;have bc:=η (HF.out.call dk (aH.dM dl));have dp:(xs.length:Int)≤2:=by omega
  clear y dk dl HF et
  go_upto_if 32 with fail
  go_cut [3] from 8 to 102 (fun v wx=>∃ (xs:List Ru) (Av:Option Addr) (cp q:Nat),v=.slice Av xs.length cp∧xs.length≤3∧q≤p+3∧fJ g q w xs (.slice Av xs.length cp) wx)
  case first=>
   by_cases hz:m5=0
   ·subst hz
    obtain ⟨wz,bp⟩:∃ wz,wz=w5:=⟨_,rfl⟩;have ds:Below wz.heap.size wz ((wz.alloc (.cells #[.bool true,.string ⟨#[88]⟩] 91)).alloc (.cells #[.bool true,.string ⟨#[88]⟩] 91)):=(ζ).alloc (by simp) _;have cE:=η ((show fJ g (p+1+1) w xs (.slice Av xs.length cp) wz from bp ▸ bc.out).below ds);have bf:=η (show fJ g (p+1+1) w xs (.slice Av xs.length cp) wz from bp ▸ bc.out);have dt:Hid (((wz.alloc (.cells #[.bool true,.string ⟨#[88]⟩] 91)).alloc (.cells #[.bool true,.string ⟨#[88]⟩] 91)).heap[wz.heap.size]? = some (.cells #[.bool true,.string ⟨#[88]⟩] 91 (0,0))):=η ((Below.heap_alloc _ _ _ (by simp)).trans (ω _ _));have du:Hid (((wz.alloc (.cells #[.bool true,.string ⟨#[88]⟩] 91)).alloc (.cells #[.bool true,.string ⟨#[88]⟩] 91)).heap[wz.heap.size+1]? = some (.cells #[.bool true,.string ⟨#[88]⟩] 91 (0,0))):=η (by simpa using ω (wz.alloc (.cells #[.bool true,.string ⟨#[88]⟩] 91)) (.cells #[.bool true,.string ⟨#[88]⟩] 91))
    have aD:=pW g (p+1+1) [⟨#[113]⟩,⟨#[115]⟩] 2 ((wz.alloc (.cells #[.bool true,.string ⟨#[88]⟩] 91)).alloc (.cells #[.bool true,.string ⟨#[88]⟩] 91)) cE.out.rdr (by have:=HP.out; omega) rfl (by decide) (by decide) (by decide);simp only [World.size_alloc] at aD;rw [← bp];clear ds bp bc
    go_wp2_with fail
    refine aD.mono ?_;rintro e w6 ⟨s,rfl,hs,dv,bg⟩;have eW:g < wz.heap.size:=by have:=bf.out.kept.size; omega
    have dx:=bg.blk dt.out (by simp; omega);have dy:=bg.blk du.out (by simp; omega);have ag:=η (cE.out.call dv bg);have eZ:wz.heap.size+2≤w6.heap.size:=by have:=bg.size; simpa using this
    have bt:Below w6.heap.size w6 ((w6.alloc (.cells #[.bool true,.string ⟨#[88]⟩] 91)).alloc (.cells #[.bool false,.string ⟨#[112]⟩,.slice (some ⟨wz.heap.size+1,0,none⟩) 1 1,.bool true,.string s,.slice (some ⟨w6.heap.size,0,none⟩) 1 1] 42)):=(ζ).alloc (by simp) _;have dz:Below w6.heap.size w6 (w6.alloc (.cells #[.bool true,.string ⟨#[88]⟩] 91)):=ζ;have cg:Below (w6.alloc (.cells #[.bool true,.string ⟨#[88]⟩] 91)).heap.size (w6.alloc (.cells #[.bool true,.string ⟨#[88]⟩] 91)) ((w6.alloc (.cells #[.bool true,.string ⟨#[88]⟩] 91)).alloc (.cells #[.bool false,.string ⟨#[112]⟩,.slice (some ⟨wz.heap.size+1,0,none⟩) 1 1,.bool true,.string s,.slice (some ⟨w6.heap.size,0,none⟩) 1 1] 42)):=ζ;have tA:=aN.below (ng dx (by decide)) bt;have tB:=aN.below (ng dy (by decide)) bt;have tC:=aN.below (ng (ω w6 (.cells #[.bool true,.string ⟨#[88]⟩] 91)) (by decide)) cg
    have ar:=yh (ω (w6.alloc (.cells #[.bool true,.string ⟨#[88]⟩] 91)) (.cells #[.bool false,.string ⟨#[112]⟩,.slice (some ⟨wz.heap.size+1,0,none⟩) 1 1,.bool true,.string s,.slice (some ⟨w6.heap.size,0,none⟩) 1 1] 42)) (show aG _ [.string ⟨#[112]⟩,_] ⟨⟨#[112]⟩,[⟨true,⟨#[88]⟩⟩]⟩ _ from ⟨_,rfl,(show (⟨#[112]⟩:ByteArray).size≤maxLen from by decide),tB⟩) (show aG _ [.string s,_] ⟨s,[⟨true,⟨#[88]⟩⟩]⟩ _ from ⟨_,rfl,Sm.max hs,tC⟩);rw [World.size_alloc] at ar
    have am:fG ((w6.alloc (.cells #[.bool true,.string ⟨#[88]⟩] 91)).alloc (.cells #[.bool false,.string ⟨#[112]⟩,.slice (some ⟨wz.heap.size+1,0,none⟩) 1 1,.bool true,.string s,.slice (some ⟨w6.heap.size,0,none⟩) 1 1] 42)) [.string ⟨#[114]⟩,.slice (some ⟨wz.heap.size,0,none⟩) 1 1,.slice (some ⟨w6.heap.size+1,0,none⟩) 2 2] (⟨⟨⟨#[114]⟩,[⟨true,⟨#[88]⟩⟩]⟩,[⟨false,⟨⟨#[112]⟩,[⟨true,⟨#[88]⟩⟩]⟩⟩,⟨true,⟨s,[⟨true,⟨#[88]⟩⟩]⟩⟩]⟩:Ru) ([wz.heap.size] ++ ((w6.heap.size+1) :: ([wz.heap.size+1] ++ [w6.heap.size]))):=
     ⟨_,_,_,_,rfl,(show (⟨#[114]⟩:ByteArray).size≤maxLen from by decide),rfl,tA,ar⟩
    have f0:w.heap.size≤wz.heap.size:=bf.out.kept.size
    obtain ⟨L7,cA,aa,U,a3,a4,ab,a7,b8⟩:=ag.out.VA bt am (by
     intro b hb;simp only [List.cons_append,List.nil_append,List.mem_cons,List.not_mem_nil,or_false] at hb
     rcases hb with rfl | rfl | rfl | rfl
     ·exact ⟨by omega,bf.out.far ν⟩
     ·exact ⟨by omega,ag.out.far (by omega)⟩
     ·exact ⟨by omega,bf.out.far (by omega)⟩
     ·exact ⟨by omega,ag.out.far (by omega)⟩)
    simp only [World.size_alloc] at a4;have HY:=η (ι aa (ι U (ι a3 (ι a4 (ι ab (ι a7 b8))))))
    have ew:Hid (QZ (⟨⟨⟨#[114]⟩,[⟨true,⟨#[88]⟩⟩]⟩,[⟨false,⟨⟨#[112]⟩,[⟨true,⟨#[88]⟩⟩]⟩⟩,⟨true,⟨s,[⟨true,⟨#[88]⟩⟩]⟩⟩]⟩:Ru)):=η ⟨⟨(show Sm ⟨#[114]⟩ from by decide),by simp,fun t ht=>by
     simp only [List.mem_cons,List.not_mem_nil,or_false] at ht; subst ht; decide⟩,by simp,fun x hx=>by
     simp only [List.mem_cons,List.not_mem_nil,or_false] at hx
     rcases hx with rfl | rfl
     ·exact ⟨by decide,by simp,fun t ht=>by simp only [List.mem_cons,List.not_mem_nil,or_false] at ht; subst ht; decide⟩
     ·exact ⟨hs,by simp,fun t ht=>by simp only [List.mem_cons,List.not_mem_nil,or_false] at ht; subst ht; decide⟩⟩
    have dC:Hid (xs.length+1≤maxLen∧(xs.length+1) * 64≤140737488355328):=η (by unfold maxLen; omega);clear aD hs dv bg dx dy bt dz cg tA tB tC ar am aa U a3 a4 ab a7 b8 dt du bf cE
    go_wp2_with (at_builtin; refine bW rfl _ _ _ rfl w.heap.size 40 i0 (.agg #[.string ⟨#[]⟩,.slice none 0 0,.slice none 0 0]) 3 64 Tryz.underlying23 hi ao a6 ap rfl (by omega) aV (.slice Av xs.length cp) xs.length _ xs _ rfl HY.out.1 rfl (some ⟨w6.heap.size+1+1,0,none⟩) 1 1 _ [(⟨⟨⟨#[114]⟩,[⟨true,⟨#[88]⟩⟩]⟩,[⟨false,⟨⟨#[112]⟩,[⟨true,⟨#[88]⟩⟩]⟩⟩,⟨true,⟨s,[⟨true,⟨#[88]⟩⟩]⟩⟩]⟩:Ru)] _ rfl HY.out.2.2.1 rfl HY.out.2.2.2.1 HY.out.2.2.2.2.1 dC.out.1 dC.out.2 w6 w.heap.size HY.out.2.2.2.2.2.1 ν HY.out.2.2.2.2.2.2 ?_; intro A8 cB w8 ae af b9 aq)
    have cD:=η (ag.out.app ae HY.out.2.1 af ew.out);clear ae af b9 aq HY;go_wp2
    go_meet
    case rel=>exact ⟨xs ++ [(⟨⟨⟨#[114]⟩,[⟨true,⟨#[88]⟩⟩]⟩,[⟨false,⟨⟨#[112]⟩,[⟨true,⟨#[88]⟩⟩]⟩⟩,⟨true,⟨s,[⟨true,⟨#[88]⟩⟩]⟩⟩]⟩:Ru)],A8,cB,p+1+1+1,by simp,by simp; omega,by omega,by rw [χ]; exact cD.out⟩
   ·have a6:¬ (m5:Int)=0:=by omega
    go_wp2
    go_meet
    case rel=>exact ⟨xs,Av,cp,_,rfl,by omega,by omega,bc.out⟩
  case rest=>
   clear ep dp bc;obtain ⟨xs,Av,cp,q,rfl,ey,hq,hF⟩:=hcut;have ag:=η hF;have y:=pick_any g q 3 _ ag.out.rdr (by have:=HP.out; omega) (by omega) (by omega);clear hF
   go_wp2_with fail
   refine y.mono ?_;rintro e w7 ⟨n0,rfl,dE,a3,dT⟩;have e0:=η (ag.out.call a3 (aH.dM dT));have bu:Hid (xs.length+n0≤5∧n0≤2∧q+1+40 * n0≤p+90):=η (by omega);have ez:(n0:Int) < 3:=dE;clear y a3 dT ag dE ey hq;go_wp2
   go_loopw [3,4] (fun v i wr=>∃ (k:Nat) (xs:List Ru) (Av:Option Addr) (cp q:Nat),i=.int .i64 k∧v=.slice Av xs.length cp∧xs.length+k≤5∧k≤2∧q+40 * k≤p+90∧fJ g q w xs (.slice Av xs.length cp) wr) (fun _ i _=>(intOf i).toNat)
   case atStart=>exact ⟨n0,xs,_,_,q+1,rfl,rfl,bu.out.1,bu.out.2.1,bu.out.2.2,e0.out⟩
   case round=>
    obtain ⟨k,xs,Av,cp,q,rfl,rfl,e1,e2,hq,hF⟩:=hrel;have HF:=η hF;have HS:Hid (xs.length+k≤5∧k≤2∧q+40 * k≤p+90∧q≤600000):=η ⟨e1,e2,hq,by have:=HP.out; omega⟩;clear hF e0 bu e1 e2 hq ez;by_cases cG:0 < k
    ·have f1:(0:Int) < (k:Int):=by omega
     have f3:(k:Int)≤2:=by have:=HS.out.2.1; omega
     have HK:=η cG;have aD:=pW g q [⟨#[113]⟩,⟨#[115]⟩,⟨#[114]⟩,⟨#[117]⟩,⟨#[116]⟩] 5 wr HF.out.rdr (by have:=HS.out; omega) rfl (by decide) (by decide) (by decide);clear cG
     go_wp2_with fail
     refine aD.mono ?_;rintro e w1 ⟨s,rfl,hs,az,e3⟩;have a8:=η (HF.out.call az e3);have e4:=mX s true g (q+1) w1 az (by have:=HS.out; omega) hs;clear aD hs az e3
     go_wp2_with fail
     refine e4.mono ?_;rintro e w2 ⟨a,v2,L2,q2,rfl,aR,eA,cI,bv,eB,e5,ci⟩;obtain ⟨A2,c2,rfl⟩:=fE cI.own;have cJ:=η (a8.out.call bv e5);have bw:Below w2.heap.size w2 (w2.alloc (.cells #[.string ⟨#[101]⟩,.string ⟨#[112]⟩,.string ⟨#[101]⟩,.string ⟨#[116]⟩,.string ⟨#[113]⟩,.string ⟨#[104]⟩,.string ⟨#[122]⟩,.string ⟨#[115]⟩] 9)):=ζ;obtain ⟨b2,cj,bh⟩:=(cI.below bD bw).slice;have a2:aG (w2.alloc (.cells #[.string ⟨#[101]⟩,.string ⟨#[112]⟩,.string ⟨#[101]⟩,.string ⟨#[116]⟩,.string ⟨#[113]⟩,.string ⟨#[104]⟩,.string ⟨#[122]⟩,.string ⟨#[115]⟩] 9)) [.string a.name,.slice A2 a.args.length c2] a b2:=⟨_,rfl,Sm.max aR,cj⟩;have cK:Hid (∀ b ∈ b2,w.heap.size≤b):=η fun b hb=>τ a8.out.kept.size ((bh b hb).resolve_right (by simp))
     have ck:g ∉ b2:=fun hg=>by have:=cK.out g hg; have:=cJ.out.glt; omega
     have bx:Hid (AtS a∧q2≤q+7):=η ⟨⟨aR,by omega,ci⟩,by omega⟩;have e6:=zk g q2 [⟨#[101]⟩,⟨#[112]⟩,⟨#[101]⟩,⟨#[116]⟩,⟨#[113]⟩,⟨#[104]⟩,⟨#[122]⟩,⟨#[115]⟩] 8 w2.heap.size _ (bv.below bw) (ω w2 _) (Nat.ne_of_lt bv.lt) (by have:=HS.out; have:=bx.out.2; omega) rfl (by decide) (by decide) (by decide);have cL:=η (cJ.out.below bw);have e7:Hid (w.heap.size≤(w2.alloc (.cells #[.string ⟨#[101]⟩,.string ⟨#[112]⟩,.string ⟨#[101]⟩,.string ⟨#[116]⟩,.string ⟨#[113]⟩,.string ⟨#[104]⟩,.string ⟨#[122]⟩,.string ⟨#[115]⟩] 9)).heap.size):=η cL.out.kept.size;have cP:=η (ι a2 ck);clear e4 aR eA cI bv eB e5 ci bw cj bh a2 ck cJ a8
     go_wp2_with fail
     refine e6.mono ?_;rintro e w3 ⟨ys,v3,q3,rfl,eC,e8,eD,ar⟩;obtain ⟨A3,c3,rfl⟩:=ar.shape;have cQ:=η (iJ.start cP.out.1 cP.out.2 ar);have bz:Hid (q3≤q+32∧ys.length≤3):=η ⟨by have:=bx.out.2; omega,e8⟩;have y:=pick_any g q3 8 _ cQ.out.bd.rdr (by have:=HS.out; have:=bz.out; omega) (by omega) (by omega);clear e6 eC e8 eD ar cP
     go_wp2_with fail
     refine y.mono ?_;rintro e w4 ⟨m8,rfl,eE,e9,bn⟩;have aE:=η (cQ.out.call e9 (aH.dM bn));clear y eE e9 bn cQ;generalize (w2.alloc (.cells #[.string ⟨#[101]⟩,.string ⟨#[112]⟩,.string ⟨#[101]⟩,.string ⟨#[116]⟩,.string ⟨#[113]⟩,.string ⟨#[104]⟩,.string ⟨#[122]⟩,.string ⟨#[115]⟩] 9))=wb at *
     go_upto_if 70 with fail
     go_cut [] from 54 to 101 (fun wx=>∃ (zs:List Pt) (A4:Option Addr) (c4:Nat),zs.length≤3∧iJ g (q3+1) w3.heap.size wb a A2 c2 b2 zs A4 c4 wx)
     case first=>
      by_cases hm:m8=0
      ·subst hm
       have J:=η aE.out.bare;have f2:=aE.out.tq 2;have q2:=aE.out.cell.2.2;have n4:w3.heap.size < w4.heap.size:=ψ aE.out.box;go_wp2
       go_meet
       case rel=>exact ⟨[],_,_,by simp,J.out⟩
      ·have eI:¬ (m8:Int)=0:=by omega
       go_wp2
       go_meet
       case rel=>exact ⟨ys,_,_,bz.out.2,aE.out⟩
     case rest=>
      clear aE;obtain ⟨zs,A4,c4,ea,hX⟩:=hcut;have HX:=η hX;have bA:=η ea;have zc:=hX.cell;obtain ⟨z0,z1,z2⟩:=zc;obtain ⟨br,am,bB⟩:=hX.rule cK.out e7.out;have eb:=zi ⟨a,zs⟩ _ _ _ br _ am (τ (Dl _ 4 zs fun x hx=>(hX.bd.small x hx).2.1) (by omega)) (τ bx.out.1.2.1 (by omega));clear hX ea am bB
      go_wp2_with fail
      refine eb.mono ?_;rintro e w5 ⟨he,b1⟩;replace he:e=.returned (.bool (dZ a zs)):=he;subst he;have J:=η (HX.out.below b1);clear eb b1 z0 z1 z2 HX;generalize dZ a zs=tb
      go_upto_if 75 with fail
      go_cut [] from 54 to 101 (fun wx=>∃ (zs:List Pt) (A4:Option Addr) (c4:Nat),zs.length≤4∧iJ g (q3+1) w3.heap.size wb a A2 c2 b2 zs A4 c4 wx)
      case first=>
       cases tb
       case true=>
        go_wp2
        go_meet
        case rel=>exact ⟨zs,_,_,by have:=bA.out; omega,J.out⟩
       case false=>
        obtain ⟨p0,hp,eJ,eK,eL⟩:=info_parts FU;have cT:Below w5.heap.size w5 (w5.alloc (.cells #[.bool true,.string ⟨#[88]⟩,.bool true,.string ⟨#[89]⟩,.bool true,.string ⟨#[90]⟩] 91)):=ζ;have cU:=J.out.below cT;have ec:=J7 (ω w5 (.cells #[.bool true,.string ⟨#[88]⟩,.bool true,.string ⟨#[89]⟩,.bool true,.string ⟨#[90]⟩] 91)) (by decide) (by decide) (by decide);obtain ⟨L7,cA,aa,U,a3,a4,ab,a7⟩:=cU.bd.part (a:=(⟨⟨#[104]⟩,[⟨true,⟨#[88]⟩⟩,⟨true,⟨#[89]⟩⟩,⟨true,⟨#[90]⟩⟩]⟩:A)) J.out.bd rfl ⟨_,rfl,(show (⟨#[104]⟩:ByteArray).size≤maxLen from by decide),ec⟩ (fun b hb=>by simp at hb; omega) false;have HY:=η (ι aa (ι U (ι a3 (ι a4 (ι ab (ι a7 (τ cU.bd.kept.size a7.size)))))));simp only [World.size_alloc] at HY;have cl:Below w5.heap.size w5 ((w5.alloc (.cells #[.bool true,.string ⟨#[88]⟩,.bool true,.string ⟨#[89]⟩,.bool true,.string ⟨#[90]⟩] 91)).alloc (.cells #[.bool false,.string ⟨#[104]⟩,.slice (some ⟨w5.heap.size,0,none⟩) 3 3] 42)):=cT.trans (ϑ.alloc (by simp) _)
        have bE:=η cl
        have eM:Hid (Wi ⟨false,(⟨⟨#[104]⟩,[⟨true,⟨#[88]⟩⟩,⟨true,⟨#[89]⟩⟩,⟨true,⟨#[90]⟩⟩]⟩:A)⟩):=η ⟨by decide,by simp,fun t ht=>by
         simp only [List.mem_cons,List.not_mem_nil,or_false] at ht
         rcases ht with rfl | rfl | rfl <;> decide⟩
        have ed:Hid (zs.length+1≤maxLen∧(zs.length+1) * 48≤140737488355328):=η (by have:=bA.out; unfold maxLen; omega);have f2:=J.out.tq 2;have q2:=J.out.cell.2.2;have n4:w3.heap.size < w5.heap.size:=ψ J.out.box;clear cT cU ec aa U a3 a4 ab a7 cl
        go_wp2_with (at_builtin; refine bW rfl _ _ _ rfl wb.heap.size 42 p0 (.agg #[.bool false,.string ⟨#[]⟩,.slice none 0 0]) 3 48 Tryz.underlying38 hp eJ eK eL rfl (by omega) jd (.slice A4 zs.length c4) zs.length L7 zs cA rfl HY.out.1 rfl (some ⟨w5.heap.size+1,0,none⟩) 1 1 _ [⟨false,(⟨⟨#[104]⟩,[⟨true,⟨#[88]⟩⟩,⟨true,⟨#[89]⟩⟩,⟨true,⟨#[90]⟩⟩]⟩:A)⟩] _ rfl HY.out.2.2.1 rfl HY.out.2.2.2.1 HY.out.2.2.2.2.1 ed.out.1 ed.out.2 w5 wb.heap.size (bE.out.mono J.out.bd.kept.size) ν (τ J.out.bd.kept.size bE.out.size) ?_; intro A8 c8 w8 ae af b9 aq; have eN:=η (J.out.app bE.out ae HY.out.2.1 af aq eM.out); have eO:=J.out.keep bE.out aq; obtain ⟨_,q8,f8,n8⟩:=eO; clear ae af b9 aq)
        go_wp2
        go_meet
        case rel=>exact ⟨zs ++ [⟨false,(⟨⟨#[104]⟩,[⟨true,⟨#[88]⟩⟩,⟨true,⟨#[89]⟩⟩,⟨true,⟨#[90]⟩⟩]⟩:A)⟩],A8,c8,by have:=bA.out; simp; omega,eN.out⟩
      case rest=>
       clear J bA;obtain ⟨zs,A4,c4,cV,hX⟩:=hcut;have HX:=η hX;have f4:=η cV;have aL:=η (cL.out.call HX.out.bd.rdr HX.out.bd.kept);have eQ:Hid (QZ ⟨a,zs⟩):=η ⟨bx.out.1,τ cV (by decide),HX.out.bd.small⟩;obtain ⟨br,am,bB⟩:=HX.out.rule cK.out e7.out;have cW:=η (ι am bB);have bL:Hid (xs.length≤100):=η (by have:=HS.out.1; omega);have eT:w3.heap.size < wc.heap.size:=ψ HX.out.box;have Ha:Hid (Below wc.heap.size wc (wc.alloc (.cells #[] 40)).drew∧(wc.alloc (.cells #[] 40)).drew.heap[wc.heap.size]? = some (.cells #[] 40 (0,0))):=η ⟨(ζ).drew,ω wc _⟩
       have Hb:Hid (Below wc.heap.size wc ((wc.alloc (.cells #[] 40)).alloc (.cells #[.string a.name,.slice A2 a.args.length c2,.slice A4 zs.length c4] 40)).drew∧((wc.alloc (.cells #[] 40)).alloc (.cells #[.string a.name,.slice A2 a.args.length c2,.slice A4 zs.length c4] 40)).drew.heap[wc.heap.size]? = some (.cells #[] 40 (0,0))∧((wc.alloc (.cells #[] 40)).alloc (.cells #[.string a.name,.slice A2 a.args.length c2,.slice A4 zs.length c4] 40)).drew.heap[wc.heap.size+1]? = some (.cells #[.string a.name,.slice A2 a.args.length c2,.slice A4 zs.length c4] 40 (0,0))):=η ⟨((ζ).alloc (by simp) _).drew,(lG wc _ _).1,(lG wc _ _).2⟩
       have Hc:Hid (Below wc.heap.size wc ((wc.alloc (.cells #[.string a.name,.slice A2 a.args.length c2,.slice A4 zs.length c4] 40)).alloc (.cells #[] 40)).drew∧((wc.alloc (.cells #[.string a.name,.slice A2 a.args.length c2,.slice A4 zs.length c4] 40)).alloc (.cells #[] 40)).drew.heap[wc.heap.size+1]? = some (.cells #[] 40 (0,0))∧((wc.alloc (.cells #[.string a.name,.slice A2 a.args.length c2,.slice A4 zs.length c4] 40)).alloc (.cells #[] 40)).drew.heap[wc.heap.size]? = some (.cells #[.string a.name,.slice A2 a.args.length c2,.slice A4 zs.length c4] 40 (0,0))):=η ⟨((ζ).alloc (by simp) _).drew,(lG wc _ _).2,(lG wc _ _).1⟩;obtain ⟨z0,z1,z2⟩:=HX.out.cell;clear hX cV am bB
       go_upto_region 17 with fail
       go_cut [7] from 54 to 101 (fun v7 wx=>∃ (A5:Option Addr) (c5:Nat),v7=.slice A5 (xs.length+1) c5∧fJ g (q3+1) w (xs ++ [⟨a,zs⟩]) (.slice A5 (xs.length+1) c5) wx∧fJ g (q3+1) w xs (.slice Av xs.length cp) wx)
       case first=>
        go_wp2
        go_region_law
         (first
          | (refine Du hi ao a6 ap (by rfl) (.tmp 87) (.tmp 88) (by rfl) wc.heap.size (by rfl) (by with_reducible exact Ha.out.2) ν aL.out (by rfl) rfl (by with_reducible exact Ha.out.1) bL.out ?_; intro A9 c9 w9 I a1 av; obtain ⟨L9,ee,I,a0⟩:=I; have aM:=η (ι (I.below aV (ϑ.alloc ν (.cells #[.string a.name,.slice A2 a.args.length c2,.slice A4 zs.length c4] 40))) (ι (ω w9 (.cells #[.string a.name,.slice A2 a.args.length c2,.slice A4 zs.length c4] 40)) (a1.alloc a1.size (.cells #[.string a.name,.slice A2 a.args.length c2,.slice A4 zs.length c4] 40)))); obtain ⟨z0,z1,z2⟩:=(HX.out.below a1).cell; have bO:=η a0; clear I a1 av a0 Ha Hb Hc)
          | (refine Du hi ao a6 ap (by rfl) (.tmp 87) (.tmp 88) (by rfl) wc.heap.size (by rfl) (by with_reducible exact Hb.out.2.1) ν aL.out (by rfl) rfl (by with_reducible exact Hb.out.1) bL.out ?_; intro A9 c9 w9 I a1 av; obtain ⟨L9,ee,I,a0⟩:=I; have aM:=η (ι I (ι ((av.block (wc.heap.size+1) (by simp) (by simp)).trans Hb.out.2.2) a1)); obtain ⟨z0,z1,z2⟩:=(HX.out.below a1).cell; have bO:=η a0; clear I a1 av a0 Ha Hb Hc)
          | (refine Du hi ao a6 ap (by rfl) (.tmp 87) (.tmp 88) (by rfl) (wc.heap.size+1) (by rfl) (by with_reducible exact Hc.out.2.1) (Nat.le_succ _) aL.out (by rfl) rfl (by with_reducible exact Hc.out.1) bL.out ?_; intro A9 c9 w9 I a1 av; obtain ⟨L9,ee,I,a0⟩:=I; have aM:=η (ι I (ι ((av.block wc.heap.size (by simp; omega) (by simp)).trans Hc.out.2.2) a1)); obtain ⟨z0,z1,z2⟩:=(HX.out.below a1).cell; have bO:=η a0; clear I a1 av a0 Ha Hb Hc)
          | (refine Tz hi ao a6 ap (by rfl) (.tmp 89) (.tmp 91) (by rfl) (by rfl) aM.out.1 bO.out aL.out _ (by rfl) aM.out.2.1 cW.out.1 cW.out.2 eQ.out rfl aM.out.2.2 bL.out ?_; intro f6 f9 fb cm cn; have HY:=η cm; have HO:=η (aL.out.below cn); clear cm cn aM bO z0 z1 z2))
        all_goals
         go_wp2
         go_meet
         case rel=>exact ⟨_,_,rfl,HY.out,HO.out⟩
       case rest=>
        clear HX cW aL HF cL Ha Hb Hc z0 z1 z2;obtain ⟨A5,c5,rfl,hY,hO⟩:=hcut;have HY:=η hY;have HO:=η hO;obtain ⟨bq,hq,_⟩:=hY.rules;have eg:=rE _ _ bq _ hq;clear hq hY hO;generalize dV (xs ++ [⟨a,zs⟩])=pc at *
        go_wp2_with fail
        refine eg.mono ?_;rintro e fd ⟨rfl,bi⟩;have cX:=η (HY.out.below bi);have cY:=η (HO.out.below bi);clear eg bi HY HO;have d0:Hid (q3+2≤q+40):=η (by have:=bz.out.1; omega);by_cases hc:(pc:Int)=0
        ·go_wp2
         go_roundw
         case rel=>exact ⟨k - 1,xs ++ [⟨a,zs⟩],A5,c5,q3+1,by have:=HK.out; first | (unfold wrap64; congr 1; omega) | go_num,by rw [χ]; rfl,by rw [χ]; have:=HS.out; have:=HK.out; simp; omega,by have:=HS.out; omega,by have:=HS.out; have:=HK.out; have:=d0.out; omega,by rw [χ]; exact cX.out⟩
         case measure=>have:=HK.out; simp [intOf]; omega
        ·have y:=pick_any g (q3+1) 24 _ cY.out.rdr (by have:=HS.out; have:=bz.out; omega) (by omega) (by omega)
         go_wp2_with fail
         refine y.mono ?_;rintro e fe ⟨eh,rfl,ei,bj,bk⟩;have eR:=η (cX.out.call bj (aH.dM bk));have eS:=η (cY.out.call bj (aH.dM bk));clear y ei bj bk cX cY;by_cases hm:eh=0
         ·subst hm
          go_wp2;go_roundw
          case rel=>exact ⟨k - 1,xs ++ [⟨a,zs⟩],A5,c5,q3+1+1,by have:=HK.out; first | (unfold wrap64; congr 1; omega) | go_num,by rw [χ]; rfl,by rw [χ]; have:=HS.out; have:=HK.out; simp; omega,by have:=HS.out; omega,by have:=HS.out; have:=HK.out; have:=d0.out; omega,by rw [χ]; exact eR.out⟩
          case measure=>have:=HK.out; simp [intOf]; omega
         ·have eI:((eh:Int) == 0)=false:=by simp; omega
          have ff:((pc:Int) == 0)=false:=by simp; omega
          clear hc hm;go_wp2;go_roundw
          case rel=>exact ⟨k - 1,xs,Av,cp,q3+1+1,by have:=HK.out; first | (unfold wrap64; congr 1; omega) | go_num,rfl,by have:=HS.out; omega,by have:=HS.out; omega,by have:=HS.out; have:=HK.out; have:=d0.out; omega,eS.out⟩
          case measure=>have:=HK.out; simp [intOf]; omega
    ·obtain rfl:k=0:=by omega
     clear cG;go_wp2;go_ret;exact ⟨xs,_,q,rfl,by have:=HS.out; omega,by have:=HS.out; omega,HF.out⟩
end Go.Proofs.YtkjinanbccloeaaGreatDoor
