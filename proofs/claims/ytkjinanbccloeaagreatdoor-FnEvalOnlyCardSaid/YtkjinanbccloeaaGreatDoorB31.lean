/- Of the proof of FnEvalOnly: FineI, DrawAR, RunP, ChoI, HinI. -/
import Derived.Test.YtkjinanbccloeaaGreatDoorB27
import Derived.Test.YtkjinanbccloeaaGreatDoorB30
import Derived.Test.YtkjinanbccloeaaGreatDoorB29
set_option linter.unusedVariables false
set_option maxHeartbeats 4000000
set_option maxRecDepth 100000
namespace Go.Proofs.YtkjinanbccloeaaGreatDoor
section
open Go.RowKit D
attribute [local go_sem ↓] Go.wp_at_zero Go.wp_at_succ
theorem Hz (rs:List Ru) (v:Value) (bs:List Nat) (w:World) (h:dS w [v] rs bs) (I:oV w):
  Calls Tryz.prog 68 #[v] w fun e w'=>e=.returned (.bool (decide (dV rs=0)))∧Below w.heap.size w w':=by
 have c1:=DJ rs v bs w h I;have J:(dV rs:Int)≤5:=by have:=Jy rs; omega
 clear h I;generalize dV rs=c at *;by_cases h0:c=0
 ·subst h0
  go_enter Tryz.func68,Tryz.ntmps68
  go_wp2_with fail
  refine c1.mono ?_;rintro e U ⟨rfl,y⟩;go_wp2;go_ret;exact ⟨rfl,y⟩
 ·have h1:¬ (c:Int)=0:=by omega
  have HD:Hid (decide (c=0)=false):=η (decide_eq_false h0);clear h0
  go_enter Tryz.func68,Tryz.ntmps68
  go_wp2_with fail
  refine c1.mono ?_;rintro e U ⟨rfl,y⟩;go_wp2;go_ret;exact ⟨aJ (by rw [HD.out]; exact beq_eq_false_iff_ne.2 h1),y⟩
def D.Wj:Value→Nat
 | .slice _ n _=>n
 | _=>0
theorem D.KH {w:World}:eP w [.slice none 0 0] [] []:=⟨none,0,rfl,ν,by unfold maxLen; omega,fun _=>rfl,fun h=>absurd rfl h⟩
theorem D.zu {w:World}:gW w [.slice none 0 0] [] []:=⟨none,0,rfl,ν,by unfold maxLen; omega,fun _=>rfl,fun h=>absurd rfl h⟩
def D.zR:Ru:=⟨⟨⟨#[122]⟩,[]⟩,[]⟩
theorem D.VL {w:World}:fG w [.string ⟨#[122]⟩,.slice none 0 0,.slice none 0 0] zR []:=⟨_,_,[],[],rfl,(show (⟨#[122]⟩:ByteArray).size≤maxLen from by decide),rfl,KH,zu⟩
theorem D.TV:QZ zR:=⟨⟨(show Sm ⟨#[122]⟩ from by decide),by simp [zR],fun t y=>by simp [zR] at y⟩,by simp [zR],fun x I=>by simp [zR] at I⟩
def D.pR:Ru:=⟨⟨⟨#[112]⟩,[⟨false,⟨#[97]⟩⟩,⟨false,⟨#[98]⟩⟩]⟩,[]⟩
theorem D.TW:QZ pR:=⟨⟨(show Sm ⟨#[112]⟩ from by decide),by simp [pR],fun t y=>by
 simp only [pR,List.mem_cons,List.not_mem_nil,or_false] at y
 rcases y with rfl | rfl
 ·exact (show Sm ⟨#[97]⟩ from by decide)
 ·exact (show Sm ⟨#[98]⟩ from by decide)⟩,by simp [pR],fun x I=>by simp [pR] at I⟩
def D.qR (s:ByteArray):Ru:=⟨⟨⟨#[113]⟩,[⟨true,⟨#[88]⟩⟩]⟩,[⟨false,⟨⟨#[112]⟩,[⟨true,⟨#[88]⟩⟩]⟩⟩,⟨true,⟨s,[⟨true,⟨#[88]⟩⟩]⟩⟩]⟩
theorem D.TY {s:ByteArray} (J:Sm s):QZ (qR s):=⟨⟨(show Sm ⟨#[113]⟩ from by decide),by simp [qR],fun t y=>by simp only [qR,List.mem_cons,List.not_mem_nil,or_false] at y; subst y; decide⟩,by simp [qR],fun x I=>by
 simp only [qR,List.mem_cons,List.not_mem_nil,or_false] at I
 rcases I with rfl | rfl
 ·exact ⟨(show Sm ⟨#[112]⟩ from by decide),by simp,fun t y=>by simp only [List.mem_cons,List.not_mem_nil,or_false] at y; subst y; decide⟩
 ·exact ⟨J,by simp,fun t y=>by simp only [List.mem_cons,List.not_mem_nil,or_false] at y; subst y; decide⟩⟩
theorem zN (g p:Nat) (w:World) (h:kH g p w) (hp:p≤400000):
  Calls Tryz.prog 99 #[.pointer (some ⟨g,0,none⟩)] w (Ti 9 g p 150 w):=by
 obtain ⟨i0,hi,aM,aR,b1⟩:=info_parts FV;have bt:=xk g p w h (by omega);have HP:=η hp;clear h hp
 go_enter Tryz.func99,Tryz.ntmps99
 go_wp2_with fail
 refine bt.mono ?_;rintro e w1 ⟨xs,v1,q1,rfl,bu,av,hF⟩;obtain ⟨Av,cp,rfl⟩:=hF.shape;have HF:=η hF;have HX:Hid (xs.length≤5∧q1≤p+100):=η ⟨bu,av⟩;have aw:=pick_any g q1 20 _ HF.out.rdr (by have:=HP.out; omega) (by omega) (by omega);clear bt hF bu av
 go_wp2_with fail
 refine aw.mono ?_;rintro e y ⟨m,rfl,hm,bv,bw⟩;have I:=η (HF.out.call bv (aH.dM bw));have a3:Hid (xs.length+1≤maxLen∧(xs.length+1) * 64≤140737488355328):=η (by have:=HX.out; unfold maxLen; omega);clear aw hm bv bw HF;by_cases h0:m=0
 ·subst h0
  have bx:=wu g (q1+1) y I.out.rdr (by have:=HP.out; have:=HX.out; omega)
  go_wp2_with fail
  refine bx.mono ?_;rintro e w3 ⟨a,v3,L3,q3,rfl,bk,bz,bl,ae,b2,bA,b9⟩;obtain ⟨A3,c3,rfl⟩:=fE bl.own;have af:Below w3.heap.size w3 (w3.alloc (.cells #[.string ⟨#[101]⟩,.string ⟨#[112]⟩,.string ⟨#[113]⟩] 9)):=ζ;obtain ⟨b3,bc,az⟩:=(bl.below bD af).slice;have bf:aG (w3.alloc (.cells #[.string ⟨#[101]⟩,.string ⟨#[112]⟩,.string ⟨#[113]⟩] 9)) [.string a.name,.slice A3 a.args.length c3] a b3:=⟨_,rfl,Sm.max bk,bc⟩;have bn:=η ((I.out.call ae bA).below af);have bo:Hid (∀ b ∈ b3,y.heap.size≤b):=η fun b hb=>(az b hb).resolve_right (by simp)
  have bg:g ∉ b3:=fun hg=>by have:=bo.out g hg; have:=I.out.glt; have:=I.out.kept.size; omega
  have b5:Hid (AtS a∧q3≤q1+21):=η ⟨⟨bk,bz,b9⟩,by omega⟩;have bB:=zk g q3 [⟨#[101]⟩,⟨#[112]⟩,⟨#[113]⟩] 3 w3.heap.size _ (ae.below af) (ω w3 _) (Nat.ne_of_lt ae.lt) (by have:=HP.out; have:=HX.out; have:=b5.out.2; omega) rfl (by decide) (by decide) (by decide);have bE:=η (ι bf bg);clear bx bk bz bl ae b2 bA b9 af bc az bf bg
  go_wp2_with fail
  refine bB.mono ?_;rintro e w4 ⟨ys,v4,q4,rfl,cn,bL,co,aa⟩;obtain ⟨A4,c4,rfl⟩:=aa.shape;have bh:aG w4 [.string a.name,.slice A3 a.args.length c3] a b3:=Good.kept aj bE.out.1 aa.kept (fun b hb=>by simp; rintro rfl; exact bE.out.2 hb);obtain ⟨b4,bi,ag⟩:=aa.parts;have bO:=η (bn.out.call aa.rdr aa.kept);have am:fG w4 [.string a.name,.slice A3 a.args.length c3,.slice A4 ys.length c4] (⟨a,ys⟩:Ru) (b3 ++ b4):=⟨_,_,b3,b4,rfl,Sm.max b5.out.1.1,rfl,dm bh,bi⟩;have bR:Hid (QZ ⟨a,ys⟩∧q4≤q1+46):=η ⟨⟨b5.out.1,by have:ys.length≤3:=bL; show ys.length≤8; omega,aa.small⟩,by have:=b5.out.2; omega⟩
  obtain ⟨L7,ab,a4,a0,a5,a6,a7,a8,a9⟩:=bO.out.VA ϑ am (fun b hb=>by
   rcases μ.1 hb with hb | hb
   ·exact ⟨τ I.out.kept.size (bo.out b hb),I.out.far (bo.out b hb)⟩
   ·exact ⟨τ bn.out.kept.size (ag b hb),bn.out.far (ag b hb)⟩)
  have J:=η (ι a4 (ι a0 (ι a5 (ι a6 (ι a7 (ι a8 a9))))));clear a4 a0 a5 a6 a7 a8 a9;clear bB cn bL co aa bh bi ag am
  go_wp2_with (at_builtin; refine bW rfl _ _ _ rfl w.heap.size 40 i0 (.agg #[.string ⟨#[]⟩,.slice none 0 0,.slice none 0 0]) 3 64 Tryz.underlying23 hi aM aR b1 rfl (by omega) aV (.slice Av xs.length cp) xs.length _ xs _ rfl J.out.1 rfl (some ⟨w4.heap.size,0,none⟩) 1 1 _ [⟨a,ys⟩] _ rfl J.out.2.2.1 rfl J.out.2.2.2.1 J.out.2.2.2.2.1 a3.out.1 a3.out.2 w4 w.heap.size J.out.2.2.2.2.2.1 ν J.out.2.2.2.2.2.2 ?_; intro A8 b6 w8 a1 a2 ao ac)
  have ap:=η (bO.out.app a1 J.out.2.1 a2 bR.out.1);clear a1 a2 ao ac J;go_wp2;go_ret;exact ⟨xs ++ [⟨a,ys⟩],_,q4,rfl,by have:=HX.out; simp; omega,by have:=HX.out; have:=bR.out.2; omega,ap.out⟩
 ·have cz:¬ (m:Int)=0:=by omega
  by_cases h1:m=1
  ·subst h1
   have bX:Hid (∃ (ys:List Ru) (A':Option Addr) (c' q:Nat),Value.slice Av xs.length cp=.slice A' ys.length c'∧ys.length≤9∧q≤p+102+ys.length∧fJ g q w ys (.slice A' ys.length c') y):=η ⟨xs,Av,cp,_,rfl,by have:=HX.out; omega,by have:=HX.out; omega,I.out⟩;clear a3
   go_wp2_with fail
   go_loopw [3] (fun v wr=>∃ (ys:List Ru) (A':Option Addr) (c' q:Nat),v=.slice A' ys.length c'∧ys.length≤9∧q≤p+102+ys.length∧fJ g q w ys (.slice A' ys.length c') wr) (fun v _=>10 - Wj v)
   case atStart=>exact bX.out
   case round=>
    clear I bX HX;obtain ⟨ys,A',c',q,rfl,c5,hq,hI⟩:=hrel;have HI:=η hI;have aq:Hid (ys.length≤9∧q≤p+102+ys.length):=η ⟨c5,hq⟩;have aw:=pick_any g q 2 _ HI.out.rdr (by have:=HP.out; have:=aq.out; omega) (by omega) (by omega);clear hI hq c5
    go_wp2_with fail
    refine aw.mono ?_;rintro e w3 ⟨j2,rfl,cq,ae,c6⟩;have bp:=η (HI.out.call ae (aH.dM c6));have cA:IntKind.i64.wrap (8+(j2:Int))=8+(j2:Int):=by simp only [IntKind.wrap,IntKind.bits,IntKind.signed]; simp; omega
    have HJ:=η cq;clear aw ae c6 HI;by_cases c7:ys.length < 8+j2
    ·have c8:(ys.length:Int) < 8+(j2:Int):=by omega
     have cr:=η c7;have a3:Hid (ys.length+1≤maxLen∧(ys.length+1) * 64≤140737488355328):=η (by have:=aq.out; unfold maxLen; omega);clear c7;obtain ⟨L7,ab,a4,a0,a5,a6,a7,a8,a9⟩:=bp.out.VA ϑ VL (fun b hb=>by simp at hb);have J:=η (ι a4 (ι a0 (ι a5 (ι a6 (ι a7 (ι a8 a9))))));clear a4 a0 a5 a6 a7 a8 a9
     go_wp2_with (at_builtin; refine bW rfl _ _ _ rfl w.heap.size 40 i0 (.agg #[.string ⟨#[]⟩,.slice none 0 0,.slice none 0 0]) 3 64 Tryz.underlying23 hi aM aR b1 rfl (by omega) aV (.slice A' ys.length c') ys.length _ ys _ rfl J.out.1 rfl (some ⟨w3.heap.size,0,none⟩) 1 1 _ [zR] _ rfl J.out.2.2.1 rfl J.out.2.2.2.1 J.out.2.2.2.2.1 a3.out.1 a3.out.2 w3 w.heap.size J.out.2.2.2.2.2.1 ν J.out.2.2.2.2.2.2 ?_; intro A8 b6 w8 a1 a2 ao ac)
     have ap:=η (bp.out.app a1 J.out.2.1 a2 TV);clear a1 a2 ao ac J;go_wp2;go_roundw
     case rel=>exact ⟨ys ++ [zR],A8,b6,q+1,by rw [χ]; rfl,by have:=cr.out; have:=HJ.out; simp; omega,by have:=aq.out; simp; omega,by rw [χ]; exact ap.out⟩
     case measure=>have:=aq.out; simp [Wj]; omega
    ·have c8:¬ (ys.length:Int) < 8+(j2:Int):=by omega
     go_wp2;go_ret;exact ⟨ys,_,q+1,rfl,aq.out.1,by have:=aq.out; omega,bp.out⟩
  ·have cB:¬ (m:Int)=1:=by omega
   by_cases h2:m=2
   ·subst h2
    obtain ⟨w5,ar⟩:∃ w5,w5=(y.alloc (.cells #[.bool true,.string ⟨#[88]⟩] 91)).alloc (.cells #[.string ⟨#[113]⟩,.slice (some ⟨y.heap.size,0,none⟩) 1 1] 33):=⟨_,rfl⟩;have c9:Below y.heap.size y w5:=ar ▸ (ζ).alloc (by simp) _;have ca:w5.heap.size=y.heap.size+2:=by rw [ar]; simp
    have cb:w5.heap[y.heap.size]? = some (.cells #[.bool true,.string ⟨#[88]⟩] 91 (0,0)):=by rw [ar]; exact (lG y _ _).1
    have b7:w5.heap[y.heap.size+1]? = some (.cells #[.string ⟨#[113]⟩,.slice (some ⟨y.heap.size,0,none⟩) 1 1] 33 (0,0)):=by rw [ar]; exact (lG y _ _).2
    have cc:=η (I.out.below c9);have cd:=η (ι cb b7);have cD:=η ca
    have ce:Hid (Calls Tryz.prog 159 #[.pointer (some ⟨g,0,none⟩),.slice (some ⟨w5.heap.size,0,none⟩) 3 3] (w5.alloc (.cells #[.string ⟨#[113]⟩,.string ⟨#[114]⟩,.string ⟨#[115]⟩] 9)).drew (fun e U=>∃ (s:ByteArray) (L7:List Value) (ab:List Nat),e=.returned (.string s)∧Sm s∧U.cell? ⟨y.heap.size+1,0,none⟩=some (.string ⟨#[113]⟩)∧U.cell? ⟨y.heap.size+1,1,none⟩=some (.slice (some ⟨y.heap.size,0,none⟩) 1 1)∧U.heap[y.heap.size+1]? = some (.cells #[.string ⟨#[113]⟩,.slice (some ⟨y.heap.size,0,none⟩) 1 1] 33 (0,0))∧y.heap.size+1 < U.heap.size∧fJ g (q1+1+1) w xs (.slice Av xs.length cp) U∧
      aZ 3 fG w.heap.size 40 ((U.alloc (.cells #[.bool false,.string ⟨#[112]⟩,.slice (some ⟨y.heap.size,0,none⟩) 1 1,.bool true,.string s,.slice (some ⟨y.heap.size,0,none⟩) 1 1] 42)).alloc (.cells #[.string ⟨#[113]⟩,.slice (some ⟨y.heap.size,0,none⟩) 1 1,.slice (some ⟨U.heap.size,0,none⟩) 2 2] 40)) (.slice Av xs.length cp) L7 xs ab∧(∀ b ∈ ab ++ ([y.heap.size] ++ (U.heap.size :: ([y.heap.size] ++ [y.heap.size]))),w.heap.size≤b)∧aQ 3 fG ((U.alloc (.cells #[.bool false,.string ⟨#[112]⟩,.slice (some ⟨y.heap.size,0,none⟩) 1 1,.bool true,.string s,.slice (some ⟨y.heap.size,0,none⟩) 1 1] 42)).alloc (.cells #[.string ⟨#[113]⟩,.slice (some ⟨y.heap.size,0,none⟩) 1 1,.slice (some ⟨U.heap.size,0,none⟩) 2 2] 40)) [.string ⟨#[113]⟩,.slice (some ⟨y.heap.size,0,none⟩) 1 1,.slice (some ⟨U.heap.size,0,none⟩) 2 2] [qR s] ([y.heap.size] ++ (U.heap.size :: ([y.heap.size] ++ [y.heap.size])))∧
      Lies ((U.alloc (.cells #[.bool false,.string ⟨#[112]⟩,.slice (some ⟨y.heap.size,0,none⟩) 1 1,.bool true,.string s,.slice (some ⟨y.heap.size,0,none⟩) 1 1] 42)).alloc (.cells #[.string ⟨#[113]⟩,.slice (some ⟨y.heap.size,0,none⟩) 1 1,.slice (some ⟨U.heap.size,0,none⟩) 2 2] 40)) (some ⟨U.heap.size+1,0,none⟩) [.string ⟨#[113]⟩,.slice (some ⟨y.heap.size,0,none⟩) 1 1,.slice (some ⟨U.heap.size,0,none⟩) 2 2]∧(∀ b ∈ ([y.heap.size] ++ (U.heap.size :: ([y.heap.size] ++ [y.heap.size]))),(Value.slice Av xs.length cp).ownBlock ≠ some b)∧Below w.heap.size U ((U.alloc (.cells #[.bool false,.string ⟨#[112]⟩,.slice (some ⟨y.heap.size,0,none⟩) 1 1,.bool true,.string s,.slice (some ⟨y.heap.size,0,none⟩) 1 1] 42)).alloc (.cells #[.string ⟨#[113]⟩,.slice (some ⟨y.heap.size,0,none⟩) 1 1,.slice (some ⟨U.heap.size,0,none⟩) 2 2] 40))∧w.heap.size≤((U.alloc (.cells #[.bool false,.string ⟨#[112]⟩,.slice (some ⟨y.heap.size,0,none⟩) 1 1,.bool true,.string s,.slice (some ⟨y.heap.size,0,none⟩) 1 1] 42)).alloc (.cells #[.string ⟨#[113]⟩,.slice (some ⟨y.heap.size,0,none⟩) 1 1,.slice (some ⟨U.heap.size,0,none⟩) 2 2] 40)).heap.size)):=by
     refine η ((pW g (q1+1) [⟨#[113]⟩,⟨#[114]⟩,⟨#[115]⟩] 3 w5.drew cc.out.rdr (by have:=HP.out; have:=HX.out; omega) rfl (by decide) (by decide) (by decide)).mono ?_);rintro e U ⟨s,rfl,hs,cu,b8⟩;have cE:=I.out.glt;have bq:w.heap.size≤y.heap.size:=I.out.kept.size;have cv:=b8.blk cd.out.1 (by simp; omega);have br:=b8.blk cd.out.2 (by simp; omega);have aD:=cc.out.call cu ((aH.refl [g] w5).drew.trans b8);have cG:w5.heap.size≤U.heap.size:=b8.size;have cg:Below U.heap.size U (U.alloc (.cells #[.bool false,.string ⟨#[112]⟩,.slice (some ⟨y.heap.size,0,none⟩) 1 1,.bool true,.string s,.slice (some ⟨y.heap.size,0,none⟩) 1 1] 42)):=ζ;have tA:=aN.below (ng cv (by decide)) cg
     have aa:=yh (ω U (.cells #[.bool false,.string ⟨#[112]⟩,.slice (some ⟨y.heap.size,0,none⟩) 1 1,.bool true,.string s,.slice (some ⟨y.heap.size,0,none⟩) 1 1] 42)) (show aG _ [.string ⟨#[112]⟩,_] ⟨⟨#[112]⟩,[⟨true,⟨#[88]⟩⟩]⟩ _ from ⟨_,rfl,(show (⟨#[112]⟩:ByteArray).size≤maxLen from by decide),tA⟩) (show aG _ [.string s,_] ⟨s,[⟨true,⟨#[88]⟩⟩]⟩ _ from ⟨_,rfl,Sm.max hs,tA⟩);have am:fG (U.alloc (.cells #[.bool false,.string ⟨#[112]⟩,.slice (some ⟨y.heap.size,0,none⟩) 1 1,.bool true,.string s,.slice (some ⟨y.heap.size,0,none⟩) 1 1] 42)) [.string ⟨#[113]⟩,.slice (some ⟨y.heap.size,0,none⟩) 1 1,.slice (some ⟨U.heap.size,0,none⟩) 2 2] (qR s) ([y.heap.size] ++ (U.heap.size :: ([y.heap.size] ++ [y.heap.size]))):=⟨_,_,_,_,rfl,(show (⟨#[113]⟩:ByteArray).size≤maxLen from by decide),rfl,tA,aa⟩
     obtain ⟨L7,ab,a4,a0,a5,a6,a7,a8,a9⟩:=aD.VA cg am (fun b hb=>by
      simp only [List.cons_append,List.nil_append,List.mem_cons,List.not_mem_nil,or_false] at hb
      rcases hb with rfl | rfl | rfl | rfl
      ·exact ⟨bq,I.out.far ν⟩
      ·exact ⟨by omega,aD.far ν⟩
      ·exact ⟨bq,I.out.far ν⟩
      ·exact ⟨bq,I.out.far ν⟩)
     exact ⟨s,L7,ab,rfl,hs,ai br,ai br,br,by omega,aD,a4,a0,a5,by simpa only [World.size_alloc] using a6,a7,a8,a9⟩
    have q0:=ai (o:=0) b7;have aE:=ai (o:=1) b7;simp only [List.getElem?_toArray,List.getElem?_cons_zero,List.getElem?_cons_succ] at q0 aE;have bj:y.heap.size+1 < w5.heap.size:=by omega
    clear c9 cb b7 ca
    go_wp2_with fail
    rw [← ar];clear ar
    go_region_held3 (fun w'=>w'.cell? ⟨y.heap.size+1,0,none⟩=some (.string ⟨#[113]⟩)∧w'.cell? ⟨y.heap.size+1,1,none⟩=some (.slice (some ⟨y.heap.size,0,none⟩) 1 1)) (first | exact ⟨q0,aE⟩ | go_keep)
     (first
      | (go_at_call 159; refine ce.out.mono ?_; rintro e U ⟨s,L7,ab,rfl,hs,ci,av,b2,cj,ck,hY⟩; have cw:=η b2; have cl:Hid (∀ b,y.heap.size≤b→(Value.slice Av xs.length cp).ownBlock ≠ some b):=η (fun b hb=>I.out.far hb); replace q0:=ci; replace aE:=av; replace bj:=cj; have aD:=η ck; have J:=η hY; have cx:=η hs; clear ci av cj b2 ck hY hs ce)
      | (refine aT (by rfl) (.tmp 38) (.tmp 53) _ (by rfl) w.heap.size 40 i0 (.agg #[.string ⟨#[]⟩,.slice none 0 0,.slice none 0 0]) 3 64 Tryz.underlying23 hi aM aR b1 rfl (Θ 2) aV (.slice Av xs.length cp) xs.length L7 xs ab (by rfl) J.out.1 rfl (some ⟨U.heap.size+1,0,none⟩) 1 1 _ [qR s] _ (by rfl) J.out.2.2.1 rfl J.out.2.2.2.1 J.out.2.2.2.2.1 a3.out.1 a3.out.2 U w.heap.size J.out.2.2.2.2.2.1 ν J.out.2.2.2.2.2.2 ?_; intro A8 b6 w8 a1 a2 ao ac; have ap:=η (aD.out.app a1 J.out.2.1 a2 (TY cx.out)); have aL:=(ac.block (y.heap.size+1) (by simp; omega) (fun e=>cl.out _ (Nat.le_succ _) e.symm)).trans ((Below.heap_alloc _ _ _ (by simp; omega)).trans ((Below.heap_alloc _ _ _ bj).trans cw.out)); replace q0:=ai (o:=0) aL; replace aE:=ai (o:=1) aL; simp only [List.getElem?_toArray,List.getElem?_cons_zero,List.getElem?_cons_succ] at q0 aE; clear aL a1 a2 ao ac))
    all_goals
     go_wp2;go_ret;exact ⟨xs ++ [qR s],_,q1+2,rfl,by have:=HX.out; simp; omega,by have:=HX.out; omega,ap.out⟩
   ·have cI:¬ (m:Int)=2:=by omega
    by_cases h3:m=3
    ·subst h3
     have af:Below y.heap.size y (y.alloc (.cells #[.bool false,.string ⟨#[97]⟩,.bool false,.string ⟨#[98]⟩] 91)):=ζ;have cm:=E5 (ω y (.cells #[.bool false,.string ⟨#[97]⟩,.bool false,.string ⟨#[98]⟩] 91)) (by decide) (by decide);have am:fG (y.alloc (.cells #[.bool false,.string ⟨#[97]⟩,.bool false,.string ⟨#[98]⟩] 91)) [.string ⟨#[112]⟩,.slice (some ⟨y.heap.size,0,none⟩) 2 2,.slice none 0 0] pR ([y.heap.size] ++ []):=⟨_,_,_,_,rfl,(show (⟨#[112]⟩:ByteArray).size≤maxLen from by decide),rfl,cm,zu⟩;have cy:=I.out.kept.size;obtain ⟨L7,ab,a4,a0,a5,a6,a7,a8,a9⟩:=I.out.arm af am (fun b hb=>by simp at hb; omega);have J:=η (ι a4 (ι a0 (ι a5 (ι a6 (ι a7 (ι a8 a9))))));clear a4 a0 a5 a6 a7 a8 a9;simp only [World.size_alloc] at J;clear af cm am cy
     go_wp2_with (at_builtin; refine bW rfl _ _ _ rfl w.heap.size 40 i0 (.agg #[.string ⟨#[]⟩,.slice none 0 0,.slice none 0 0]) 3 64 Tryz.underlying23 hi aM aR b1 rfl (by omega) aV (.slice Av xs.length cp) xs.length _ xs _ rfl J.out.1 rfl (some ⟨y.heap.size+1,0,none⟩) 1 1 _ [pR] _ rfl J.out.2.2.1 rfl J.out.2.2.2.1 J.out.2.2.2.2.1 a3.out.1 a3.out.2 y w.heap.size J.out.2.2.2.2.2.1 ν (τ I.out.kept.size (by simp; omega)) ?_; intro A8 b6 w8 a1 a2 ao ac)
     have ap:=η (I.out.app a1 J.out.2.1 a2 TW);clear a1 a2 ao ac J;go_wp2;go_ret;exact ⟨xs ++ [pR],_,q1+1,rfl,by have:=HX.out; simp; omega,by have:=HX.out; omega,ap.out⟩
    ·have cJ:¬ (m:Int)=3:=by omega
     go_wp2;go_ret;exact ⟨xs,_,q1+1,rfl,by have:=HX.out; omega,by have:=HX.out; omega,I.out⟩
end
section
open Go.RowKit D
def D.iy (more:List A) (n:Nat) (r:Rd):Rd:=more.foldl (fun r a=>gG r a n) r
theorem D.KI (more:List A) (n:Nat) (r:Rd) (k:Nat) (h:k < more.length):iy (more.take (k+1)) n r=gG (iy (more.take k) n r) more[k] n:=by
 unfold iy;rw [ρ h,List.foldl_append];rfl
theorem D.sQ (r:Rd) (a:A) (n:Nat):(gG r a n).1=dP r.1 a:=by
 unfold gG dP
 split
 ·rfl
 ·rfl
structure D.l9 (r:Rd):Prop where
 fK:fK r.1=true
 len:r.2.length=r.1.length
theorem D.l9.put {r:Rd} (h:l9 r) (a:A) (n:Nat):l9 (gG r a n):=by
 refine ⟨by rw [sQ]; exact vM h.fK a,?_⟩;unfold gG;have J:=(oN h.fK a).2.2;have I:=h.len;by_cases y:hasB r.1 a=true
 ·rw [if_pos y]; exact I
 ·rw [if_neg y]
  show (r.2.take (pl r.1 a) ++ [n] ++ r.2.drop (pl r.1 a)).length=(dP r.1 a).length;unfold dP;rw [if_neg y];simp;omega
theorem D.KJ (r:Rd) (a:A) (n:Nat):r.1.length≤(gG r a n).1.length∧(gG r a n).1.length≤r.1.length+1:=by
 rw [sQ];refine ⟨?_,zX _ _⟩;unfold dP
 split
 ·exact ν
 ·simp
  omega
theorem D.lq {r:Rd} (h:l9 r) (n:Nat):∀ more,l9 (iy more n r)∧r.1.length≤(iy more n r).1.length∧(iy more n r).1.length≤r.1.length+more.length:=by
 intro more
 induction more generalizing r with
 | nil=>exact ⟨h,ν,ν⟩
 | cons a more ih=>
  have h1:=ih (h.put a n);have y:=KJ r a n;refine ⟨h1.1,?_,?_⟩
  ·exact τ y.1 h1.2.1
  ·have:=h1.2.2
   simp only [iy,List.foldl_cons,List.length_cons] at *;omega
def D.dK (rs:List Ru) (lv:List Nat) (level:Nat) (r:Rd) (n:Nat):Rd:=iy (fZ r.1 level (rs.zip lv)) n r
def D.zY (rs:List Ru) (lv:List Nat):Nat→Nat→Rd→Nat→Rd × Bool
 | 0,_,r,_=>(r,true)
 | k+1,0,r,_=>(r,false)
 | k+1,fuel+1,r,n=>
  if 300 < (dK rs lv (rs.length - k) r (n+1)).1.length then (dK rs lv (rs.length - k) r (n+1),false)
  else if (dK rs lv (rs.length - k) r (n+1)).1.length=r.1.length then zY rs lv k 302 (dK rs lv (rs.length - k) r (n+1)) n
  else zY rs lv (k+1) fuel (dK rs lv (rs.length - k) r (n+1)) (n+1)
 termination_by k fuel=>(k,fuel)
def D.dW (rs:List Ru) (given:List A):Rd × Bool:=zY rs (ay rs) (rs.length+1) 302 (given,List.replicate given.length 0) 0
end
section
open Go.RowKit D
attribute [local go_sem ↓] Go.wp_at_zero Go.wp_at_succ
theorem D.Ua (l i:Nat) (y:l < 16) (I:i < 4):(bits .and .i64 (l:Int) (wrap64 (2 ^ i)) == 0) = !l.testBit i:=by
 have h:∀ l:Nat,l < 16→∀ i:Nat,i < 4→(bits .and .i64 (l:Int) (wrap64 (2 ^ i)) == 0) = !l.testBit i:=by decide +kernel
 exact h l y i I
structure D.uV (fs ps:List A) (b:Bd) (bs:List Nat) (left m:Nat) (A9:Option Addr) (c9:Nat) (key:WK) (bx:List Nat) (w:World):Prop where
 lt:m < ps.length
 bit:left.testBit m=true
 row:gU w [.slice A9 (idxs fs key).length c9] (idxs fs key) bx
 sub:∀ x ∈ bx,x ∈ bs
 key_:∀ p,ps[m]? = some p→∀ f,Gr f→(aC p f b).2=true→key ∈ keysOf f
theorem D.uV.below {fs ps:List A} {b:Bd} {bs:List Nat} {left m:Nat} {I:Option Addr} {J:Nat} {y:WK} {U:List Nat} {w w':World} (h:uV fs ps b bs left m I J y U w) (hb:Below w.heap.size w w'):uV fs ps b bs left m I J y U w':=
 ⟨h.lt,h.bit,aW.below h.row hb,h.sub,h.key_⟩
theorem NK (vars:List ByteArray) (hv:jr vars) (b:Bd) (fs:List A) (rn:List Nat) (bs:List Nat) (ps:List A) (Ap:Option Addr) (cp:Nat) (bp:List Nat) (sk sb:Nat) (v2:Value) (wt:Nat→Bool) (ah:Int) (tell:Value) (left:Nat) (w:World)
  (h:kT sk sb (.slice Ap ps.length cp) v2 wt false ah tell w) (hb:gJ vars b sk 18 w) (aq:jv sb fs rn bs w) (ar:rq vars w [.slice Ap ps.length cp] ps bp) (hin:∀ p ∈ ps,∀ t ∈ p.args,t.var=true→t.name ∈ vars) (av:∀ p ∈ ps,p.args.length≤1000000) (b6:ps.length≤4) (aw:left < 16) (am:fs.length≤1000000)
  (a7:∃ j,j < ps.length∧left.testBit j=true):
  Calls Tryz.prog 231 #[.pointer (some ⟨sk,0,none⟩),.int .i64 left] w fun e w'=>∃ m A9 c9 I bx,e=.returned (.tuple #[.int .i64 (m:Nat),.slice A9 (idxs fs I).length c9])∧uV fs ps b bs left m A9 c9 I bx w'∧Below w.heap.size w w':=by
 have a8:=h.lt;have y0:=h.p1;have HX:=η (ι h (ι hb (ι aq (ι ar (ι hin (ι av a7))))));clear h hb aq ar hin av a7
 go_enter Tryz.func231,Tryz.ntmps231
 go_wp2
 go_loopw [6,7,17] (fun best list i wr=>∃ (k:Nat),k≤ps.length∧i=.int .i64 k∧Below w.heap.size w wr∧
  ((best=.int .i64 (-1)∧list=.slice none 0 0∧∀ j,j < k→left.testBit j=false)∨∃ m A9 c9 I bx,best=.int .i64 (m:Nat)∧list=.slice A9 (idxs fs I).length c9∧uV fs ps b bs left m A9 c9 I bx wr)) (fun _ _ i _=>ps.length - (intOf i).toNat)
 case atStart=>exact ⟨0,ε,rfl,ϑ,.inl ⟨rfl,rfl,fun j hj=>by omega⟩⟩
 case round=>
  obtain ⟨k,hk,rfl,J,halt⟩:=hrel;by_cases a1:k < ps.length
  ·obtain ⟨bq,oq,Ae,ce,bk,rfl,_,f0,f1,⟨vv,az,aD,ao⟩,_⟩:=wJ ((dI vars).below HX.out.2.2.2.1 J) a1
   simp only [List.cons.injEq,and_true,true_and] at az;subst az;have b7:(0:Int)≤(k:Int):=by omega
   have b2:(k:Int) < (ps.length:Int):=by omega
   have b8:(k:Int) < 4:=by omega
   have ag:=Ua left k aw (by omega);have a9:Below wr.heap.size wr (wr.alloc (.cells #[.string ps[k].name,.slice Ae ps[k].args.length ce] 168)):=ζ;have a2:=J.trans (a9.mono J.size);have U:=η a1;have aE:=η a9;have aa:=η a2;have a5:=η halt;cases htb:left.testBit k
   ·rw [htb] at ag
    have ap:=η htb;clear a9 a2 aD ao J htb hk halt;simp only [Bool.not_false] at ag;generalize ps[k].name=pn at *;generalize ps[k].args.length=pl at *;clear a1;go_wp2;go_roundw
    case rel=>
     refine ⟨k+1,U.out,by go_num,aa.out,?_⟩
     rcases a5.out with ⟨h1,h2,h3⟩ | ⟨m,A9,c9,I,bx,h1,h2,h3⟩
     ·refine .inl ⟨h1,h2,fun j hj=>?_⟩
      rcases Nat.lt_succ_iff_lt_or_eq.1 hj with h | rfl
      ·exact h3 j h
      ·exact ap.out
     ·exact .inr ⟨m,A9,c9,I,bx,h1,h2,h3.below aE.out⟩
    case measure=>have:=U.out; simp [intOf]; omega
   ·rw [htb] at ag
    have b5:sk < (wr.alloc (.cells #[.string ps[k].name,.slice Ae ps[k].args.length ce] 168)).heap.size:=κ a8 a2.size;have HC:=η (DK vars hv b sb fs rn bs ps[k] Ae ce bk sk 18 (wr.alloc (.cells #[.string ps[k].name,.slice Ae ps[k].args.length ce] 168)).drew (HX.out.2.2.1.below a2.drew) (HX.out.2.1.keep (a2.drew.block _ a8)) ((cO vars).below ao a9.drew) (HX.out.2.2.2.2.1 _ (δ a1)) (HX.out.2.2.2.2.2.1 _ (δ a1)) am);have s0:(wr.alloc (.cells #[.string ps[k].name,.slice Ae ps[k].args.length ce] 168)).cell? ⟨sk,0,none⟩=some (.pointer (some ⟨sb,0,none⟩)):=(HX.out.1.keep (a2.block _ a8)).st;have z0:(wr.alloc (.cells #[.string ps[k].name,.slice Ae ps[k].args.length ce] 168)).cell? ⟨wr.heap.size,0,none⟩=some (.string ps[k].name):=by go_simp
    have z1:(wr.alloc (.cells #[.string ps[k].name,.slice Ae ps[k].args.length ce] 168)).cell? ⟨wr.heap.size,1,none⟩=some (.slice Ae ps[k].args.length ce):=by go_simp
    have aL:Hid (∀ p,ps[k]? = some p→p=ps[k]):=η fun p hp=>by rw [Ψ a1] at hp; exact (Option.some.inj hp).symm
    have ap:=η htb;clear a9 a2 aD ao J htb hk halt;simp only [Bool.not_true] at ag;generalize ps[k]=p at *;clear a1;obtain ⟨pn,a3⟩:=p;dsimp only at *
    have aM:∀ (y:WK) (a4:List Nat) (A8:Option Addr) (c8:Nat) (w8:World),gU w8 [.slice A8 (idxs fs y).length c8] (idxs fs y) a4→(∀ x ∈ a4,x ∈ bs)→(∀ f,Gr f→(aC ⟨pn,a3⟩ f b).2=true→y ∈ keysOf f)→uV fs ps b bs left k A8 c8 y a4 w8:=
     fun _ _ _ _ _ h1 h2 h3=>⟨U.out,ap.out,h1,h2,fun p hp=>by rw [aL.out p hp]; exact h3⟩
    have aR:=η aM;clear aM aL
    rcases a5.out with ⟨rfl,rfl,_⟩ | ⟨m,A9,c9,I,bx,rfl,rfl,h3⟩
    ·clear a5
     go_wp2;generalize wr.alloc (.cells #[.string pn,.slice Ae a3.length ce] 168)=W1 at *
     go_region_law
      (first
       | (go_simp; go_at_call 272; refine HC.out.mono ?_; rintro e w2 ⟨A8,c8,y,a4,rfl,ab,ac,ae,af⟩; have a0:=η ((Below.refl W1.heap.size W1).drew.trans af); replace s0:=ξ a0.out s0; have H8:=η (aR.out _ _ _ _ _ ab ac ae); clear ab ac ae af))
     all_goals
      have a6:=η (aa.out.trans (a0.out.mono aa.out.size));have q9:=(HX.out.1.keep (a6.out.block _ a8)).io;clear s0 z0 z1 HC a0;go_wp2;go_roundw
      case rel=>exact ⟨k+1,U.out,by go_num,a6.out,.inr ⟨k,A8,c8,y,a4,rfl,rfl,H8.out⟩⟩
      case measure=>have:=U.out; simp [intOf]; omega
    ·have b9:¬ ((m:Nat):Int) < 0:=by omega
     have H3:=η h3;clear a5 h3;go_wp2;generalize wr.alloc (.cells #[.string pn,.slice Ae a3.length ce] 168)=W1 at *
     go_region_law
      (first
       | (go_simp; go_at_call 272; refine HC.out.mono ?_; rintro e w2 ⟨A8,c8,y,a4,rfl,ab,ac,ae,af⟩; have a0:=η ((Below.refl W1.heap.size W1).drew.trans af); replace s0:=ξ a0.out s0; have H8:=η (aR.out _ _ _ _ _ ab ac ae); clear ab ac ae af))
     all_goals
      have a6:=η (aa.out.trans (a0.out.mono aa.out.size));have q9:=(HX.out.1.keep (a6.out.block _ a8)).io;have H4:=η ((H3.out.below aE.out).below a0.out);have bc:(idxs fs y).length≤1000000:=τ (lW _ _) am;have bf:(idxs fs I).length≤1000000:=τ (lW _ _) am;clear s0 z0 z1 HC a0 H3;by_cases hc:(idxs fs y).length < (idxs fs I).length
      ·have b3:((idxs fs y).length:Int) < ((idxs fs I).length:Int):=by omega
       go_wp2;go_roundw
       case rel=>exact ⟨k+1,U.out,by go_num,a6.out,.inr ⟨k,A8,c8,y,a4,rfl,rfl,H8.out⟩⟩
       case measure=>have:=U.out; simp [intOf]; omega
      ·have b3:¬ ((idxs fs y).length:Int) < ((idxs fs I).length:Int):=by omega
       go_wp2;go_roundw
       case rel=>exact ⟨k+1,U.out,by go_num,a6.out,.inr ⟨m,A9,c9,I,bx,rfl,rfl,H4.out⟩⟩
       case measure=>have:=U.out; simp [intOf]; omega
  ·have he:k=ps.length:=by omega
   subst he;have b2:¬ (ps.length:Int) < (ps.length:Int):=by omega
   rcases halt with ⟨rfl,rfl,h3⟩ | ⟨m,A9,c9,I,bx,rfl,rfl,h3⟩
   ·obtain ⟨j,b4,b1⟩:=HX.out.2.2.2.2.2.2
    rw [h3 j b4] at b1;cases b1
   ·have HP:=η (ι h3 J)
    clear h3 J;go_wp2;go_ret2;exact ⟨m,A9,c9,I,rfl,⟨bx,HP.out.1⟩,HP.out.2⟩
def D.xq (fs:List A) (y:List A) (b:Bd):Bool:=y.any fun n=>decide (bU (bQ n b) ∈ fs.map bU)
theorem D.Qk (fs y:List A) (b:Bd) (k:Nat) (h:k < y.length):xq fs (y.take (k+1)) b=(xq fs (y.take k) b || decide (bU (bQ y[k] b) ∈ fs.map bU)):=by
 unfold xq;rw [ρ h,List.any_append];simp
theorem D.VN {fs y:List A} {b:Bd} {k:Nat} (h:k < y.length) (I:decide (bU (bQ y[k] b) ∈ fs.map bU)=true):xq fs y b=true:=List.any_eq_true.2 ⟨y[k],δ h,I⟩
theorem ql (vars:List ByteArray) (hv:jr vars) (b:Bd) (aE:jq vars b) (fs:List A) (rn:List Nat) (bs:List Nat) (y:List A) (An:Option Addr) (cn:Nat) (bn:List Nat) (sk sb:Nat) (v1:Value) (wt:Nat→Bool) (io:Bool) (ah:Int) (tell:Value) (w:World)
  (h:kT sk sb v1 (.slice An y.length cn) wt io ah tell w) (hb:gJ vars b sk 18 w) (ap:jv sb fs rn bs w) (aq:rq vars w [.slice An y.length cn] y bn) (hin:∀ n ∈ y,∀ t ∈ n.args,t.var=true→t.name ∈ vars) (hok:∀ n ∈ y,aX (bQ n b)=true) (b1:y.length≤1000000):
  Calls Tryz.prog 230 #[.pointer (some ⟨sk,0,none⟩)] w fun e w'=>e=.returned (.bool (xq fs y b))∧Below w.heap.size w w':=by
 have ae:=h.lt;have y0:=h.p2;have HX:=η (ι h (ι hb (ι ap (ι aq (ι hin hok)))));clear h hb ap aq hin hok
 go_enter Tryz.func230,Tryz.ntmps230
 go_wp2
 go_loopw [11] (fun i wr=>∃ (k:Nat),k≤y.length∧i=.int .i64 k∧xq fs (y.take k) b=false∧Below w.heap.size w wr) (fun i _=>y.length - (intOf i).toNat)
 case atStart=>exact ⟨0,ε,rfl,by simp [xq],ϑ⟩
 case round=>
  obtain ⟨k,hk,rfl,a3,U⟩:=hrel;by_cases a0:k < y.length
  ·obtain ⟨bq,oq,Ae,ce,bk,rfl,_,f0,f1,⟨vv,ar,av,aw⟩,_⟩:=wJ ((dI vars).below HX.out.2.2.2.1 U) a0
   simp only [List.cons.injEq,and_true,true_and] at ar;subst ar;have b2:(0:Int)≤(k:Int):=by omega
   have aL:(k:Int) < (y.length:Int):=by omega
   have af:=Qk fs y b k a0;rw [a3,Bool.false_or] at af;have aM:=η af;have aR:=η (fun hd=>VN (fs:=fs) (b:=b) a0 hd)
   have az:y[k].args.length≤1000000:=by
    have h9:=HX.out.2.2.2.2.2 _ (δ a0);unfold aX at h9;simp only [ο,decide_eq_true_eq] at h9;have:=h9.1.2;simp [bQ] at this; omega
   have ag:Below wr.heap.size wr (wr.alloc (.cells #[.string y[k].name,.slice Ae y[k].args.length ce] 168)):=ζ;have a2:=U.trans (ag.mono U.size);have a1:sk < (wr.alloc (.cells #[.string y[k].name,.slice Ae y[k].args.length ce] 168)).heap.size:=κ ae a2.size;have HF:=η (Ky vars hv b aE y[k] Ae ce bk sk 18 (wr.alloc (.cells #[.string y[k].name,.slice Ae y[k].args.length ce] 168)).drew ((HX.out.2.1.keep (a2.block _ ae)).keep rfl) av ((cO vars).below aw (ag.drew)) (HX.out.2.2.2.2.1 _ (δ a0)) az);have aa:=η (HX.out.2.2.2.2.2 _ (δ a0));have ab:=η (HX.out.2.2.1.below a2);have ac:=η a2;have s0:(wr.alloc (.cells #[.string y[k].name,.slice Ae y[k].args.length ce] 168)).cell? ⟨sk,0,none⟩=some (.pointer (some ⟨sb,0,none⟩)):=(HX.out.1.keep (a2.block _ ae)).st;have z0:(wr.alloc (.cells #[.string y[k].name,.slice Ae y[k].args.length ce] 168)).cell? ⟨wr.heap.size,0,none⟩=some (.string y[k].name):=by go_simp
   have z1:(wr.alloc (.cells #[.string y[k].name,.slice Ae y[k].args.length ce] 168)).cell? ⟨wr.heap.size,1,none⟩=some (.slice Ae y[k].args.length ce):=by go_simp
   have aD:=η a0;clear a3 U hk ag a2 av aw af az;generalize y[k]=n at *;clear a0;obtain ⟨nn,J⟩:=n;dsimp only at *;generalize hr:decide (bU (bQ ⟨nn,J⟩ b) ∈ fs.map bU)=r at *;have HR:=η hr;clear hr;cases r
   ·go_wp2
    generalize wr.alloc (.cells #[.string nn,.slice Ae J.length ce] 168)=W1 at *
    go_region_law
     (first
      | (go_simp; go_at_call 117; refine HF.out.mono ?_; rintro e w2 ⟨v9,b9,rfl,a4,a5,am⟩; have I:=η ((Below.refl W1.heap.size W1).drew.trans a4); replace s0:=ξ I.out s0; replace a1:=κ a1 I.out.size; have a6:=yx sb fs rn bs (bQ ⟨nn,J⟩ b) (.string nn) v9 b9 w2 (ab.out.below I.out) a5 aa.out; have a7:=η a6; clear a4 a5 am a6)
      | (go_simp; go_at_call 193; refine a7.out.mono ?_; rintro e w3 ⟨rfl,a8⟩; have a9:=η (I.out.trans (a8.mono I.out.size)); rw [HR.out]; clear a8))
    all_goals
     have ao:=η (ac.out.trans (a9.out.mono ac.out.size));clear s0 z0 z1 HF a7 I a9 ab aa;go_wp2;go_roundw
     case rel=>exact ⟨k+1,aD.out,by go_num,aM.out,ao.out⟩
     case measure=>have:=aD.out; simp [intOf]; omega
   ·go_wp2
    generalize wr.alloc (.cells #[.string nn,.slice Ae J.length ce] 168)=W1 at *
    go_region_law
     (first
      | (go_simp; go_at_call 117; refine HF.out.mono ?_; rintro e w2 ⟨v9,b9,rfl,a4,a5,am⟩; have I:=η ((Below.refl W1.heap.size W1).drew.trans a4); replace s0:=ξ I.out s0; replace a1:=κ a1 I.out.size; have a6:=yx sb fs rn bs (bQ ⟨nn,J⟩ b) (.string nn) v9 b9 w2 (ab.out.below I.out) a5 aa.out; have a7:=η a6; clear a4 a5 am a6)
      | (go_simp; go_at_call 193; refine a7.out.mono ?_; rintro e w3 ⟨rfl,a8⟩; have a9:=η (I.out.trans (a8.mono I.out.size)); rw [HR.out]; clear a8))
    all_goals
     have ao:=η (ac.out.trans (a9.out.mono ac.out.size));clear s0 z0 z1 HF a7 I a9 ab aa;go_wp2;go_ret;rw [aR.out (by trivial)];exact ⟨rfl,ao.out⟩
  ·have he:k=y.length:=by omega
   have aL:¬ (k:Int) < (y.length:Int):=by omega
   rw [ϕ (Nat.le_of_eq he.symm)] at a3;have HP:=η (ι a3 U);clear a3 U;go_wp2;go_ret;rw [HP.out.1];exact ⟨rfl,HP.out.2⟩
end
end Go.Proofs.YtkjinanbccloeaaGreatDoor
