/- Of the proof of FnDeltaBoth: DrawAR, Draw9. -/
import Derived.Test.YtkjinanbccloeaaGreatDoorC23
set_option linter.unusedVariables false
set_option maxHeartbeats 4000000
set_option maxRecDepth 100000
namespace Go.Proofs.YtkjinanbccloeaaGreatDoor
open Go.RowKit D
attribute [local go_sem ↓] Go.wp_at_zero Go.wp_at_succ
def D.XO:Value→Nat
 | .slice _ n _=>n
 | _=>0
theorem D.Ny {w:World}:gI w [.slice none 0 0] [] []:=⟨none,0,rfl,ν,by unfold maxLen; omega,fun _=>rfl,fun h=>absurd rfl h⟩
theorem D.CX {w:World}:jd w [.slice none 0 0] [] []:=⟨none,0,rfl,ν,by unfold maxLen; omega,fun _=>rfl,fun h=>absurd rfl h⟩
def D.zR:Ru:=⟨⟨⟨#[122]⟩,[]⟩,[]⟩
theorem D.Xt {w:World}:iD w [.string ⟨#[122]⟩,.slice none 0 0,.slice none 0 0] zR []:=⟨_,_,[],[],rfl,(show (⟨#[122]⟩:ByteArray).size≤maxLen from by decide),rfl,Ny,CX⟩
theorem D.Vy:TK zR:=⟨⟨(show Sm ⟨#[122]⟩ from by decide),by simp [zR],fun t y=>by simp [zR] at y⟩,by simp [zR],fun x I=>by simp [zR] at I⟩
def D.pR:Ru:=⟨⟨⟨#[112]⟩,[⟨false,⟨#[97]⟩⟩,⟨false,⟨#[98]⟩⟩]⟩,[]⟩
theorem D.Vz:TK pR:=⟨⟨(show Sm ⟨#[112]⟩ from by decide),by simp [pR],fun t y=>by
 simp only [pR,ύ,List.not_mem_nil,or_false] at y
 rcases y with rfl | rfl
 ·exact (show Sm ⟨#[97]⟩ from by decide)
 ·exact (show Sm ⟨#[98]⟩ from by decide)⟩,by simp [pR],fun x I=>by simp [pR] at I⟩
def D.qR (s:ByteArray):Ru:=⟨⟨⟨#[113]⟩,[⟨true,⟨#[88]⟩⟩]⟩,[⟨false,⟨⟨#[112]⟩,[⟨true,⟨#[88]⟩⟩]⟩⟩,⟨true,⟨s,[⟨true,⟨#[88]⟩⟩]⟩⟩]⟩
theorem D.VA {s:ByteArray} (J:Sm s):TK (qR s):=⟨⟨(show Sm ⟨#[113]⟩ from by decide),by simp [qR],fun t y=>by simp only [qR,ύ,List.not_mem_nil,or_false] at y; subst y; decide⟩,by simp [qR],fun x I=>by
 simp only [qR,ύ,List.not_mem_nil,or_false] at I
 rcases I with rfl | rfl
 ·exact ⟨(show Sm ⟨#[112]⟩ from by decide),by simp,fun t y=>by simp only [ύ,List.not_mem_nil,or_false] at y; subst y; decide⟩
 ·exact ⟨J,by simp,fun t y=>by simp only [ύ,List.not_mem_nil,or_false] at y; subst y; decide⟩⟩
theorem DW (g p:Nat) (w:World) (h:kP g p w) (hp:p≤400000):
  Calls Tryz.prog 99 #[.pointer (some ⟨g,0,none⟩)] w (U3 9 g p 150 w):=by
 obtain ⟨i0,hi,aR,b5,b6⟩:=info_parts Iy;have bw:=zA g p w h (by omega);have HP:=η hp;clear h hp
 go_enter Tryz.func99,Tryz.ntmps99
 go_wp2_with fail
 refine bw.mono ?_;rintro e w1 ⟨xs,v1,q1,rfl,bx,aw,hF⟩;obtain ⟨Av,cp,rfl⟩:=hF.shape;have HF:=η hF;have HX:Hid (xs.length≤5∧q1≤p+100):=η ⟨bx,aw⟩;have az:=pick_any g q1 20 _ HF.out.rdr (by have:=HP.out; omega) (by omega) (by omega);clear bw hF bx aw
 go_wp2_with fail
 refine az.mono ?_;rintro e y ⟨m,rfl,hm,bz,bA⟩;have I:=η (HF.out.call bz (aI.dL bA));have a3:Hid (xs.length+1≤maxLen∧(xs.length+1) * 64≤140737488355328):=η (by have:=HX.out; unfold maxLen; omega);clear az hm bz bA HF;by_cases h0:m=0
 ·subst h0
  have bB:=yK g (q1+1) y I.out.rdr (by have:=HP.out; have:=HX.out; omega)
  go_wp2_with fail
  refine bB.mono ?_;rintro e w3 ⟨a,v3,L3,q3,rfl,bo,bE,bp,ae,b7,bL,bg⟩;obtain ⟨A3,c3,rfl⟩:=dZ bp.own;have af:Below w3.heap.size w3 (w3.alloc (.cells #[.string ⟨#[101]⟩,.string ⟨#[112]⟩,.string ⟨#[113]⟩] 9)):=ζ;obtain ⟨b3,bh,aD⟩:=(bp.below bV af).slice;have bi:aK (w3.alloc (.cells #[.string ⟨#[101]⟩,.string ⟨#[112]⟩,.string ⟨#[113]⟩] 9)) [.string a.name,.slice A3 a.args.length c3] a b3:=⟨_,rfl,Sm.max bo,bh⟩;have bq:=η ((I.out.call ae bL).below af);have br:Hid (∀ b ∈ b3,y.heap.size≤b):=η fun b hb=>(aD b hb).resolve_right (by simp)
  have bj:g ∉ b3:=fun hg=>by have:=br.out g hg; have:=I.out.glt; have:=I.out.kept.size; omega
  have b8:Hid (AtS a∧q3≤q1+21):=η ⟨⟨bo,bE,bg⟩,by omega⟩;have bO:=CO g q3 [⟨#[101]⟩,⟨#[112]⟩,⟨#[113]⟩] 3 w3.heap.size _ (ae.below af) (ω w3 _) (Nat.ne_of_lt ae.lt) (by have:=HP.out; have:=HX.out; have:=b8.out.2; omega) rfl (by decide) (by decide) (by decide);have bR:=η (ι bi bj);clear bB bo bE bp ae b7 bL bg af bh aD bi bj
  go_wp2_with fail
  refine bO.mono ?_;rintro e w4 ⟨ys,v4,q4,rfl,cr,bX,cu,aa⟩;obtain ⟨A4,c4,rfl⟩:=aa.shape;have bk:aK w4 [.string a.name,.slice A3 a.args.length c3] a b3:=Good.kept au bR.out.1 aa.kept (fun b hb=>by simp; rintro rfl; exact bR.out.2 hb);obtain ⟨b4,bl,ag⟩:=aa.parts;have c5:=η (bq.out.call aa.rdr aa.kept);have am:iD w4 [.string a.name,.slice A3 a.args.length c3,.slice A4 ys.length c4] (⟨a,ys⟩:Ru) (b3 ++ b4):=⟨_,_,b3,b4,rfl,Sm.max b8.out.1.1,rfl,dQ bk,bl⟩;have c6:Hid (TK ⟨a,ys⟩∧q4≤q1+46):=η ⟨⟨b8.out.1,by have:ys.length≤3:=bX; show ys.length≤8; omega,aa.small⟩,by have:=b8.out.2; omega⟩
  obtain ⟨L7,ab,a4,a0,a5,a6,a7,a8,a9⟩:=c5.out.Xh ϑ am (fun b hb=>by
   rcases μ.1 hb with hb | hb
   ·exact ⟨τ I.out.kept.size (br.out b hb),I.out.far (br.out b hb)⟩
   ·exact ⟨τ bq.out.kept.size (ag b hb),bq.out.far (ag b hb)⟩)
  have J:=η (ι a4 (ι a0 (ι a5 (ι a6 (ι a7 (ι a8 a9))))));clear a4 a0 a5 a6 a7 a8 a9;clear bO cr bX cu aa bk bl ag am
  go_wp2_with (at_builtin; refine dG rfl _ _ _ rfl w.heap.size 40 i0 (.agg #[.string ⟨#[]⟩,.slice none 0 0,.slice none 0 0]) 3 64 Tryz.underlying23 hi aR b5 b6 rfl (by omega) bI (.slice Av xs.length cp) xs.length _ xs _ rfl J.out.1 rfl (some ⟨w4.heap.size,0,none⟩) 1 1 _ [⟨a,ys⟩] _ rfl J.out.2.2.1 rfl J.out.2.2.2.1 J.out.2.2.2.2.1 a3.out.1 a3.out.2 w4 w.heap.size J.out.2.2.2.2.2.1 ν J.out.2.2.2.2.2.2 ?_; intro A8 b9 w8 a1 a2 ao ac)
  have aq:=η (c5.out.app a1 J.out.2.1 a2 c6.out.1);clear a1 a2 ao ac J;go_wp2;go_ret;exact ⟨xs ++ [⟨a,ys⟩],_,q4,rfl,by have:=HX.out; simp; omega,by have:=HX.out; have:=c6.out.2; omega,aq.out⟩
 ·have cD:¬ (m:Int)=0:=by omega
  by_cases h1:m=1
  ·subst h1
   have c7:Hid (∃ (ys:List Ru) (A':Option Addr) (c' q:Nat),Value.slice Av xs.length cp=.slice A' ys.length c'∧ys.length≤9∧q≤p+102+ys.length∧gY g q w ys (.slice A' ys.length c') y):=η ⟨xs,Av,cp,_,rfl,by have:=HX.out; omega,by have:=HX.out; omega,I.out⟩;clear a3
   go_wp2_with fail
   go_loopw [3] (fun v wr=>∃ (ys:List Ru) (A':Option Addr) (c' q:Nat),v=.slice A' ys.length c'∧ys.length≤9∧q≤p+102+ys.length∧gY g q w ys (.slice A' ys.length c') wr) (fun v _=>10 - XO v)
   case atStart=>exact c7.out
   case round=>
    clear I c7 HX;obtain ⟨ys,A',c',q,rfl,c8,hq,hI⟩:=hrel;have HI:=η hI;have ar:Hid (ys.length≤9∧q≤p+102+ys.length):=η ⟨c8,hq⟩;have az:=pick_any g q 2 _ HI.out.rdr (by have:=HP.out; have:=ar.out; omega) (by omega) (by omega);clear hI hq c8
    go_wp2_with fail
    refine az.mono ?_;rintro e w3 ⟨j2,rfl,cv,ae,c9⟩;have bt:=η (HI.out.call ae (aI.dL c9));have cE:IntKind.i64.wrap (8+(j2:Int))=8+(j2:Int):=by simp only [IntKind.wrap,IntKind.bits,IntKind.signed]; simp; omega
    have HJ:=η cv;clear az ae c9 HI;by_cases ca:ys.length < 8+j2
    ·have cb:(ys.length:Int) < 8+(j2:Int):=by omega
     have cw:=η ca;have a3:Hid (ys.length+1≤maxLen∧(ys.length+1) * 64≤140737488355328):=η (by have:=ar.out; unfold maxLen; omega);clear ca;obtain ⟨L7,ab,a4,a0,a5,a6,a7,a8,a9⟩:=bt.out.Xh ϑ Xt (fun b hb=>by simp at hb);have J:=η (ι a4 (ι a0 (ι a5 (ι a6 (ι a7 (ι a8 a9))))));clear a4 a0 a5 a6 a7 a8 a9
     go_wp2_with (at_builtin; refine dG rfl _ _ _ rfl w.heap.size 40 i0 (.agg #[.string ⟨#[]⟩,.slice none 0 0,.slice none 0 0]) 3 64 Tryz.underlying23 hi aR b5 b6 rfl (by omega) bI (.slice A' ys.length c') ys.length _ ys _ rfl J.out.1 rfl (some ⟨w3.heap.size,0,none⟩) 1 1 _ [zR] _ rfl J.out.2.2.1 rfl J.out.2.2.2.1 J.out.2.2.2.2.1 a3.out.1 a3.out.2 w3 w.heap.size J.out.2.2.2.2.2.1 ν J.out.2.2.2.2.2.2 ?_; intro A8 b9 w8 a1 a2 ao ac)
     have aq:=η (bt.out.app a1 J.out.2.1 a2 Vy);clear a1 a2 ao ac J;go_wp2;go_roundw
     case rel=>exact ⟨ys ++ [zR],A8,b9,q+1,by rw [χ]; rfl,by have:=cw.out; have:=HJ.out; simp; omega,by have:=ar.out; simp; omega,by rw [χ]; exact aq.out⟩
     case measure=>have:=ar.out; simp [XO]; omega
    ·have cb:¬ (ys.length:Int) < 8+(j2:Int):=by omega
     go_wp2;go_ret;exact ⟨ys,_,q+1,rfl,ar.out.1,by have:=ar.out; omega,bt.out⟩
  ·have cG:¬ (m:Int)=1:=by omega
   by_cases h2:m=2
   ·subst h2
    obtain ⟨w5,av⟩:∃ w5,w5=(y.alloc (.cells #[.bool true,.string ⟨#[88]⟩] 91)).alloc (.cells #[.string ⟨#[113]⟩,.slice (some ⟨y.heap.size,0,none⟩) 1 1] 33):=⟨_,rfl⟩;have cc:Below y.heap.size y w5:=av ▸ (ζ).alloc (by simp) _;have cd:w5.heap.size=y.heap.size+2:=by rw [av]; simp
    have ce:w5.heap[y.heap.size]? = some (.cells #[.bool true,.string ⟨#[88]⟩] 91 (0,0)):=by rw [av]; exact (kY y _ _).1
    have bc:w5.heap[y.heap.size+1]? = some (.cells #[.string ⟨#[113]⟩,.slice (some ⟨y.heap.size,0,none⟩) 1 1] 33 (0,0)):=by rw [av]; exact (kY y _ _).2
    have cg:=η (I.out.below cc);have ci:=η (ι ce bc);have cI:=η cd
    have cj:Hid (Calls Tryz.prog 159 #[.pointer (some ⟨g,0,none⟩),.slice (some ⟨w5.heap.size,0,none⟩) 3 3] (w5.alloc (.cells #[.string ⟨#[113]⟩,.string ⟨#[114]⟩,.string ⟨#[115]⟩] 9)).drew (fun e U=>∃ (s:ByteArray) (L7:List Value) (ab:List Nat),e=.returned (.string s)∧Sm s∧U.cell? ⟨y.heap.size+1,0,none⟩=some (.string ⟨#[113]⟩)∧U.cell? ⟨y.heap.size+1,1,none⟩=some (.slice (some ⟨y.heap.size,0,none⟩) 1 1)∧U.heap[y.heap.size+1]? = some (.cells #[.string ⟨#[113]⟩,.slice (some ⟨y.heap.size,0,none⟩) 1 1] 33 (0,0))∧y.heap.size+1 < U.heap.size∧gY g (q1+1+1) w xs (.slice Av xs.length cp) U∧
      bK 3 iD w.heap.size 40 ((U.alloc (.cells #[.bool false,.string ⟨#[112]⟩,.slice (some ⟨y.heap.size,0,none⟩) 1 1,.bool true,.string s,.slice (some ⟨y.heap.size,0,none⟩) 1 1] 42)).alloc (.cells #[.string ⟨#[113]⟩,.slice (some ⟨y.heap.size,0,none⟩) 1 1,.slice (some ⟨U.heap.size,0,none⟩) 2 2] 40)) (.slice Av xs.length cp) L7 xs ab∧(∀ b ∈ ab ++ ([y.heap.size] ++ (U.heap.size :: ([y.heap.size] ++ [y.heap.size]))),w.heap.size≤b)∧aW 3 iD ((U.alloc (.cells #[.bool false,.string ⟨#[112]⟩,.slice (some ⟨y.heap.size,0,none⟩) 1 1,.bool true,.string s,.slice (some ⟨y.heap.size,0,none⟩) 1 1] 42)).alloc (.cells #[.string ⟨#[113]⟩,.slice (some ⟨y.heap.size,0,none⟩) 1 1,.slice (some ⟨U.heap.size,0,none⟩) 2 2] 40)) [.string ⟨#[113]⟩,.slice (some ⟨y.heap.size,0,none⟩) 1 1,.slice (some ⟨U.heap.size,0,none⟩) 2 2] [qR s] ([y.heap.size] ++ (U.heap.size :: ([y.heap.size] ++ [y.heap.size])))∧
      Lies ((U.alloc (.cells #[.bool false,.string ⟨#[112]⟩,.slice (some ⟨y.heap.size,0,none⟩) 1 1,.bool true,.string s,.slice (some ⟨y.heap.size,0,none⟩) 1 1] 42)).alloc (.cells #[.string ⟨#[113]⟩,.slice (some ⟨y.heap.size,0,none⟩) 1 1,.slice (some ⟨U.heap.size,0,none⟩) 2 2] 40)) (some ⟨U.heap.size+1,0,none⟩) [.string ⟨#[113]⟩,.slice (some ⟨y.heap.size,0,none⟩) 1 1,.slice (some ⟨U.heap.size,0,none⟩) 2 2]∧(∀ b ∈ ([y.heap.size] ++ (U.heap.size :: ([y.heap.size] ++ [y.heap.size]))),(Value.slice Av xs.length cp).ownBlock ≠ some b)∧Below w.heap.size U ((U.alloc (.cells #[.bool false,.string ⟨#[112]⟩,.slice (some ⟨y.heap.size,0,none⟩) 1 1,.bool true,.string s,.slice (some ⟨y.heap.size,0,none⟩) 1 1] 42)).alloc (.cells #[.string ⟨#[113]⟩,.slice (some ⟨y.heap.size,0,none⟩) 1 1,.slice (some ⟨U.heap.size,0,none⟩) 2 2] 40))∧w.heap.size≤((U.alloc (.cells #[.bool false,.string ⟨#[112]⟩,.slice (some ⟨y.heap.size,0,none⟩) 1 1,.bool true,.string s,.slice (some ⟨y.heap.size,0,none⟩) 1 1] 42)).alloc (.cells #[.string ⟨#[113]⟩,.slice (some ⟨y.heap.size,0,none⟩) 1 1,.slice (some ⟨U.heap.size,0,none⟩) 2 2] 40)).heap.size)):=by
     refine η ((rV g (q1+1) [⟨#[113]⟩,⟨#[114]⟩,⟨#[115]⟩] 3 w5.drew cg.out.rdr (by have:=HP.out; have:=HX.out; omega) rfl (by decide) (by decide) (by decide)).mono ?_);rintro e U ⟨s,rfl,hs,cx,bf⟩;have cJ:=I.out.glt;have bu:w.heap.size≤y.heap.size:=I.out.kept.size;have cy:=bf.blk ci.out.1 (by simp; omega);have bv:=bf.blk ci.out.2 (by simp; omega);have aE:=cg.out.call cx ((aI.refl [g] w5).drew.trans bf);have cK:w5.heap.size≤U.heap.size:=bf.size;have ck:Below U.heap.size U (U.alloc (.cells #[.bool false,.string ⟨#[112]⟩,.slice (some ⟨y.heap.size,0,none⟩) 1 1,.bool true,.string s,.slice (some ⟨y.heap.size,0,none⟩) 1 1] 42)):=ζ;have tA:=aT.below (vU cy (by decide)) ck
     have aa:=AP (ω U (.cells #[.bool false,.string ⟨#[112]⟩,.slice (some ⟨y.heap.size,0,none⟩) 1 1,.bool true,.string s,.slice (some ⟨y.heap.size,0,none⟩) 1 1] 42)) (show aK _ [.string ⟨#[112]⟩,_] ⟨⟨#[112]⟩,[⟨true,⟨#[88]⟩⟩]⟩ _ from ⟨_,rfl,(show (⟨#[112]⟩:ByteArray).size≤maxLen from by decide),tA⟩) (show aK _ [.string s,_] ⟨s,[⟨true,⟨#[88]⟩⟩]⟩ _ from ⟨_,rfl,Sm.max hs,tA⟩);have am:iD (U.alloc (.cells #[.bool false,.string ⟨#[112]⟩,.slice (some ⟨y.heap.size,0,none⟩) 1 1,.bool true,.string s,.slice (some ⟨y.heap.size,0,none⟩) 1 1] 42)) [.string ⟨#[113]⟩,.slice (some ⟨y.heap.size,0,none⟩) 1 1,.slice (some ⟨U.heap.size,0,none⟩) 2 2] (qR s) ([y.heap.size] ++ (U.heap.size :: ([y.heap.size] ++ [y.heap.size]))):=⟨_,_,_,_,rfl,(show (⟨#[113]⟩:ByteArray).size≤maxLen from by decide),rfl,tA,aa⟩
     obtain ⟨L7,ab,a4,a0,a5,a6,a7,a8,a9⟩:=aE.Xh ck am (fun b hb=>by
      simp only [List.cons_append,List.nil_append,ύ,List.not_mem_nil,or_false] at hb
      rcases hb with rfl | rfl | rfl | rfl
      ·exact ⟨bu,I.out.far ν⟩
      ·exact ⟨by omega,aE.far ν⟩
      ·exact ⟨bu,I.out.far ν⟩
      ·exact ⟨bu,I.out.far ν⟩)
     exact ⟨s,L7,ab,rfl,hs,ai bv,ai bv,bv,by omega,aE,a4,a0,a5,by simpa only [World.size_alloc] using a6,a7,a8,a9⟩
    have q0:=ai (o:=0) bc;have aL:=ai (o:=1) bc;simp only [List.getElem?_toArray,List.getElem?_cons_zero,List.getElem?_cons_succ] at q0 aL;have bn:y.heap.size+1 < w5.heap.size:=by omega
    clear cc ce bc cd
    go_wp2_with fail
    rw [← av];clear av
    go_region_held3 (fun w'=>w'.cell? ⟨y.heap.size+1,0,none⟩=some (.string ⟨#[113]⟩)∧w'.cell? ⟨y.heap.size+1,1,none⟩=some (.slice (some ⟨y.heap.size,0,none⟩) 1 1)) (first | exact ⟨q0,aL⟩ | go_keep)
     (first
      | (go_at_call 159; refine cj.out.mono ?_; rintro e U ⟨s,L7,ab,rfl,hs,cl,aw,b7,cm,cn,hY⟩; have cz:=η b7; have co:Hid (∀ b,y.heap.size≤b→(Value.slice Av xs.length cp).ownBlock ≠ some b):=η (fun b hb=>I.out.far hb); replace q0:=cl; replace aL:=aw; replace bn:=cm; have aE:=η cn; have J:=η hY; have cA:=η hs; clear cl aw cm b7 cn hY hs cj)
      | (refine aY (by rfl) (.tmp 38) (.tmp 53) _ (by rfl) w.heap.size 40 i0 (.agg #[.string ⟨#[]⟩,.slice none 0 0,.slice none 0 0]) 3 64 Tryz.underlying23 hi aR b5 b6 rfl (Θ 2) bI (.slice Av xs.length cp) xs.length L7 xs ab (by rfl) J.out.1 rfl (some ⟨U.heap.size+1,0,none⟩) 1 1 _ [qR s] _ (by rfl) J.out.2.2.1 rfl J.out.2.2.2.1 J.out.2.2.2.2.1 a3.out.1 a3.out.2 U w.heap.size J.out.2.2.2.2.2.1 ν J.out.2.2.2.2.2.2 ?_; intro A8 b9 w8 a1 a2 ao ac; have aq:=η (aE.out.app a1 J.out.2.1 a2 (VA cA.out)); have aM:=(ac.block (y.heap.size+1) (by simp; omega) (fun e=>co.out _ (Nat.le_succ _) e.symm)).trans ((Below.heap_alloc _ _ _ (by simp; omega)).trans ((Below.heap_alloc _ _ _ bn).trans cz.out)); replace q0:=ai (o:=0) aM; replace aL:=ai (o:=1) aM; simp only [List.getElem?_toArray,List.getElem?_cons_zero,List.getElem?_cons_succ] at q0 aL; clear aM a1 a2 ao ac))
    all_goals
     go_wp2;go_ret;exact ⟨xs ++ [qR s],_,q1+2,rfl,by have:=HX.out; simp; omega,by have:=HX.out; omega,aq.out⟩
   ·have cL:¬ (m:Int)=2:=by omega
    by_cases h3:m=3
    ·subst h3
     have af:Below y.heap.size y (y.alloc (.cells #[.bool false,.string ⟨#[97]⟩,.bool false,.string ⟨#[98]⟩] 91)):=ζ;have cq:=Hq (ω y (.cells #[.bool false,.string ⟨#[97]⟩,.bool false,.string ⟨#[98]⟩] 91)) (by decide) (by decide);have am:iD (y.alloc (.cells #[.bool false,.string ⟨#[97]⟩,.bool false,.string ⟨#[98]⟩] 91)) [.string ⟨#[112]⟩,.slice (some ⟨y.heap.size,0,none⟩) 2 2,.slice none 0 0] pR ([y.heap.size] ++ []):=⟨_,_,_,_,rfl,(show (⟨#[112]⟩:ByteArray).size≤maxLen from by decide),rfl,cq,CX⟩;have cB:=I.out.kept.size;obtain ⟨L7,ab,a4,a0,a5,a6,a7,a8,a9⟩:=I.out.arm af am (fun b hb=>by simp at hb; omega);have J:=η (ι a4 (ι a0 (ι a5 (ι a6 (ι a7 (ι a8 a9))))));clear a4 a0 a5 a6 a7 a8 a9;simp only [World.size_alloc] at J;clear af cq am cB
     go_wp2_with (at_builtin; refine dG rfl _ _ _ rfl w.heap.size 40 i0 (.agg #[.string ⟨#[]⟩,.slice none 0 0,.slice none 0 0]) 3 64 Tryz.underlying23 hi aR b5 b6 rfl (by omega) bI (.slice Av xs.length cp) xs.length _ xs _ rfl J.out.1 rfl (some ⟨y.heap.size+1,0,none⟩) 1 1 _ [pR] _ rfl J.out.2.2.1 rfl J.out.2.2.2.1 J.out.2.2.2.2.1 a3.out.1 a3.out.2 y w.heap.size J.out.2.2.2.2.2.1 ν (τ I.out.kept.size (by simp; omega)) ?_; intro A8 b9 w8 a1 a2 ao ac)
     have aq:=η (I.out.app a1 J.out.2.1 a2 Vz);clear a1 a2 ao ac J;go_wp2;go_ret;exact ⟨xs ++ [pR],_,q1+1,rfl,by have:=HX.out; simp; omega,by have:=HX.out; omega,aq.out⟩
    ·have cP:¬ (m:Int)=3:=by omega
     go_wp2;go_ret;exact ⟨xs,_,q1+1,rfl,by have:=HX.out; omega,by have:=HX.out; omega,I.out⟩
theorem D.iw {w:World} {n0:Nat} {A B:Option Addr} {l c I J:Nat} {t:TypeId} (h:w.heap[n0]? = some (.cells #[.slice A l c,.slice B I J] t (0,0))):Ri w n0:=fun o u y=>by
 rw [ai h] at y
 match o with
 | 0=>simp at y; subst y; exact ⟨fun s=>by simp,fun b=>by simp⟩
 | 1=>simp at y; subst y; exact ⟨fun s=>by simp,fun b=>by simp⟩
 | o+2=>simp at y
theorem D.eu {w:World} {n0:Nat} {o:Nat} {u v:Value} {xs:List A} {bs:List Nat} (h:ay w [v] xs bs) (hn:n0 ∉ bs):ay (w.setCell ⟨n0,o,none⟩ u) [v] xs bs:=
 ak.keep h fun b hb=>π _ _ _ _ (by intro e; have y:b=n0:=e; exact hn (y ▸ hb))
def YK (g p q:Nat) (w:World) (e:Ending) (w':World):Prop:=
 ∃ (c:Ch) (A1 A2:Option Addr) (c1 c2:Nat) (L:List Value) (b1 b2:List Nat) (y:Nat),e=.returned (.agg #[.slice A1 c.comes.length c1,.slice A2 c.goes.length c2])∧ay w' [.slice A1 c.comes.length c1] c.comes b1∧
  bK 2 aK w.heap.size 33 w' (.slice A2 c.goes.length c2) L c.goes b2∧(∀ b ∈ b1,(Value.slice A2 c.goes.length c2).ownBlock ≠ some b)∧(c.comes.length≤50∧c.goes.length≤5∧(∀ a ∈ c.comes,a.args.length≤4)∧∀ a ∈ c.goes,a.args.length≤4)∧
  kP g y w'∧y≤p+q∧aI [g] w w'
theorem GH (g p:Nat) (w:World) (h:kP g p w) (hp:p≤600000):
  Calls Tryz.prog 138 #[.pointer (some ⟨g,0,none⟩)] w (YK g p 80 w):=by
 have hA:Below w.heap.size w (w.alloc (.cells #[.slice none 0 0,.slice none 0 0] 54)):=ζ;have I:=η (ω w (.cells #[.slice none 0 0,.slice none 0 0] 54));have HL:=η h.lt;have k1:=oN g p 5 _ (h.below hA) (by omega) (by omega) (by omega);have HA:=η hA;have HP:=η hp;clear h hA hp
 go_enter Tryz.func138,Tryz.ntmps138
 go_wp2_with fail
 refine k1.mono ?_;rintro e w1 ⟨xs,v1,p1,rfl,am,a1,a7,ao,y⟩;obtain ⟨A1,c1,rfl⟩:=y.shape;obtain ⟨b1,a2,a9⟩:=y.atoms;have aq:Hid (∀ n0,n0=w.heap.size→n0 ∉ [g]):=η (fun n0 e=>by have:=HL.out; simp; omega);replace I:=η (y.kept.blk I.out (aq.out _ rfl));have ar:=η ((aI.of_below HA.out).trans y.kept);have b6:=η y.rdr;have a0:=η a2;have aL:=η (dB y.rdr.Gm a2);have a6:=η (ι am (ι a1 (ι a7 ao)));have k2:=oN g p1 5 w1 y.rdr (by have:=HP.out; omega) (by omega) (by omega);clear k1 y a2 a9 am a1 a7 ao
 go_wp2_with fail
 refine k2.mono ?_;rintro e w2 ⟨ys,v2,p2,rfl,aM,a3,a4,av,J⟩;obtain ⟨A2,c2,rfl⟩:=J.shape;obtain ⟨b2,a8,aa⟩:=J.atoms;replace I:=η (J.kept.blk I.out (aq.out _ rfl));replace a0:=η (Good.kept ak a0.out J.kept (fun b hb=>by simp; intro e; exact aL.out (e ▸ hb)));have aw:=η (ar.out.trans J.kept);have aR:=η J.rdr;have ab:Hid (ys.length≤5∧(∀ a ∈ ys,a.args.length≤3)∧p2≤p1+40):=η ⟨a3,a4,av⟩;have k3:=Fv ys xs _ _ b2 b1 w2 a8 a0.out a6.out.1 (by omega) (fun a ha=>by have:=a4 a ha; omega);clear k2 J a8 aa aM a3 a4 av
 go_wp2_with fail
 refine k3.mono ?_;rintro e w3 ⟨a5,v3,L3,b3,rfl,U,ac⟩;obtain ⟨A3,c3,rfl⟩:=dZ U.own;replace I:=η ((a5.block _ (ψ I.out)).trans I.out);have b4:=η (ak.lt a0.out);have b7:=η ar.out.size;have az:=η aw.out.size;have ae:w.heap.size ∉ b1:=dB (iw (I.out)) (ak.below a0.out a5);have af:w.heap.size ∉ b3:=uU (iw (I.out)) U.row;have a1:=eu (o:=0) (u:=.slice A1 xs.length c1) (ak.below a0.out a5) ae;have a3:=eu (o:=1) (u:=.slice A3 (bP ys xs).length c3) a1 ae;have z1:=pG (u:=.slice A1 xs.length c1) I.out;have aD:=U.lX (o:=0) (u:=.slice A1 xs.length c1) au (gQ U.own I.out (by decide)) af;have aE:=aD.lX (o:=1) (u:=.slice A3 (bP ys xs).length c3) au (gQ U.own I.out (by decide)) af;have ag:Below w.heap.size w3 ((w3.setCell ⟨w.heap.size,0,none⟩ (.slice A1 xs.length c1)).setCell ⟨w.heap.size,1,none⟩ (.slice A3 (bP ys xs).length c3)):=((Below.refl w.heap.size w3).setCell (p:=⟨w.heap.size,0,none⟩) ν _).setCell (p:=⟨w.heap.size,1,none⟩) ν _
 have HD:Hid (YK g p 80 w (.returned (.agg #[.slice A1 xs.length c1,.slice A3 (bP ys xs).length c3])) ((w3.setCell ⟨w.heap.size,0,none⟩ (.slice A1 xs.length c1)).setCell ⟨w.heap.size,1,none⟩ (.slice A3 (bP ys xs).length c3))):=η
  ⟨⟨xs,bP ys xs⟩,A1,A3,c1,c3,L3,b1,b3,p2,rfl,a3,aE.mono az.out,fun b hb=>aS U.own (b4.out b hb),⟨by have:=a6.out.2.1; dsimp only; omega,by have:=ab.out.1; have h9:(bP ys xs).length≤ys.length:=List.length_filter_le _ _; dsimp only; omega,fun a ha=>by have:=a6.out.2.2.1 a ha; omega,fun a ha=>by have:=ab.out.2.1 a (pq ha); omega⟩,
   ((aR.out.below a5).fE ag HL.out),by have:=a6.out.2.2.2; have:=ab.out.2.2; omega,(aw.out.fE a5 az.out).fE ag ν⟩
 have z0:w3.cell? ⟨w.heap.size,0,none⟩=some (.slice none 0 0):=ai I.out;have b5:w3.cell? ⟨w.heap.size,1,none⟩=some (.slice none 0 0):=ai I.out;have f0:w3.frozen? ⟨w.heap.size,0,none⟩=false:=ax I.out;have f1:w3.frozen? ⟨w.heap.size,1,none⟩=false:=ax I.out;clear k3 U ac a1 a3 aD aE ae af z1 ag;go_wp2;refine bodyPost_ret (v:=.agg #[.slice A1 xs.length c1,.slice A3 (bP ys xs).length c3]) (by simp [results,Tryz.results138,go_sem,z0,b5]) rfl HD.out
structure tK (g p:Nat) (w:World) (n0 n1:Nat) (c:Ch) (A1 A2:Option Addr) (c1 c2:Nat) (L:List Value) (b1 b2:List Nat) (wr:World):Prop where
 r0:wr.heap[n0]? = some (.cells #[.slice none 0 0,.slice none 0 0] 54 (0,0))
 r1:wr.heap[n1]? = some (.cells #[.slice A1 c.comes.length c1,.slice A2 c.goes.length c2] 54 (0,0))
 h0:w.heap.size≤n0
 h1:w.heap.size≤n1
 ne:n0 ≠ n1
 at1:ay wr [.slice A1 c.comes.length c1] c.comes b1
 coll:bK 2 aK w.heap.size 33 wr (.slice A2 c.goes.length c2) L c.goes b2
 dif:∀ b ∈ b1,(Value.slice A2 c.goes.length c2).ownBlock ≠ some b
 rdr:kP g p wr
 kept:aI [g] w wr
 glt:g < w.heap.size
structure GI (g p:Nat) (w:World) (n0 n1:Nat) (c:Ch) (A1 A2:Option Addr) (c1 c2:Nat) (b1 b2:List Nat) (wr:World):Prop where
 r0:wr.heap[n0]? = some (.cells #[.slice none 0 0,.slice none 0 0] 54 (0,0))
 r1:wr.heap[n1]? = some (.cells #[.slice A1 c.comes.length c1,.slice A2 c.goes.length c2] 54 (0,0))
 h0:w.heap.size≤n0
 h1:w.heap.size≤n1
 ne:n0 ≠ n1
 at1:ay wr [.slice A1 c.comes.length c1] c.comes b1
 at2:ay wr [.slice A2 c.goes.length c2] c.goes b2
 rdr:kP g p wr
 kept:aI [g] w wr
 glt:g < w.heap.size
def VB (g p q:Nat) (w:World) (e:Ending) (w':World):Prop:=
 ∃ (c:Ch) (A1 A2:Option Addr) (c1 c2:Nat) (b1 b2:List Nat) (y:Nat),e=.returned (.agg #[.slice A1 c.comes.length c1,.slice A2 c.goes.length c2])∧ay w' [.slice A1 c.comes.length c1] c.comes b1∧ay w' [.slice A2 c.goes.length c2] c.goes b2∧
  (c.comes.length≤50∧c.goes.length≤6∧(∀ a ∈ c.comes,a.args.length≤4)∧∀ a ∈ c.goes,a.args.length≤4)∧kP g y w'∧y≤p+q∧aI [g] w w'
section
variable {g p:Nat} {w:World} {n0 n1:Nat} {c:Ch} {A1 A2:Option Addr} {c1 c2:Nat} {L:List Value} {b1 b2:List Nat} {wr:World}
theorem tK.call {p2:Nat} {y:World} (h:tK g p w n0 n1 c A1 A2 c1 c2 L b1 b2 wr) (J:kP g p2 y) (hK:aI [g] wr y):tK g p2 w n0 n1 c A1 A2 c1 c2 L b1 b2 y:=by
 have I:=h.glt; have h0:=h.h0; have h1:=h.h1
 have ha:=dB h.rdr.Gm h.at1;exact ⟨hK.blk h.r0 (by simp; omega),hK.blk h.r1 (by simp; omega),h0,h1,h.ne,Good.kept ak h.at1 hK (fun b hb=>by simp; intro e; exact ha (e ▸ hb)),h.coll.KA au hK I (uU h.rdr.Gm h.coll.row),h.dif,J,h.kept.trans hK,I⟩
theorem tK.drew (h:tK g p w n0 n1 c A1 A2 c1 c2 L b1 b2 wr):tK g p w n0 n1 c A1 A2 c1 c2 L b1 b2 wr.drew:=
 ⟨h.r0,h.r1,h.h0,h.h1,h.ne,ak.keep h.at1 fun _ _=>rfl,⟨h.coll.own,h.coll.row.keep au fun _ _=>rfl,h.coll.far⟩,h.dif,h.rdr.drew,h.kept.drew,h.glt⟩
theorem tK.alloc (h:tK g p w n0 n1 c A1 A2 c1 c2 L b1 b2 wr) (o:Obj):tK g p w n0 n1 c A1 A2 c1 c2 L b1 b2 (wr.alloc o):=by
 have y:Below wr.heap.size wr (wr.alloc o):=ζ;exact ⟨(y.block n0 (ψ h.r0)).trans h.r0,(y.block n1 (ψ h.r1)).trans h.r1,h.h0,h.h1,h.ne,ak.below h.at1 y,h.coll.below au y,h.dif,h.rdr.below y,h.kept.fE y h.kept.size,h.glt⟩
theorem tK.YZ (h:tK g p w n0 n1 c A1 A2 c1 c2 L b1 b2 wr):∃ y,GI g p w n0 n1 c A1 A2 c1 c2 b1 y wr:=by
 obtain ⟨y,I,_⟩:=h.coll.slice;exact ⟨y,h.r0,h.r1,h.h0,h.h1,h.ne,h.at1,I,h.rdr,h.kept,h.glt⟩
theorem tK.cells (h:tK g p w n0 n1 c A1 A2 c1 c2 L b1 b2 wr):wr.cell? ⟨n1,0,none⟩=some (.slice A1 c.comes.length c1)∧wr.cell? ⟨n1,1,none⟩=some (.slice A2 c.goes.length c2)∧wr.frozen? ⟨n1,1,none⟩=false:=⟨ai h.r1,ai h.r1,ax h.r1⟩
theorem tK.lit {a:A} {y:Option Addr} {I:Nat} {J:List Nat} (h:tK g p w n0 n1 c A1 A2 c1 c2 L b1 b2 wr) (ha:aK wr [.string a.name,.slice y a.args.length I] a J) (hb:∀ b ∈ J,(Value.slice A2 c.goes.length c2).ownBlock ≠ some b):
  bK 2 aK w.heap.size 33 (wr.alloc (.cells #[.string a.name,.slice y a.args.length I] 33)) (.slice A2 c.goes.length c2) L c.goes b2∧aW 2 aK (wr.alloc (.cells #[.string a.name,.slice y a.args.length I] 33)) [.string a.name,.slice y a.args.length I] [a] J∧
   Lies (wr.alloc (.cells #[.string a.name,.slice y a.args.length I] 33)) (some ⟨wr.heap.size,0,none⟩) [.string a.name,.slice y a.args.length I]∧Below w.heap.size wr (wr.alloc (.cells #[.string a.name,.slice y a.args.length I] 33))∧w.heap.size≤(wr.alloc (.cells #[.string a.name,.slice y a.args.length I] 33)).heap.size:=by
 have U:=h.alloc (.cells #[.string a.name,.slice y a.args.length I] 33);have hA:Below wr.heap.size wr (wr.alloc (.cells #[.string a.name,.slice y a.args.length I] 33)):=ζ;exact ⟨U.coll,aW.dP fJ (au.below ha hA),aV (ω wr _),ϑ.alloc h.kept.size _,U.kept.size⟩
theorem tK.app {J:World} {o:Obj} {A3:Option Addr} {k3 c3:Nat} {L3:List Value} {U:List A} {b3:List Nat} (h:tK g p w n0 n1 c A1 A2 c1 c2 L b1 b2 wr) (hC:bK 2 aK w.heap.size 33 J (.slice A3 k3 c3) L3 U b3) (hk:k3=U.length) (hB:Below w.heap.size wr J) (hG:(wr.alloc o).grownBy J (Value.slice A2 c.goes.length c2).ownBlock):
  J.cell? ⟨n1,0,none⟩=some (.slice A1 c.comes.length c1)∧J.cell? ⟨n1,1,none⟩=some (.slice A2 c.goes.length c2)∧J.frozen? ⟨n1,1,none⟩=false∧∃ b4,GI g p w n0 n1 ⟨c.comes,U⟩ A1 A3 c1 c3 b1 b4 (J.setCell ⟨n1,1,none⟩ (.slice A3 k3 c3)):=by
 subst hk;have I:=h.alloc o;have b0:=(hG.block n0 (ψ I.r0) (gQ I.coll.own I.r0 (by decide)).symm).trans I.r0;have y:=(hG.block n1 (ψ I.r1) (gQ I.coll.own I.r1 (by decide)).symm).trans I.r1;have ha:ay J [.slice A1 c.comes.length c1] c.comes b1:=ak.keep I.at1 fun b hb=>hG.block b (ak.lt I.at1 b hb) (I.dif b hb).symm
 obtain ⟨b4,hs,_⟩:=hC.slice;refine ⟨ai y,ai y,ax y,b4,(π _ _ _ _ h.ne).trans b0,rG y,h.h0,h.h1,h.ne,eu ha (dB (iw y) ha),eu hs (dB (iw y) hs),?_,(h.kept.fE hB ν).zS h.h1 _,h.glt⟩;exact (h.rdr.fE hB h.glt).fE ((Below.refl w.heap.size J).setCell h.h1 _) h.glt
theorem GI.call {p2:Nat} {y:World} (h:GI g p w n0 n1 c A1 A2 c1 c2 b1 b2 wr) (J:kP g p2 y) (hK:aI [g] wr y):GI g p2 w n0 n1 c A1 A2 c1 c2 b1 b2 y:=by
 have U:=h.glt; have h0:=h.h0; have h1:=h.h1
 have ha:=dB h.rdr.Gm h.at1;have I:=dB h.rdr.Gm h.at2;exact ⟨hK.blk h.r0 (by simp; omega),hK.blk h.r1 (by simp; omega),h0,h1,h.ne,Good.kept ak h.at1 hK (fun b hb=>by simp; intro e; exact ha (e ▸ hb)),Good.kept ak h.at2 hK (fun b hb=>by simp; intro e; exact I (e ▸ hb)),J,h.kept.trans hK,U⟩
theorem GI.comes {xs:List A} {y:Option Addr} {I:Nat} {J:List Nat} (h:GI g p w n0 n1 c A1 A2 c1 c2 b1 b2 wr) (ha:ay wr [.slice y xs.length I] xs J):GI g p w n0 n1 ⟨xs,c.goes⟩ y A2 I c2 J b2 (wr.setCell ⟨n1,0,none⟩ (.slice y xs.length I)):=
 ⟨(π _ _ _ _ h.ne).trans h.r0,pG h.r1,h.h0,h.h1,h.ne,eu ha (dB (iw h.r1) ha),eu h.at2 (dB (iw h.r1) h.at2),h.rdr.fE ((Below.refl w.heap.size wr).setCell h.h1 _) h.glt,h.kept.zS h.h1 _,h.glt⟩
theorem GI.done {q p0:Nat} (h:GI g p w n0 n1 c A1 A2 c1 c2 b1 b2 wr) (J:c.comes.length≤50∧c.goes.length≤6∧(∀ a ∈ c.comes,a.args.length≤4)∧∀ a ∈ c.goes,a.args.length≤4) (U:p≤p0+q):
  VB g p0 q w (.returned (.agg #[.slice A1 c.comes.length c1,.slice A2 c.goes.length c2])) ((wr.setCell ⟨n0,0,none⟩ (.slice A1 c.comes.length c1)).setCell ⟨n0,1,none⟩ (.slice A2 c.goes.length c2)):=by
 have hB:Below w.heap.size wr ((wr.setCell ⟨n0,0,none⟩ (.slice A1 c.comes.length c1)).setCell ⟨n0,1,none⟩ (.slice A2 c.goes.length c2)):=(ϑ.setCell h.h0 _).setCell h.h0 _;have y:=dB (iw h.r0) h.at1;have I:=dB (iw h.r0) h.at2;exact ⟨c,A1,A2,c1,c2,b1,b2,p,rfl,eu (eu h.at1 y) y,eu (eu h.at2 I) I,J,h.rdr.fE hB h.glt,U,h.kept.fE hB ν⟩
end
theorem Bf (g p:Nat) (w:World) (h:kP g p w) (hp:p≤500000):
  Calls Tryz.prog 74 #[.pointer (some ⟨g,0,none⟩)] w (VB g p 300 w):=by
 obtain ⟨i0,hi,b7,b8,b9⟩:=info_parts II;have hA:Below w.heap.size w (w.alloc (.cells #[.slice none 0 0,.slice none 0 0] 54)):=ζ;have HZ:=η (ω w (.cells #[.slice none 0 0,.slice none 0 0] 54));have HL:=η h.lt;have k1:=GH g p _ (h.below hA) (by omega);have HA:=η hA;have HP:=η hp;clear h hA hp
 go_enter Tryz.func74,Tryz.ntmps74
 go_wp2_with fail
 refine k1.mono ?_;rintro e J ⟨c,A1,A2,c1,c2,L,b1,b2,p1,rfl,a0,hC,a8,ae,hR,af,hK⟩;have HX:=η (ι ae af)
 have I:Hid (tK g p1 w w.heap.size J.heap.size c A1 A2 c1 c2 L b1 b2 (J.alloc (.cells #[.slice A1 c.comes.length c1,.slice A2 c.goes.length c2] 54))):=η (by
  have a1:Below J.heap.size J (J.alloc (.cells #[.slice A1 c.comes.length c1,.slice A2 c.goes.length c2] 54)):=ζ;have hz:=hK.blk HZ.out (by have:=HL.out; simp; omega);have hk:=(aI.of_below HA.out).trans hK
  exact ⟨(a1.block _ (ψ hz)).trans hz,ω J _,ν,hk.size,Nat.ne_of_lt (ψ hz),ak.below a0 a1,(hC.mono (by have:=HA.out.size; simp)).below au a1,a8,hR.below a1,hk.fE a1 hk.size,HL.out⟩)
 have bi:w.heap.size < J.heap.size:=ψ (hK.blk HZ.out (by have:=HL.out; simp; omega));have ag:=pick_any g p1 16 _ I.out.rdr (by have:=HP.out; omega) (by omega) (by omega);clear k1 a0 hC a8 ae hR af hK HZ
 go_wp2_with fail
 refine ag.mono ?_;rintro e w2 ⟨j,rfl,hj,am,ao⟩;replace I:=η (I.out.call am (aI.dL ao));clear ag am ao;by_cases aa:j=0
 ·subst aa
  clear hj;replace I:=η I.out.drew;have q0:=I.out.cells.1;have q1:=I.out.cells.2.1;have q2:=I.out.cells.2.2;have bc:Hid (c.goes.length+1≤maxLen):=η (by have:=HX.out.1.2.1; unfold maxLen; omega);have bf:Hid ((c.goes.length+1) * 40≤140737488355328):=η (by have:=HX.out.1.2.1; omega);go_wp2
  go_region_law
   (first
    | (go_simp; go_at_call 139; refine (uJ g _ _ I.out.rdr (by have:=HP.out; have:=HX.out.2; omega)).mono ?_; rintro e w3 ⟨a,v3,L3,p3,rfl,aq,ar,ab,a2,a6,a3⟩; have HF:Hid (∀ b,_≤b→(Value.slice A2 c.goes.length c2).ownBlock ≠ some b):=η (fun b hb=>jk I.out.coll.own hb); replace I:=η (I.out.call a2 a3); replace q0:=I.out.cells.1; replace q1:=I.out.cells.2.1; replace q2:=I.out.cells.2.2; have q3:J.heap.size < w3.heap.size:=lt_of_cell q1; obtain ⟨A3,c3,rfl⟩:=dZ ab.own; obtain ⟨b5,a9,a4⟩:=ab.slice; have ac:Hid (∀ b ∈ b5,(Value.slice A2 c.goes.length c2).ownBlock ≠ some b):=η (fun b hb=>HF.out b ((a4 b hb).resolve_right (by simp))); have HT:=η (I.out.lit (a:=a) ⟨_,rfl,Sm.max aq,a9⟩ ac.out); have av:Hid (a.args.length≤4∧p3≤p1+1+20):=η ⟨ar,a6⟩; clear a9 a4 aq ar a6; clear ab a2 a3)
    | (refine aY (by rfl) (.tmp 11) (.tmp 14) _ (by rfl) w.heap.size 33 i0 (.agg #[.string ⟨#[]⟩,.slice none 0 0]) 2 40 Tryz.underlying24 hi b7 b8 b9 rfl (Θ 1) au (.slice A2 c.goes.length c2) c.goes.length L c.goes b2 (by rfl) HT.out.1 rfl (some ⟨w3.heap.size,0,none⟩) 1 1 _ [a] _ (by rfl) HT.out.2.1 rfl HT.out.2.2.1 ac.out bc.out bf.out w3 w.heap.size HT.out.2.2.2.1 ν HT.out.2.2.2.2 ?_; intro A4 c4 w4 aw az bj aD; have a5:=η (I.out.app aw (by simp) az aD); replace q0:=a5.out.1; replace q1:=a5.out.2.1; replace q2:=a5.out.2.2.1; clear aw az aD))
  all_goals
   obtain ⟨b4,y⟩:=a5.out.2.2.2;obtain ⟨G,a7⟩:∃ G,G=c.goes ++ [a]:=⟨_,rfl⟩;have hlen:c.goes.length+1=G.length:=by rw [a7]; simp
   have aE:Hid (G.length≤6∧∀ x ∈ G,x.args.length≤4):=η (by
    have h5:=HX.out.1.2.1;refine ⟨by omega,fun x hx=>?_⟩;rw [a7] at hx
    rcases μ.1 hx with hx | hx
    ·exact HX.out.1.2.2.2 x hx
    ·rw [ώ.1 hx]; exact av.out.1)
   rw [← a7,hlen] at y;rw [hlen];clear a7 hlen HT I HF ac a5 q0 q1 q2;obtain ⟨W,hW⟩:∃ W,W=w4.setCell ⟨J.heap.size,1,none⟩ (.slice A4 G.length c4):=⟨_,rfl⟩;rw [← hW] at y ⊢;clear hW;have q0:W.cell? ⟨J.heap.size,0,none⟩=some (.slice A1 c.comes.length c1):=ai y.r1;have q1:W.cell? ⟨J.heap.size,1,none⟩=some (.slice A4 G.length c4):=ai y.r1;have z0:W.cell? ⟨w.heap.size,0,none⟩=some (.slice none 0 0):=ai y.r0;have z1:W.cell? ⟨w.heap.size,1,none⟩=some (.slice none 0 0):=ai y.r0;have f0:W.frozen? ⟨w.heap.size,0,none⟩=false:=ax y.r0;have f1:W.frozen? ⟨w.heap.size,1,none⟩=false:=ax y.r0;have HD:Hid (VB g p 300 w (.returned (.agg #[.slice A1 c.comes.length c1,.slice A4 G.length c4])) ((W.setCell ⟨w.heap.size,0,none⟩ (.slice A1 c.comes.length c1)).setCell ⟨w.heap.size,1,none⟩ (.slice A4 G.length c4))):=η (y.done (p0:=p) (q:=300) ⟨HX.out.1.1,aE.out.1,HX.out.1.2.2.1,aE.out.2⟩ (by have:=av.out.2; have:=HX.out.2; omega));clear y;go_wp2
   refine bodyPost_ret (v:=.agg #[.slice A1 c.comes.length c1,.slice A4 G.length c4]) (by simp [results,Tryz.results74,go_sem,z0,z1]) rfl HD.out
 ·have bg:((j:Int) == 0)=false:=beq_eq_false_iff_ne.2 (by omega)
  obtain ⟨b3,hD⟩:=I.out.YZ;clear I;by_cases aL:j=1
  ·subst aL
   have hc:=tu g _ w2 hD.rdr (by have:=HP.out; have:=HX.out.2; omega);have aM:=η hD;clear hD hj aa
   go_wp2_with fail
   refine hc.mono ?_;rintro e w3 ⟨xs,v3,b5,p3,rfl,⟨a0,aR⟩,hx,b6,a2,a6,a3⟩;obtain ⟨A3,c3,rfl,_,_⟩:=aj a0;have U:=aM.out.call a2 a3;have q0:w3.cell? ⟨J.heap.size,0,none⟩=some (.slice A1 c.comes.length c1):=ai U.r1;have q1:w3.cell? ⟨J.heap.size,1,none⟩=some (.slice A2 c.goes.length c2):=ai U.r1;have q2:w3.frozen? ⟨J.heap.size,0,none⟩=false:=ax U.r1;have z0:w3.cell? ⟨w.heap.size,0,none⟩=some (.slice none 0 0):=ai U.r0;have z1:w3.cell? ⟨w.heap.size,1,none⟩=some (.slice none 0 0):=ai U.r0;have f0:w3.frozen? ⟨w.heap.size,0,none⟩=false:=ax U.r0;have f1:w3.frozen? ⟨w.heap.size,1,none⟩=false:=ax U.r0;have bk:¬ (w.heap.size=J.heap.size):=by omega
   have bl:¬ (J.heap.size=w.heap.size):=by omega
   have HD:Hid (VB g p 300 w (.returned (.agg #[.slice A3 xs.length c3,.slice A2 c.goes.length c2])) (((w3.setCell ⟨J.heap.size,0,none⟩ (.slice A3 xs.length c3)).setCell ⟨w.heap.size,0,none⟩ (.slice A3 xs.length c3)).setCell ⟨w.heap.size,1,none⟩ (.slice A2 c.goes.length c2))):=η ((U.comes a0).done (p0:=p) (q:=300) ⟨hx,by have:=HX.out.1.2.1; dsimp only; omega,b6,HX.out.1.2.2.2⟩ (by have:=HX.out.2; omega));clear hc aM U a0 aR hx b6 a2 a6 a3;go_wp2;refine bodyPost_ret (v:=.agg #[.slice A3 xs.length c3,.slice A2 c.goes.length c2]) (by simp [results,Tryz.results74,go_sem,z0,z1]) rfl HD.out
  ·have bh:((j:Int) == 1)=false:=beq_eq_false_iff_ne.2 (by omega)
   have q0:w2.cell? ⟨J.heap.size,0,none⟩=some (.slice A1 c.comes.length c1):=ai hD.r1;have q1:w2.cell? ⟨J.heap.size,1,none⟩=some (.slice A2 c.goes.length c2):=ai hD.r1;have z0:w2.cell? ⟨w.heap.size,0,none⟩=some (.slice none 0 0):=ai hD.r0;have z1:w2.cell? ⟨w.heap.size,1,none⟩=some (.slice none 0 0):=ai hD.r0;have f0:w2.frozen? ⟨w.heap.size,0,none⟩=false:=ax hD.r0;have f1:w2.frozen? ⟨w.heap.size,1,none⟩=false:=ax hD.r0;have HD:Hid (VB g p 300 w (.returned (.agg #[.slice A1 c.comes.length c1,.slice A2 c.goes.length c2])) ((w2.setCell ⟨w.heap.size,0,none⟩ (.slice A1 c.comes.length c1)).setCell ⟨w.heap.size,1,none⟩ (.slice A2 c.goes.length c2))):=η (hD.done (p0:=p) (q:=300) ⟨HX.out.1.1,by have:=HX.out.1.2.1; omega,HX.out.1.2.2.1,HX.out.1.2.2.2⟩ (by have:=HX.out.2; omega));clear hD hj aa aL;go_wp2;refine bodyPost_ret (v:=.agg #[.slice A1 c.comes.length c1,.slice A2 c.goes.length c2]) (by simp [results,Tryz.results74,go_sem,z0,z1]) rfl HD.out
end Go.Proofs.YtkjinanbccloeaaGreatDoor
