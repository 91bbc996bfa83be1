/- Of the proof of FnDeltaBoth: FillS, L3N, HeadsI, ArgsS. -/
import Derived.Test.YtkjinanbccloeaaGreatDoorC10
import Derived.Test.YtkjinanbccloeaaGreatDoorC09
set_option linter.unusedVariables false
set_option maxHeartbeats 4000000
set_option maxRecDepth 100000
namespace Go.Proofs.YtkjinanbccloeaaGreatDoor
open Go.RowKit D
attribute [local go_sem ↓] Go.wp_at_zero Go.wp_at_succ
theorem RF:(Tryz.prog.info? 91).map (fun i=>(i.zero,i.size,i.bytes))=some (some (.agg #[.bool false,.string ⟨#[]⟩]),2,24):=by kernel_rfl
theorem D.Xf {b:Bd} {n:ByteArray} {w:World} {cs:List Value} {bs:List Nat} (h:jG w cs b bs):(jC b n).size≤maxLen:=by
 obtain ⟨U,x1,b1,b2,rfl,rfl,h1,I⟩:=h;have J:=xG I;unfold jC
 have:∀ (b:Bd) (v:ByteArray),gJ b n=some v→v ∈ b.map (·.2):=by
  intro b
  induction b with
  | nil=>intro v h; cases h
  | cons p b ih=>
   intro v h;rw [gJ] at h;by_cases y:p.1=n
   ·rw [if_pos y] at h
    cases h;exact Γ
   ·rw [if_neg y] at h
    exact Δ _ (ih v h)
 cases hg:gJ b n with
 | none=>exact ε
 | some v=>exact J v (this b v hg)
structure D.Fe (w:World) (x:A) (Ad:Option Addr) (cap:Nat) (c0 c1 v:Value) (L:List Value) (ts:List T) (wr:World):Prop where
 a_:wr.heap[w.heap.size]? = some (.cells #[.string x.name,.slice Ad x.args.length cap] 33 (0,0))
 b_:wr.heap[w.heap.size+1]? = some (.cells #[c0,c1] 234 (0,0))
 r_:wr.heap[w.heap.size+2]? = some (.cells #[.string ⟨#[]⟩,.slice none 0 0] 33 (0,0))
 o_:wr.heap[w.heap.size+3]? = some (.cells #[.string x.name,v] 33 (0,0))
 c_:bK 2 kD (w.heap.size+4) 91 wr v L ts []
 bel:Below w.heap.size w wr
theorem D.Fe.below {w:World} {x:A} {y:Option Addr} {cap:Nat} {c0 c1 v:Value} {L:List Value} {I:List T} {wr w':World} (h:Fe w x y cap c0 c1 v L I wr) (hb:Below wr.heap.size wr w'):Fe w x y cap c0 c1 v L I w':=
 ⟨by rw [hb.block _ (ψ h.a_)]; exact h.a_,by rw [hb.block _ (ψ h.b_)]; exact h.b_,by rw [hb.block _ (ψ h.r_)]; exact h.r_,by rw [hb.block _ (ψ h.o_)]; exact h.o_,h.c_.below bV hb,h.bel.trans (hb.mono h.bel.size)⟩
theorem D.Fe.set {w:World} {x:A} {J:Option Addr} {cap:Nat} {c0 c1 v:Value} {L:List Value} {U:List T} {wr:World} (h:Fe w x J cap c0 c1 v L U wr) (M o:Nat) (u:Value) (hM:w.heap.size+4≤M) (I:v.ownBlock ≠ some M):Fe w x J cap c0 c1 v L U (wr.setCell ⟨M,o,none⟩ u):=by
 have y:∀ k,k ≠ M→(wr.setCell ⟨M,o,none⟩ u).heap[k]? = wr.heap[k]?:=fun k y=>π _ _ _ _ y
 refine ⟨by rw [y _ (by omega)]; exact h.a_,by rw [y _ (by omega)]; exact h.b_,by rw [y _ (by omega)]; exact h.r_,by rw [y _ (by omega)]; exact h.o_,?_,h.bel.setCell (by show w.heap.size≤M; omega) u⟩;exact ⟨uo h.c_.own fun b hb=>y b fun e=>I (e ▸ hb),h.c_.row.keep bV fun b hb=>(by cases hb),h.c_.far⟩
theorem D.Fe.app {w:World} {x:A} {Ad:Option Addr} {cap:Nat} {c0 c1 v J:Value} {L L4:List Value} {ts U:List T} {wr y:World} (h:Fe w x Ad cap c0 c1 v L ts wr) (hC:bK 2 kD (w.heap.size+4) 91 y J L4 U []) (I:Below (w.heap.size+4) wr y):
  y.cell? ⟨w.heap.size+3,1,none⟩=some v∧y.frozen? ⟨w.heap.size+3,1,none⟩=false∧Fe w x Ad cap c0 c1 J L4 U (y.setCell ⟨w.heap.size+3,1,none⟩ J):=by
 have b0:=(I.block w.heap.size (by omega)).trans h.a_;have b1:=(I.block (w.heap.size+1) (by omega)).trans h.b_;have b2:=(I.block (w.heap.size+2) (by omega)).trans h.r_;have b3:=(I.block (w.heap.size+3) (by omega)).trans h.o_;have hs:∀ k,k ≠ w.heap.size+3→(y.setCell ⟨w.heap.size+3,1,none⟩ J).heap[k]? = y.heap[k]?:=fun k I=>π _ _ _ _ I
 refine ⟨ai b3,ax b3,⟨(hs _ (by omega)).trans b0,(hs _ (by omega)).trans b1,(hs _ (by omega)).trans b2,rG b3,hC.lX bV (aS hC.own (by omega)) (by simp),?_⟩⟩;exact (h.bel.trans (I.mono (by omega))).setCell (by show w.heap.size≤w.heap.size+3; omega) J
theorem Me (x:A) (b:Bd) (a0 a1 c0 c1:Value) (ba bs:List Nat) (w:World) (ha:aK w [a0,a1] x ba) (h:jG w [c0,c1] b bs) (hx:x.args.length≤1000000):
  Calls Tryz.prog 172 #[.agg #[a0,a1],.agg #[c0,c1]] w fun e w'=>Below w.heap.size w w'∧∃ d0 d1 bs',e=.returned (.agg #[d0,d1])∧aK w' [d0,d1] (dD x b) bs'∧∀ c ∈ bs',w.heap.size≤c:=by
 obtain ⟨s,a4,aw,ht⟩:=ha;simp only [List.cons.injEq,and_true] at a4;obtain ⟨rfl,rfl⟩:=a4;obtain ⟨Ad,cap,rfl,hl,hm⟩:=aj ht;obtain ⟨A1,p1,A2,p2,a4⟩:=nD h;simp only [List.cons.injEq,and_true] at a4;obtain ⟨rfl,rfl⟩:=a4;obtain ⟨i0,hi,az,aD,aE⟩:=info_parts RF;clear hm;have H:=η h;have HT:=η ht;have aL:=η fun n=>Xf (n:=n) h
 have ab:Fe w x Ad cap (.slice A1 b.length p1) (.slice A2 b.length p2) (.slice none 0 0) [] [] ((((w.alloc (.cells #[.string x.name,.slice Ad x.args.length cap] 33)).alloc (.cells #[.slice A1 b.length p1,.slice A2 b.length p2] 234)).alloc (.cells #[.string ⟨#[]⟩,.slice none 0 0] 33)).alloc (.cells #[.string x.name,.slice none 0 0] 33)):=by
  refine ⟨?_,?_,?_,?_,bK.nil _,(((ζ).alloc (by simp) _).alloc (by simp; omega) _).alloc (by simp; omega) _⟩
  ·rw [Below.heap_alloc _ _ _ (by simp; omega),Below.heap_alloc _ _ _ (by simp; omega),Below.heap_alloc _ _ _ (by simp)]
   exact ω w _
  ·rw [Below.heap_alloc _ _ _ (by first | (simp; done) | (simp; omega)),Below.heap_alloc _ _ _ (by first | (simp; done) | (simp; omega))]
   simpa using ω (w.alloc (.cells #[.string x.name,.slice Ad x.args.length cap] 33)) (.cells #[.slice A1 b.length p1,.slice A2 b.length p2] 234)
  ·rw [Below.heap_alloc _ _ _ (by simp)]
   simpa using ω ((w.alloc (.cells #[.string x.name,.slice Ad x.args.length cap] 33)).alloc (.cells #[.slice A1 b.length p1,.slice A2 b.length p2] 234)) (.cells #[.string ⟨#[]⟩,.slice none 0 0] 33)
  ·simpa using ω (((w.alloc (.cells #[.string x.name,.slice Ad x.args.length cap] 33)).alloc (.cells #[.slice A1 b.length p1,.slice A2 b.length p2] 234)).alloc (.cells #[.string ⟨#[]⟩,.slice none 0 0] 33)) (.cells #[.string x.name,.slice none 0 0] 33)
 have ac:=η ab;clear h ht ab
 go_enter Tryz.func172,Tryz.ntmps172
 go_wp2_with fail
 generalize (((w.alloc (.cells #[.string x.name,.slice Ad x.args.length cap] 33)).alloc (.cells #[.slice A1 b.length p1,.slice A2 b.length p2] 234)).alloc (.cells #[.string ⟨#[]⟩,.slice none 0 0] 33)).alloc (.cells #[.string x.name,.slice none 0 0] 33)=w0 at *
 go_loopw [6,7] (fun i _ wr=>∃ (k:Nat) (Av:Option Addr) (cv:Nat) (L:List Value),k≤x.args.length∧i=.int .i64 k∧Hid (Fe w x Ad cap (.slice A1 b.length p1) (.slice A2 b.length p2) (.slice Av k cv) L ((x.args.take k).map (dU b)) wr)) (fun i _ _=>x.args.length - (intOf i).toNat)
 case atStart=>exact ⟨0,none,0,[],ε,rfl,ac⟩
 case round=>
  obtain ⟨k,Av,cv,L,hk,rfl,U⟩:=hrel;clear ac;by_cases a5:k < x.args.length
  ·obtain ⟨d,o,rfl,_,e0,e1,ae⟩:=fP (aT.below HT.out U.out.bel) a5
   have bh:(0:Int)≤(k:Int):=by omega
   have aM:(k:Int) < (x.args.length:Int):=by omega
   have aR:Hid ((x.args.take (k+1)).map (dU b)=(x.args.take k).map (dU b) ++ [dU b x.args[k]]):=η (by rw [ρ a5,List.map_append]; rfl);have b1:Hid (((x.args.take k).map (dU b)).length=k):=η (by simp; omega);have af:=η a5;have y1:wr.cell? ⟨w.heap.size,1,none⟩=some (.slice (some ⟨d,o,none⟩) x.args.length cap):=ai U.out.a_;have z0:wr.cell? ⟨w.heap.size+1,0,none⟩=some (.slice A1 b.length p1):=ai U.out.b_;have z1:wr.cell? ⟨w.heap.size+1,1,none⟩=some (.slice A2 b.length p2):=ai U.out.b_;have b3:w.heap.size+4≤wr.heap.size:=by have:=ψ U.out.o_; omega
   have n0:w.heap.size < wr.heap.size:=by omega
   have n1:w.heap.size+1 < wr.heap.size:=by omega
   have n3:w.heap.size+1+1+1 < wr.heap.size:=by omega
   have nd:d < wr.heap.size:=lt_of_cell e0;generalize x.args[k]=t at *;clear a5 hk;obtain ⟨tv,I⟩:=t;dsimp only at *;have hA:Below wr.heap.size wr (wr.alloc (.cells #[.bool false,.string I] 91)):=ζ;have hX:=ω wr (.cells #[.bool false,.string I] 91);have a9:=U.out.below hA;have ag:∀ M,wr.heap.size≤M→(Value.slice Av k cv).ownBlock ≠ some M:=fun M hM e=>by have:=(jJ U.out.c_.own M e).2; omega
   cases tv
   case' true=>
    have q:=fun w' (hb:Below wr.heap.size wr w')=>get_any b I _ _ bs w' (dJ.below H.out (U.out.bel.trans (hb.mono U.out.bel.size)))
    go_wp2_with fail
    have a2:∀ y,Below (World.drew (wr.alloc (.cells #[.bool false,.string I] 91))).heap.size (World.drew (wr.alloc (.cells #[.bool false,.string I] 91))) y→Below wr.heap.size wr y:=fun y J=>hA.drew.trans (J.mono hA.size)
    have a6:∀ y,Below (World.drew (wr.alloc (.cells #[.bool false,.string I] 91))).heap.size (World.drew (wr.alloc (.cells #[.bool false,.string I] 91))) y→y.heap[wr.heap.size]? = some (.cells #[.bool false,.string I] 91 (0,0)):=fun y J=>(J.block _ (by show wr.heap.size < (World.alloc wr _).heap.size; simp)).trans hX
    have hK:∀ y,Below (World.drew (wr.alloc (.cells #[.bool false,.string I] 91))).heap.size (World.drew (wr.alloc (.cells #[.bool false,.string I] 91))) y→y.cell? ⟨w.heap.size,1,none⟩=some (.slice (some ⟨d,o,none⟩) x.args.length cap)∧y.cell? ⟨w.heap.size+1,0,none⟩=some (.slice A1 b.length p1)∧y.cell? ⟨w.heap.size+1,1,none⟩=some (.slice A2 b.length p2)∧y.cell? ⟨d,o+k * 2+1,none⟩=some (.string I)∧y.cell? ⟨wr.heap.size,1,none⟩=some (.string I)∧y.frozen? ⟨wr.heap.size,1,none⟩=false:=fun y J=>
     ⟨ξ (a2 y J) y1,ξ (a2 y J) z0,ξ (a2 y J) z1,ξ (a2 y J) e1,ai (a6 y J),ax (a6 y J)⟩
    have am:∀ y:World,(y.cell? ⟨w.heap.size,1,none⟩=some (.slice (some ⟨d,o,none⟩) x.args.length cap)∧y.cell? ⟨w.heap.size+1,0,none⟩=some (.slice A1 b.length p1)∧y.cell? ⟨w.heap.size+1,1,none⟩=some (.slice A2 b.length p2)∧y.cell? ⟨d,o+k * 2+1,none⟩=some (.string I))→((y.setCell ⟨wr.heap.size,1,none⟩ (.string (jC b I))).cell? ⟨w.heap.size,1,none⟩=some (.slice (some ⟨d,o,none⟩) x.args.length cap)∧(y.setCell ⟨wr.heap.size,1,none⟩ (.string (jC b I))).cell? ⟨w.heap.size+1,0,none⟩=some (.slice A1 b.length p1)∧(y.setCell ⟨wr.heap.size,1,none⟩ (.string (jC b I))).cell? ⟨w.heap.size+1,1,none⟩=some (.slice A2 b.length p2)∧(y.setCell ⟨wr.heap.size,1,none⟩ (.string (jC b I))).cell? ⟨d,o+k * 2+1,none⟩=some (.string I)):=fun y ⟨h1,h2,h3,h4⟩=>
     ⟨(World.cell?_of_block (w:=y) (π y ⟨wr.heap.size,1,none⟩ _ _ (by show w.heap.size ≠ wr.heap.size; omega))).trans h1,(World.cell?_of_block (w:=y) (π y ⟨wr.heap.size,1,none⟩ _ _ (by show w.heap.size+1 ≠ wr.heap.size; omega))).trans h2,(World.cell?_of_block (w:=y) (π y ⟨wr.heap.size,1,none⟩ _ _ (by show w.heap.size+1 ≠ wr.heap.size; omega))).trans h3,(World.cell?_of_block (w:=y) (π y ⟨wr.heap.size,1,none⟩ _ _ (by show d ≠ wr.heap.size; omega))).trans h4⟩
    go_region_held3 (fun w'=>w'.cell? ⟨w.heap.size,1,none⟩=some (.slice (some ⟨d,o,none⟩) x.args.length cap)∧w'.cell? ⟨w.heap.size+1,0,none⟩=some (.slice A1 b.length p1)∧w'.cell? ⟨w.heap.size+1,1,none⟩=some (.slice A2 b.length p2)∧w'.cell? ⟨d,o+k * 2+1,none⟩=some (.string I))
     (first | go_keep | exact hq | exact am _ hq)
     (first | (go_at_call 225; refine (q _ hA.drew).mono ?_; rintro e y ⟨rfl,J⟩; have ⟨j0,j1,j2,j3,j4,j5⟩:=hK y J; have hq:=ι j0 (ι j1 (ι j2 j3)); clear j0 j1 j2 j3))
    have HS:Hid (dU b ⟨true,I⟩=⟨false,jC b I⟩):=η rfl;have ao:Hid ((jC b I).size≤maxLen):=η (aL.out I);have a7:(y.setCell ⟨wr.heap.size,1,none⟩ (.string (jC b I))).heap[wr.heap.size]? = some (.cells #[.bool false,.string (jC b I)] 91 (0,0)):=rG (a6 y J);have a3:=(U.out.below (a2 y J)).set wr.heap.size 1 (.string (jC b I)) b3 (ag _ ν);clear hK am a6 a2 hq q a9 j4 j5;generalize hvn:jC b I=nm' at *;generalize hwt:y.setCell ⟨wr.heap.size,1,none⟩ (.string nm')=wt at *;clear J hwt
   case' false=>
    have HS:Hid (dU b ⟨false,I⟩=⟨false,I⟩):=η rfl;have ao:=η ae
    go_upto_region 8 with fail
    have a7:=hX;have a3:=a9;generalize hwt:wr.alloc (.cells #[.bool false,.string I] 91)=wt at *;generalize hvn:I=nm' at *;clear a9 hwt
   all_goals
    have y3:wt.cell? ⟨w.heap.size+1+1+1,1,none⟩=some (.slice Av k cv):=ai a3.o_;have y4:wt.cell? ⟨wr.heap.size,0,none⟩=some (.bool false):=ai a7;have y5:wt.cell? ⟨wr.heap.size,1,none⟩=some (.string nm'):=ai a7;have a8:Below wt.heap.size wt (wt.alloc (.cells #[.bool false,.string nm'] 91)):=ζ;have aq:w.heap.size+4≤wt.heap.size:=by have:=ψ a3.o_; omega
    have HL:Hid (bK 2 kD (w.heap.size+4) 91 (wt.alloc (.cells #[.bool false,.string nm'] 91)) (.slice Av k cv) L ((x.args.take k).map (dU b)) []∧aW 2 kD (wt.alloc (.cells #[.bool false,.string nm'] 91)) [.bool false,.string nm'] [⟨false,nm'⟩] []∧Lies (wt.alloc (.cells #[.bool false,.string nm'] 91)) (some ⟨wt.heap.size,0,none⟩) [.bool false,.string nm']∧Below (w.heap.size+4) wt (wt.alloc (.cells #[.bool false,.string nm'] 91))∧w.heap.size+4≤(wt.alloc (.cells #[.bool false,.string nm'] 91)).heap.size):=
     η ⟨a3.c_.below bV a8,aW.dP lG ⟨rfl,ao.out,rfl⟩,aV (ω wt _),a8.mono aq,τ aq a8.size⟩
    have b4:Hid (k+1≤maxLen):=η (by unfold maxLen; omega);have b5:Hid ((k+1) * 24≤140737488355328):=η (by omega);have b6:=η a3;clear a3 a7 U y1 z0 z1 e0 e1 hA hX ag a8
    go_wp2_with (at_builtin; refine dG rfl _ _ _ rfl (w.heap.size+4) 91 i0 (.agg #[.bool false,.string ⟨#[]⟩]) 2 24 Tryz.underlying31 hi az aD aE rfl (Θ 1) bV (.slice Av k cv) k L _ [] rfl HL.out.1 b1.out (some ⟨wt.heap.size,0,none⟩) 1 1 _ [⟨false,nm'⟩] _ rfl HL.out.2.1 rfl HL.out.2.2.1 (fun b hb=>by simp at hb) b4.out b5.out wt (w.heap.size+4) HL.out.2.2.2.1 ν HL.out.2.2.2.2 ?_; intro A4 c4 w4 ar av b7 b8; have HZ:=η (b6.out.app ar av); have p1:=HZ.out.1; have p2:=HZ.out.2.1; clear ar av b7 b8 y3 y4 y5)
    go_wp2;go_roundw
    case rel=>exact ⟨k+1,A4,c4,_,af.out,by go_num,by rw [aR.out,HS.out]; exact η HZ.out.2.2⟩
    case measure=>have:=af.out; simp [intOf]; omega
  ·have he:k=x.args.length:=by omega
   have aM:¬ (k:Int) < (x.args.length:Int):=by omega
   have y1:wr.cell? ⟨w.heap.size,1,none⟩=some (.slice Ad x.args.length cap):=ai U.out.a_;have y2:wr.cell? ⟨w.heap.size+1+1+1,0,none⟩=some (.string x.name):=ai U.out.o_;have y3:wr.cell? ⟨w.heap.size+1+1+1,1,none⟩=some (.slice Av k cv):=ai U.out.o_;have y4:wr.cell? ⟨w.heap.size+1+1,0,none⟩=some (.string ⟨#[]⟩):=ai U.out.r_;have y5:wr.cell? ⟨w.heap.size+1+1,1,none⟩=some (.slice none 0 0):=ai U.out.r_;have f4:wr.frozen? ⟨w.heap.size+1+1,0,none⟩=false:=ax U.out.r_;have f5:wr.frozen? ⟨w.heap.size+1+1,1,none⟩=false:=ax U.out.r_;have aa:=dw (o:=1) (u:=.slice Av k cv) (dw (o:=0) (u:=.string x.name) U.out.r_);have b9:((wr.setCell ⟨w.heap.size+1+1,0,none⟩ (.string x.name)).setCell ⟨w.heap.size+1+1,1,none⟩ (.slice Av k cv)).cell? ⟨w.heap.size+1+1,0,none⟩=some (.string x.name):=by simp [World.cell?,aa]
   have bc:((wr.setCell ⟨w.heap.size+1+1,0,none⟩ (.string x.name)).setCell ⟨w.heap.size+1+1,1,none⟩ (.slice Av k cv)).cell? ⟨w.heap.size+1+1,1,none⟩=some (.slice Av k cv):=by simp [World.cell?,aa]
   have HF:Hid (∃ bs',aK ((wr.setCell ⟨w.heap.size+1+1,0,none⟩ (.string x.name)).setCell ⟨w.heap.size+1+1,1,none⟩ (.slice Av k cv)) [.string x.name,.slice Av k cv] (dD x b) bs'∧∀ c ∈ bs',w.heap.size≤c):=η (by
    have hC:=(U.out.c_.lX (b:=w.heap.size+2) (o:=0) (u:=.string x.name) bV (aS U.out.c_.own (by omega)) (by simp)).lX (b:=w.heap.size+2) (o:=1) (u:=.slice Av k cv) bV (aS (U.out.c_.lX (b:=w.heap.size+2) (o:=0) (u:=.string x.name) bV (aS U.out.c_.own (by omega)) (by simp)).own (by omega)) (by simp);obtain ⟨b2,h2,h3⟩:=hC.slice;refine ⟨b2,⟨.slice Av k cv,rfl,aw,?_⟩,fun c hc=>(h3 c hc).elim (fun h=>by omega) fun h=>by cases h⟩;unfold dD;rw [he,ϕ ν] at h2;rw [he]
    exact h2)
   have HB:=η ((U.out.bel.setCell (p:=⟨w.heap.size+1+1,0,none⟩) (by show w.heap.size≤w.heap.size+1+1; omega) (.string x.name)).setCell (p:=⟨w.heap.size+1+1,1,none⟩) (by show w.heap.size≤w.heap.size+1+1; omega) (.slice Av k cv));clear U he hk aa;go_wp2;obtain ⟨bs',bf,bg⟩:=HF.out;exact bodyPost_ret (v:=.agg #[.string x.name,.slice Av k cv]) (by simp [results,Tryz.results172,go_sem,b9,bc]) rfl ⟨HB.out,_,_,rfl,bs',bf,bg⟩
def D.Jy (bb:List Nat) (xs xs':List A) (v:Value) (B:Nat) (w:World) (e:Ending) (w':World):Prop:=
 Below B w w'∧∃ y bs,e=.returned y∧ay w' [y] xs' bs∧((y=v∧xs'=xs)∨∃ L I,bK 2 aK B 33 w' y L xs' I∧∀ c ∈ I,c ∈ bb)
theorem D.bK.XL {α:Type} {n:Nat} {R:Rel α} {base y e:Nat} {w:World} {v:Value} {L:List Value} {xs:List α} {bs:List Nat} (h:bK n R base e w v L xs bs) (hb:y≤base):bK n R y e w v L xs bs:=
 ⟨⟨h.own.1,h.own.2.imp id fun ⟨g,cap,I,e,J,r⟩=>⟨g,cap,I,e,τ hb J,r⟩⟩,h.row,h.far⟩
theorem RG (a:A) (v d0 d1:Value) (bs b2:List Nat) (w:World) (h:ay w [v] [] bs) (h2:aK w [d0,d1] a b2) (hs:gB []=true):
  Calls Tryz.prog 49 #[v,.agg #[d0,d1]] w (Jy (bs ++ b2) [] (fD [] a) v w.heap.size w):=by
 obtain ⟨Ad,cap,rfl,hl,hm⟩:=aj h;obtain ⟨Aa,ca,rfl,rfl⟩:=bY h2;obtain ⟨i0,hi,a3,a4,a5⟩:=info_parts qK;have c4:=aB hm;have hA:Below w.heap.size w (w.alloc (.cells #[.string a.name,.slice Aa a.args.length ca] 33)):=ζ;have hk:=yF [] a _ _ _ bs b2 _ (ak.below h hA) (au.below h2 hA) hs;have HX:Hid (fD [] a = [] ++ [a] ++ []):=η rfl;have e1:pl [] a=0:=rfl;have e2:hasB [] a=false:=rfl;rw [e1,e2] at hk;simp only [List.length_nil] at hk hl ⊢;have av:=au.lt h2;clear e1 e2
 go_enter Tryz.func49,Tryz.ntmps49
 go_wp2_with fail
 refine hk.mono ?_;rintro e y ⟨rfl,aw⟩;have B1:=hA.trans (aw.mono hA.size);have x0:y.cell? ⟨w.heap.size,0,none⟩=some (.string a.name):=ξ aw (by go_simp);have x1:y.cell? ⟨w.heap.size,1,none⟩=some (.slice Aa a.args.length ca):=ξ aw (by go_simp);clear hk;have H5:Hid (0+0≤maxLen):=η (by unfold maxLen; omega);have H6:Hid ((0+0) * 40≤140737488355328):=η (by omega);have H8:Hid (0+1≤maxLen):=η (by unfold maxLen; omega);have H9:Hid ((0+1) * 40≤140737488355328):=η (by omega);have bp:Hid (1+0≤maxLen):=η (by unfold maxLen; omega);have bq:Hid ((1+0) * 40≤140737488355328):=η (by omega);have c5:(0:Int)≤(cap:Int):=by omega
 have ae:Hid (∀ (v:Value),∀ c ∈ ([]:List Nat),v.ownBlock ≠ some c):=η (fun v c hc=>by simp at hc);have af:Hid (∀ w',aW 2 aK w' [] [] []):=η (fun w'=>aW.nil);have ag:Hid (∀ w' Ad,Lies w' Ad []):=η (fun w' Ad=>Lies.nil w' Ad);have br:Hid (((y.alloc (.cells #[] 33)).alloc (.cells #[.string a.name,.slice Aa a.args.length ca] 33)).heap[y.heap.size+1]? = some (.cells #[.string a.name,.slice Aa a.args.length ca] 33 (0,0))):=η (by have:=ω (y.alloc (.cells #[] 33)) (.cells #[.string a.name,.slice Aa a.args.length ca] 33); rw [World.size_alloc] at this; exact this);have bt:Hid (((y.alloc (.cells #[.string a.name,.slice Aa a.args.length ca] 33)).alloc (.cells #[] 33)).heap[y.heap.size]? = some (.cells #[.string a.name,.slice Aa a.args.length ca] 33 (0,0))):=η (by rw [Below.heap_alloc _ _ _ (by simp)]; exact ω _ _);have b3:=au.below h2 B1
 have b5:Below y.heap.size y ((y.alloc (.cells #[] 33)).alloc (.cells #[.string a.name,.slice Aa a.args.length ca] 33)).drew:=((ζ).alloc (by simp) _).drew;have b6:=bK.empty (n:=2) (R:=aK) (e:=33) (w:=((y.alloc (.cells #[] 33)).alloc (.cells #[.string a.name,.slice Aa a.args.length ca] 33)).drew) (g:=y.heap.size) (base:=y.heap.size) (show ((y.alloc (.cells #[] 33)).alloc (.cells #[.string a.name,.slice Aa a.args.length ca] 33)).heap[y.heap.size]? = _ by rw [Below.heap_alloc _ _ _ (by simp)]; exact ω _ _) (by omega);have b7:=η b5;have bu:=η b6;clear b5 b6;have b8:Below y.heap.size y ((y.alloc (.cells #[.string a.name,.slice Aa a.args.length ca] 33)).alloc (.cells #[] 33)).drew:=((ζ).alloc (by simp) _).drew
 have b9:=bK.empty (n:=2) (R:=aK) (e:=33) (w:=((y.alloc (.cells #[.string a.name,.slice Aa a.args.length ca] 33)).alloc (.cells #[] 33)).drew) (g:=y.heap.size+1) (base:=y.heap.size) (show ((y.alloc (.cells #[.string a.name,.slice Aa a.args.length ca] 33)).alloc (.cells #[] 33)).heap[y.heap.size+1]? = _ by have:=ω (y.alloc (.cells #[.string a.name,.slice Aa a.args.length ca] 33)) (.cells #[] 33); rw [World.size_alloc] at this; exact this) (by omega);have bc:=η b8;have bv:=η b9;clear b8 b9;have bf:Below y.heap.size y (y.alloc (.cells #[] 33)).drew:=(ζ).drew;have bg:=bK.empty (n:=2) (R:=aK) (e:=33) (w:=(y.alloc (.cells #[] 33)).drew) (g:=y.heap.size) (base:=y.heap.size) (show (y.alloc (.cells #[] 33)).heap[y.heap.size]? = _ from ω _ _) (by omega);have bh:=η bf;have bw:=η bg;clear bf bg;have bx:Hid (∀ w',Below y.heap.size y w'→Below w.heap.size w w'):=η fun w' bz=>B1.trans (bz.mono B1.size)
 have az:=η b3;clear b3;have c6:w.heap.size < y.heap.size:=lt_of_cell x0;have bA:=η (own_ne (a:=y.heap.size+1) (b:=y.heap.size) (n:=0) (c:=0) (o:=0) (by omega));have bB:=η (own_ne (a:=y.heap.size) (b:=y.heap.size+1) (n:=0) (c:=0) (o:=0) (by omega));have bE:Hid (y.heap.size+1 < ((y.alloc (.cells #[] 33)).alloc (.cells #[.string a.name,.slice Aa a.args.length ca] 33)).drew.heap.size):=η (by simp);have bL:Hid (y.heap.size < ((y.alloc (.cells #[.string a.name,.slice Aa a.args.length ca] 33)).alloc (.cells #[] 33)).drew.heap.size):=η (by simp <;> omega);have H2:=η h2;have aD:Hid (∀ c ∈ b2,c < y.heap.size):=η fun c hc=>κ (av c hc) B1.size
 clear h h2 av;by_cases hce:cap=0
 case' pos=>
  have bO:(cap=0)=True:=eq_true hce;have bR:=η hce;clear hce
 case' neg=>
  have bO:(cap=0)=False:=eq_false hce;have bR:=η hce;clear hce
 all_goals
  go_wp2
  go_region_held3? (fun w'=>w'.cell? ⟨w.heap.size,0,none⟩=some (.string a.name)∧w'.cell? ⟨w.heap.size,1,none⟩=some (.slice Aa a.args.length ca)) (first | go_keep | exact ⟨q0,q1⟩ | exact ⟨r0,r1⟩ | exact ⟨s0,s1⟩) ((first
   | (refine aY ?_ (.tmp 15) (.tmp 18) _ ?_ y.heap.size 33 i0 (.agg #[.string ⟨#[]⟩,.slice none 0 0]) 2 40 Tryz.underlying24 hi a3 a4 a5 rfl (Θ 1) au (.slice (some ⟨y.heap.size,0,none⟩) 0 0) 0 [] [] [] ?_ bu.out rfl ?_ 0 ?_ [] [] [] ?_ (af.out _) rfl (ag.out _ _) (ae.out _) H5.out H6.out y y.heap.size b7.out ν b7.out.size ?_; rfl; rfl; rfl; rotate_left 2; rfl; rotate_left; intro A1 a8 w2 U I a0 a6; have q0:=ξ I x0; have q1:=ξ I x1; have aE:Hid (w2.heap[y.heap.size+1]? = some (.cells #[.string a.name,.slice Aa a.args.length ca] 33 (0,0))):=η ((a6.block _ bE.out bA.out).trans br.out); clear a6; have a9:=η (aV aE.out); have aa:=η (aW.dP (n:=2) (R:=aK) fJ (au.below az.out I)); have ab:=η (fun c hc=>aS U.own (aD.out c hc)); have am:=η U; have ao:=η I; have aq:=η a0; clear U I a0)
   | (refine aY ?_ (.tmp 15) (.tmp 18) _ ?_ y.heap.size 33 i0 (.agg #[.string ⟨#[]⟩,.slice none 0 0]) 2 40 Tryz.underlying24 hi a3 a4 a5 rfl (Θ 1) au (.slice (some ⟨y.heap.size+1,0,none⟩) 0 0) 0 [] [] [] ?_ bv.out rfl ?_ 0 ?_ [] [] [] ?_ (af.out _) rfl (ag.out _ _) (ae.out _) H5.out H6.out y y.heap.size bc.out ν bc.out.size ?_; rfl; rfl; rfl; rotate_left 2; rfl; rotate_left; intro A1 a8 w2 U I a0 a6; have q0:=ξ I x0; have q1:=ξ I x1; have aE:Hid (w2.heap[y.heap.size]? = some (.cells #[.string a.name,.slice Aa a.args.length ca] 33 (0,0))):=η ((a6.block _ bL.out bB.out).trans bt.out); clear a6; have a9:=η (aV aE.out); have aa:=η (aW.dP (n:=2) (R:=aK) fJ (au.below az.out I)); have ab:=η (fun c hc=>aS U.own (aD.out c hc)); have am:=η U; have ao:=η I; have aq:=η a0; clear U I a0)
   | (refine aY ?_ (.tmp 15) (.tmp 18) _ ?_ y.heap.size 33 i0 (.agg #[.string ⟨#[]⟩,.slice none 0 0]) 2 40 Tryz.underlying24 hi a3 a4 a5 rfl (Θ 1) au (.slice (some ⟨y.heap.size,0,none⟩) 0 0) 0 [] [] [] ?_ bw.out rfl ?_ 0 ?_ [] [] [] ?_ (af.out _) rfl (ag.out _ _) (ae.out _) H5.out H6.out y y.heap.size bh.out ν bh.out.size ?_; rfl; rfl; rfl; rotate_left 2; rfl; rotate_left; intro A1 a8 w2 U I a0 a6; have q0:=ξ I x0; have q1:=ξ I x1; skip; clear a6; have a7:Below y.heap.size y (w2.alloc (.cells #[.string a.name,.slice Aa a.args.length ca] 33)):=I.alloc I.size _; have bi:=η a7; have bj:=η (U.below au ((Below.refl w2.heap.size w2).alloc ν (.cells #[.string a.name,.slice Aa a.args.length ca] 33))); have bk:=η a7.size; have a9:=η (aV (ω w2 (.cells #[.string a.name,.slice Aa a.args.length ca] 33))); have aa:=η (aW.dP (n:=2) (R:=aK) fJ (au.below az.out a7)); have ab:=η (fun c hc=>aS U.own (aD.out c hc)); clear a7; have am:=η U; have ao:=η I; have aq:=η a0; clear U I a0)
   | (refine aY ?_ (.tmp 19) (.tmp 21) _ ?_ y.heap.size 33 i0 (.agg #[.string ⟨#[]⟩,.slice none 0 0]) 2 40 Tryz.underlying24 hi a3 a4 a5 rfl (Θ 1) au (.slice A1 (0+0) a8) (0+0) _ _ _ ?_ am.out rfl (some ⟨y.heap.size+1,0,none⟩) 1 1 _ [a] _ ?_ aa.out rfl a9.out ab.out H8.out H9.out y y.heap.size ao.out ν aq.out ?_; rfl; rfl; rfl; rfl; intro A2 aL w3 a1 J a2 ac; have r0:=ξ J x0; have r1:=ξ J x1; have aM:=η a1; have aR:=η J; have b1:=η a2; clear a1 J a2 ac)
   | (refine aY ?_ (.tmp 19) (.tmp 21) _ ?_ y.heap.size 33 i0 (.agg #[.string ⟨#[]⟩,.slice none 0 0]) 2 40 Tryz.underlying24 hi a3 a4 a5 rfl (Θ 1) au (.slice A1 (0+0) a8) (0+0) _ _ _ ?_ am.out rfl (some ⟨y.heap.size,0,none⟩) 1 1 _ [a] _ ?_ aa.out rfl a9.out ab.out H8.out H9.out y y.heap.size ao.out ν aq.out ?_; rfl; rfl; rfl; rfl; intro A2 aL w3 a1 J a2 ac; have r0:=ξ J x0; have r1:=ξ J x1; have aM:=η a1; have aR:=η J; have b1:=η a2; clear a1 J a2 ac)
   | (refine aY ?_ (.tmp 19) (.tmp 21) _ ?_ y.heap.size 33 i0 (.agg #[.string ⟨#[]⟩,.slice none 0 0]) 2 40 Tryz.underlying24 hi a3 a4 a5 rfl (Θ 1) au (.slice A1 (0+0) a8) (0+0) _ _ _ ?_ bj.out rfl (some ⟨w2.heap.size,0,none⟩) 1 1 _ [a] _ ?_ aa.out rfl a9.out ab.out H8.out H9.out y y.heap.size bi.out ν bk.out ?_; rfl; rfl; rfl; rfl; intro A2 aL w3 a1 J a2 ac; have r0:=ξ J x0; have r1:=ξ J x1; have aM:=η a1; have aR:=η J; have b1:=η a2; clear a1 J a2 ac)
   | (refine aY ?_ (.tmp 22) (.tmp 25) _ ?_ y.heap.size 33 i0 (.agg #[.string ⟨#[]⟩,.slice none 0 0]) 2 40 Tryz.underlying24 hi a3 a4 a5 rfl (Θ 1) au (.slice A2 (0+0+1) aL) (0+0+1) _ _ _ ?_ aM.out rfl ?_ 0 ?_ [] [] [] ?_ (af.out _) rfl (ag.out _ _) (ae.out _) bp.out bq.out y y.heap.size aR.out ν b1.out ?_; rfl; rfl; rfl; rotate_left 2; rfl; rotate_left; intro A3 c7 w4 bl ar bX _; have s0:=ξ ar x0; have s1:=ξ ar x1; have bn:=η bl; have c3:=η ar; clear bl ar bX)))
  all_goals
   obtain ⟨b4,bo,_⟩:=bn.out.slice;have HS:=η bo;clear bo;go_wp2;go_ret;exact ⟨bx.out _ c3.out,_,b4,rfl,by rw [HX.out]; exact HS.out,.inr ⟨_,_,by rw [HX.out]; exact bn.out.XL B1.size,fun c hc=>μ.2 (.inr (by simpa using hc))⟩⟩
def D.yX (L:List ByteArray) (s:ByteArray):Int:=(L.idxOf s:Nat)
theorem D.MC (rs:List Ru) (k:Nat) (h:k < rs.length):aO (rs.take (k+1))=ig (aO (rs.take k)) rs[k].head.name:=by
 unfold aO cO;rw [ρ h,List.map_append,List.foldl_append];rfl
theorem D.Xg {L:List ByteArray} {s:ByteArray} (h:s ∉ L):∀ t ∈ ig L s,(if t=s then (L.length:Int) else yX L t)=yX (ig L s) t:=fun t y=>by
 unfold yX ig at *;rw [if_neg h] at *;by_cases e:t=s
 ·subst e
  rw [if_pos rfl,List.idxOf_append,if_neg h];simp
 ·rw [if_neg e]
  have:t ∈ L:=by simpa [e] using y
  rw [List.idxOf_append,if_pos this]
theorem Fg (rs:List Ru) (v:Value) (bs:List Nat) (w:World) (h:fA w [v] rs bs) (hf:rs.length≤1000000):
  Calls Tryz.prog 191 #[v] w fun e w'=>e=.returned (.map (some w.heap.size))∧(∃ n,iQ w.heap.size n (aO rs) (yX (aO rs)) w')∧Below w.heap.size w w':=by
 obtain ⟨Ad,cap,rfl,hl,hm⟩:=aj h;have af:=aB (τ hl hm);have a8:=@run_makeMap Tryz.prog;have a2:=η (iQ.made w (yX []));have a3:Below w.heap.size w (w.alloc (.map #[] 0)):=ζ;have a4:=η a3;clear hl hm a3
 go_enter Tryz.func191,Tryz.ntmps191
 go_wp2;generalize w.alloc (.map #[] 0)=w0 at *
 go_loopw [11] (fun i wr=>∃ k:Nat,k≤rs.length∧i=.int .i64 k∧iQ w.heap.size k (aO (rs.take k)) (yX (aO (rs.take k))) wr∧Below w.heap.size w wr) (fun i _=>rs.length - (intOf i).toNat)
 case atStart=>exact ⟨0,ε,rfl,a2.out,a4.out⟩
 case round=>
  obtain ⟨k,hk,rfl,U,hB⟩:=hrel;clear a2 a4 a8;by_cases y:k < rs.length
  ·obtain ⟨b,o,Ae,ce,Af,cf,bk,rfl,_,d0,d1,d2,a5,_⟩:=iW h y
   replace d0:=ξ hB d0;replace d1:=ξ hB d1;replace d2:=ξ hB d2;have ag:(0:Int)≤(k:Int):=by omega
   have a9:(k:Int) < (rs.length:Int):=by omega
   have hA:Below wr.heap.size wr (wr.alloc (.cells #[.string rs[k].head.name,.slice Ae rs[k].head.args.length ce,.slice Af rs[k].body.length cf] 40)):=ζ;have I:=η y;have a0:=η (MC rs k y);have a1:Hid (rs[k].head.name.size≤maxLen):=η (by obtain ⟨_,_,_,_,_,hs,_⟩:=a5; exact hs);have HM:=η (U.below hA U.lt);have HB:=η (hB.trans (hA.mono hB.size));have aa:Hid ((aO (rs.take k)).length≤1000000):=η (by have:=U.Yg; omega);have ab:k < maxLen:=by unfold maxLen; omega
   clear h a5 hA U hB;generalize rs[k]=r at *;generalize aO (rs.take k)=L at *;clear y;obtain ⟨⟨nm,args⟩,body⟩:=r;dsimp only at *;by_cases J:nm ∈ L
   ·have HD:Hid (decide (nm ∈ L)=true):=η (decide_eq_true J)
    have HV:Hid ((if nm ∈ L then yX L nm else 0)=yX L nm):=η (if_pos J);have HP:Hid (aO (rs.take (k+1))=L):=η (by rw [a0.out]; unfold ig; rw [if_pos J]);clear J a0
    go_wp2_with (first | (at_lookup; refine dV _ rfl _ _ _ rfl Tryz.underlying116 _ _ L _ rfl HM.out nm rfl a1.out true HD.out _ HV.out ?_) | go_in)
    go_roundw
    case rel=>exact ⟨k+1,I.out,by go_num,by rw [HP.out]; exact HM.out.mono (Nat.le_succ k),HB.out⟩
    case measure=>have:=I.out; simp [intOf]; omega
   ·have HD:Hid (decide (nm ∈ L)=false):=η (decide_eq_false J)
    have HV:Hid ((if nm ∈ L then yX L nm else 0)=0):=η (if_neg J);have HI:=η (Xg J);have am:=aa.out;clear J
    go_wp2_with (first | (at_lookup; refine dV _ rfl _ _ _ rfl Tryz.underlying116 _ _ L _ rfl HM.out nm rfl a1.out false HD.out _ HV.out ?_) | (at_len; refine iK _ rfl _ _ rfl Tryz.underlying116 _ _ L _ rfl HM.out ?_) | (at_mapUpdate; refine lC _ rfl _ _ _ _ rfl Tryz.underlying116 _ _ L _ rfl HM.out nm rfl a1.out _ rfl ab (by omega) ?_; intro w1 a6 a7) | go_in)
    have ac:=η (a6.congr HI.out);have ae:=η (HB.out.grown a7 (by have:=HB.out.size; exact this) fun j hj=>by cases hj; exact ν);clear a6 a7;go_roundw
    case rel=>exact ⟨k+1,I.out,by go_num,by rw [a0.out]; exact ac.out,ae.out⟩
    case measure=>have:=I.out; simp [intOf]; omega
  ·have he:k=rs.length:=by omega
   have a9:¬ (k:Int) < (rs.length:Int):=by omega
   subst he;rw [ϕ ν] at U;have HM:=η U;clear U h;go_wp2;go_ret;exact ⟨rfl,⟨_,HM.out⟩,hB⟩
theorem D.below_drewN {B:Nat} {a w:World} (h:Below B a w) (n:Nat):Below B a (w.drewN n):=⟨h.os,h.tape,h.output,h.size,h.block⟩
theorem D.qp (a b:ByteArray):(a.toList == b.toList)=decide (a=b):=by
 rw [ByteArray.toList_eq,ByteArray.toList_eq,Bool.eq_iff_iff];simp only [beq_iff_eq,decide_eq_true_eq];exact ⟨bytes_inj,fun h=>by rw [h]⟩
theorem O4 (rs:List Ru) (v:Value) (bs:List Nat) (w:World) (h:fA w [v] rs bs) (hn:(aJ rs).length≤1000000):
  Calls Tryz.prog 167 #[v] w fun e w'=>e=.returned (.bool (kJ (aJ rs)))∧Below w.heap.size w w':=by
 obtain ⟨Ad,cap,rfl,hl,hm⟩:=aj h;have ac:=aB (τ hl hm);have c1:=Cj rs _ bs w h hn;generalize aJ rs=xs at *;clear hl hm h
 go_enter Tryz.func167,Tryz.ntmps167
 go_wp2_with fail
 refine c1.mono ?_;rintro e w1 ⟨hB,v1,b2,rfl,hx⟩;obtain ⟨A1,aa,rfl,a2,a3⟩:=aj hx;have ab:=aB (τ a2 a3);clear c1 a2 a3;go_wp2
 go_loopw [4] (fun i wr=>∃ k:Nat,k≤xs.length∧i=.int .i64 k∧(∀ i,(hi:i < xs.length)→i < k→∀ j,(hj:j < i)→clash xs[i] (xs[j]'(by omega))=false)∧Below w1.heap.size w1 wr) (fun i _=>xs.length - (intOf i).toNat)
 case atStart=>exact ⟨0,ε,rfl,fun i _ h=>by omega,ϑ⟩
 case round=>
  obtain ⟨k,hk,rfl,a0,hb⟩:=hrel;have HA:=η a0;have HB:=η hb;clear a0 hb;by_cases a1:k < xs.length
  ·have ae:(0:Int)≤(k:Int):=by omega
   have a8:(k:Int) < (xs.length:Int):=by omega
   go_wp2
   go_loopw [5] (fun i wr=>∃ j:Nat,j≤k∧i=.int .i64 j∧(∀ i,(hi:i < xs.length)→i < j→clash xs[k] xs[i]=false)∧Below w1.heap.size w1 wr) (fun i _=>k - (intOf i).toNat)
   case atStart=>exact ⟨0,ε,rfl,fun i _ h=>by omega,HB.out⟩
   case round=>
    obtain ⟨j,hj,rfl,hin,hb⟩:=hrel;have HI:=η hin;have U:=η hb;clear hin;by_cases a4:j < k
    ·have af:(0:Int)≤(j:Int):=by omega
     have a9:(j:Int) < (k:Int):=by omega
     have ag:(j:Int) < (xs.length:Int):=by omega
     have a5:j < xs.length:=by omega
     obtain ⟨b,o,Ae,ce,_,rfl,_,d0,d1,_,_⟩:=eG (ak.below hx hb) a1;obtain ⟨b',o',Af,cf,_,e9,_,f0,f1,_,_⟩:=eG (ak.below hx hb) a5;obtain ⟨rfl,rfl⟩:b=b'∧o=o':=by simpa using e9
     have J:=η (UN (xs:=xs) a1 a5)
     have I:Hid (clash xs[k] xs[j]=false→∀ i,(hi:i < xs.length)→i < j+1→clash xs[k] xs[i]=false):=η fun h i h9 hi=>by
      by_cases e:i=j
      ·subst e; exact h
      ·exact HI.out i h9 (by omega)
     have HC:Hid (clash xs[k] xs[j]=(decide (xs[k].name=xs[j].name) && decide (xs[k].args.length ≠ xs[j].args.length))):=η rfl;clear hx hb e9;generalize xs[k]=x at *;generalize xs[j]=y at *;obtain ⟨xn,xa⟩:=x;obtain ⟨yn,ya⟩:=y;dsimp only at *;cases hs:(xn.toList == yn.toList)
     ·have HZ:=η (I.out (by rw [HC.out,← qp,hs]; rfl))
      clear I J HC HI HA HB;go_wp2
      go_quiet (fail)
      go_wp2;go_roundw
      case rel=>exact ⟨j+1,a4,by go_num,HZ.out,below_drewN U.out _⟩
      case measure=>simp [intOf]; omega
     ·by_cases a6:xa.length=ya.length
      ·have HZ:=η (I.out (by rw [HC.out,a6]; simp))
       have hd:(xa.length:Int)=(ya.length:Int):=by omega
       clear I J HC HI HA HB;go_wp2
       go_quiet (fail)
       go_wp2;go_roundw
       case rel=>exact ⟨j+1,a4,by go_num,HZ.out,below_drewN U.out _⟩
       case measure=>simp [intOf]; omega
      ·have HZ:=η (J.out (by rw [HC.out,← qp,hs]; simpa using a6))
       have hd:¬ (xa.length:Int)=(ya.length:Int):=by omega
       have a7:=η hB;clear I J HC HI HA HB;go_wp2
       go_quiet (fail)
       go_wp2;go_ret;exact ⟨aH HZ.out.symm,a7.out.trans ((below_drewN U.out _).mono a7.out.size)⟩
    ·have he:j=k:=by omega
     have a9:¬ (j:Int) < (k:Int):=by omega
     have HZ:Hid (∀ i,(hi:i < xs.length)→i < k+1→∀ j,(hj:j < i)→clash xs[i] (xs[j]'(by omega))=false):=η fun i hi h1 j2 h2=>by
      by_cases e:i=k
      ·subst e; exact HI.out j2 (by omega) (by omega)
      ·exact HA.out i hi (by omega) j2 h2
     clear HI HA HB he;go_wp2;go_roundw
     case rel=>exact ⟨k+1,a1,by go_num,HZ.out,U.out⟩
     case measure=>simp [intOf]; omega
  ·have he:k=xs.length:=by omega
   have a8:¬ (k:Int) < (xs.length:Int):=by omega
   have HZ:Hid (kJ xs=true):=η (Ro fun i hi j hj=>HA.out i hi (by omega) j hj);clear HA hx;go_wp2;go_ret;exact ⟨aH HZ.out.symm,hB.trans (HB.out.mono hB.size)⟩
end Go.Proofs.YtkjinanbccloeaaGreatDoor
