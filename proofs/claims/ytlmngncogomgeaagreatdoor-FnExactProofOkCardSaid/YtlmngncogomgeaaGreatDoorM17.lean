/- Of the proof of FnExactProofOk: FillS, L3N, ArgsS. -/
import Derived.Test.YtlmngncogomgeaaGreatDoorM14
import Derived.Test.YtlmngncogomgeaaGreatDoorM12
set_option linter.unusedVariables false
set_option maxHeartbeats 4000000
set_option maxRecDepth 100000
namespace Go.Proofs.YtlmngncogomgeaaGreatDoor
open Go.RowKit D
attribute [local go_sem ↓] Go.wp_at_zero Go.wp_at_succ
theorem OI:(Tryz.prog.info? 154).map (fun i=>(i.zero,i.size,i.bytes))=some (some (.agg #[.bool false,.string ⟨#[]⟩]),2,24):=by kernel_rfl
theorem D.Us {b:Bd} {n:ByteArray} {w:World} {cs:List Value} {I:List Nat} (h:iC w cs b I):(iR b n).size≤maxLen:=by
 obtain ⟨x0,x1,b1,b2,rfl,rfl,h1,J⟩:=h;have U:=vw J;unfold iR
 have:∀ (b:Bd) (v:ByteArray),eY b n=some v→v ∈ b.map (·.2):=by
  intro b
  induction b with
  | nil=>intro v h; cases h
  | cons p b ih=>
   intro v h;rw [eY] at h;by_cases y:p.1=n
   ·rw [if_pos y] at h
    cases h;exact Γ
   ·rw [if_neg y] at h
    exact Δ _ (ih v h)
 cases hg:eY b n with
 | none=>exact ε
 | some v=>exact U v (this b v hg)
structure D.CJ (w:World) (x:A) (Ad:Option Addr) (cap:Nat) (c0 c1 v:Value) (L:List Value) (ts:List T) (wr:World):Prop where
 a_:wr.heap[w.heap.size]? = some (.cells #[.string x.name,.slice Ad x.args.length cap] 40 (0,0))
 b_:wr.heap[w.heap.size+1]? = some (.cells #[c0,c1] 198 (0,0))
 r_:wr.heap[w.heap.size+2]? = some (.cells #[.string ⟨#[]⟩,.slice none 0 0] 40 (0,0))
 o_:wr.heap[w.heap.size+3]? = some (.cells #[.string x.name,v] 40 (0,0))
 c_:cu 2 kQ (w.heap.size+4) 154 wr v L ts []
 bel:Below w.heap.size w wr
theorem D.CJ.below {w:World} {x:A} {I:Option Addr} {cap:Nat} {J c1 v:Value} {L:List Value} {U:List T} {wr w':World} (h:CJ w x I cap J c1 v L U wr) (y:Below wr.heap.size wr w'):CJ w x I cap J c1 v L U w':=
 ⟨by rw [y.block _ (ψ h.a_)]; exact h.a_,by rw [y.block _ (ψ h.b_)]; exact h.b_,by rw [y.block _ (ψ h.r_)]; exact h.r_,by rw [y.block _ (ψ h.o_)]; exact h.o_,h.c_.below dV y,h.bel.trans (y.mono h.bel.size)⟩
theorem D.CJ.set {w:World} {x:A} {J:Option Addr} {cap:Nat} {U c1 v:Value} {L:List Value} {ts:List T} {wr:World} (h:CJ w x J cap U c1 v L ts wr) (M o:Nat) (u:Value) (hM:w.heap.size+4≤M) (y:v.ownBlock ≠ some M):CJ w x J cap U c1 v L ts (wr.setCell ⟨M,o,none⟩ u):=by
 have hk:∀ k,k ≠ M→(wr.setCell ⟨M,o,none⟩ u).heap[k]? = wr.heap[k]?:=fun k hk=>π _ _ _ _ hk
 refine ⟨by rw [hk _ (by omega)]; exact h.a_,by rw [hk _ (by omega)]; exact h.b_,by rw [hk _ (by omega)]; exact h.r_,by rw [hk _ (by omega)]; exact h.o_,?_,h.bel.setCell (by show w.heap.size≤M; omega) u⟩;exact ⟨qP h.c_.own fun b I=>hk b fun e=>y (e ▸ I),h.c_.row.keep dV fun b I=>(by cases I),h.c_.far⟩
theorem D.CJ.app {w:World} {x:A} {Ad:Option Addr} {cap:Nat} {c0 c1 v I:Value} {L L4:List Value} {ts J:List T} {wr y:World} (h:CJ w x Ad cap c0 c1 v L ts wr) (hC:cu 2 kQ (w.heap.size+4) 154 y I L4 J []) (hk:Below (w.heap.size+4) wr y):
  y.cell? ⟨w.heap.size+3,1,none⟩=some v∧y.frozen? ⟨w.heap.size+3,1,none⟩=false∧CJ w x Ad cap c0 c1 I L4 J (y.setCell ⟨w.heap.size+3,1,none⟩ I):=by
 have b0:=(hk.block w.heap.size (by omega)).trans h.a_;have b1:=(hk.block (w.heap.size+1) (by omega)).trans h.b_;have b2:=(hk.block (w.heap.size+2) (by omega)).trans h.r_;have U:=(hk.block (w.heap.size+3) (by omega)).trans h.o_;have hs:∀ k,k ≠ w.heap.size+3→(y.setCell ⟨w.heap.size+3,1,none⟩ I).heap[k]? = y.heap[k]?:=fun k hk=>π _ _ _ _ hk
 refine ⟨aj U,aB U,⟨(hs _ (by omega)).trans b0,(hs _ (by omega)).trans b1,(hs _ (by omega)).trans b2,Aq U,hC.Bg dV (aO hC.own (by omega)) (by simp),?_⟩⟩;exact (h.bel.trans (hk.mono (by omega))).setCell (by show w.heap.size≤w.heap.size+3; omega) I
theorem CO (x:A) (b:Bd) (a0 a1 c0 c1:Value) (ba bs:List Nat) (w:World) (ha:aP w [a0,a1] x ba) (h:iC w [c0,c1] b bs) (hx:x.args.length≤1000000):
  Calls Tryz.prog 131 #[.agg #[a0,a1],.agg #[c0,c1]] w fun e w'=>Below w.heap.size w w'∧∃ d0 d1 bs',e=.returned (.agg #[d0,d1])∧aP w' [d0,d1] (aY x b) bs'∧∀ c ∈ bs',w.heap.size≤c:=by
 obtain ⟨s,a4,av,ht⟩:=ha;simp only [List.cons.injEq,and_true] at a4;obtain ⟨rfl,rfl⟩:=a4;obtain ⟨Ad,cap,rfl,hl,hm⟩:=ai ht;obtain ⟨A1,p1,A2,p2,a4⟩:=jD h;simp only [List.cons.injEq,and_true] at a4;obtain ⟨rfl,rfl⟩:=a4;obtain ⟨i0,hi,aw,az,aD⟩:=info_parts OI;clear hm;have H:=η h;have HT:=η ht;have aE:=η fun n=>Us (n:=n) h
 have ab:CJ w x Ad cap (.slice A1 b.length p1) (.slice A2 b.length p2) (.slice none 0 0) [] [] ((((w.alloc (.cells #[.string x.name,.slice Ad x.args.length cap] 40)).alloc (.cells #[.slice A1 b.length p1,.slice A2 b.length p2] 198)).alloc (.cells #[.string ⟨#[]⟩,.slice none 0 0] 40)).alloc (.cells #[.string x.name,.slice none 0 0] 40)):=by
  refine ⟨?_,?_,?_,?_,cu.nil _,(((ζ).alloc (by simp) _).alloc (by simp; omega) _).alloc (by simp; omega) _⟩
  ·rw [Below.heap_alloc _ _ _ (by simp; omega),Below.heap_alloc _ _ _ (by simp; omega),Below.heap_alloc _ _ _ (by simp)]
   exact ω w _
  ·rw [Below.heap_alloc _ _ _ (by first | (simp; done) | (simp; omega)),Below.heap_alloc _ _ _ (by first | (simp; done) | (simp; omega))]
   simpa using ω (w.alloc (.cells #[.string x.name,.slice Ad x.args.length cap] 40)) (.cells #[.slice A1 b.length p1,.slice A2 b.length p2] 198)
  ·rw [Below.heap_alloc _ _ _ (by simp)]
   simpa using ω ((w.alloc (.cells #[.string x.name,.slice Ad x.args.length cap] 40)).alloc (.cells #[.slice A1 b.length p1,.slice A2 b.length p2] 198)) (.cells #[.string ⟨#[]⟩,.slice none 0 0] 40)
  ·simpa using ω (((w.alloc (.cells #[.string x.name,.slice Ad x.args.length cap] 40)).alloc (.cells #[.slice A1 b.length p1,.slice A2 b.length p2] 198)).alloc (.cells #[.string ⟨#[]⟩,.slice none 0 0] 40)) (.cells #[.string x.name,.slice none 0 0] 40)
 have ac:=η ab;clear h ht ab
 go_enter Tryz.func131,Tryz.ntmps131
 go_wp2_with fail
 generalize (((w.alloc (.cells #[.string x.name,.slice Ad x.args.length cap] 40)).alloc (.cells #[.slice A1 b.length p1,.slice A2 b.length p2] 198)).alloc (.cells #[.string ⟨#[]⟩,.slice none 0 0] 40)).alloc (.cells #[.string x.name,.slice none 0 0] 40)=w0 at *
 go_loopw [6,7] (fun i _ wr=>∃ (k:Nat) (Av:Option Addr) (cv:Nat) (L:List Value),k≤x.args.length∧i=.int .i64 k∧Hid (CJ w x Ad cap (.slice A1 b.length p1) (.slice A2 b.length p2) (.slice Av k cv) L ((x.args.take k).map (dw b)) wr)) (fun i _ _=>x.args.length - (intOf i).toNat)
 case atStart=>exact ⟨0,none,0,[],ε,rfl,ac⟩
 case round=>
  obtain ⟨k,Av,cv,L,hk,rfl,U⟩:=hrel;clear ac;by_cases a5:k < x.args.length
  ·obtain ⟨d,o,rfl,_,e0,e1,ae⟩:=dN (aG.below HT.out U.out.bel) a5
   have bg:(0:Int)≤(k:Int):=by omega
   have aL:(k:Int) < (x.args.length:Int):=by omega
   have aM:Hid ((x.args.take (k+1)).map (dw b)=(x.args.take k).map (dw b) ++ [dw b x.args[k]]):=η (by rw [ρ a5,List.map_append]; rfl);have aR:Hid (((x.args.take k).map (dw b)).length=k):=η (by simp; omega);have af:=η a5;have y1:wr.cell? ⟨w.heap.size,1,none⟩=some (.slice (some ⟨d,o,none⟩) x.args.length cap):=aj U.out.a_;have z0:wr.cell? ⟨w.heap.size+1,0,none⟩=some (.slice A1 b.length p1):=aj U.out.b_;have z1:wr.cell? ⟨w.heap.size+1,1,none⟩=some (.slice A2 b.length p2):=aj U.out.b_;have b1:w.heap.size+4≤wr.heap.size:=by have:=ψ U.out.o_; omega
   have n0:w.heap.size < wr.heap.size:=by omega
   have n1:w.heap.size+1 < wr.heap.size:=by omega
   have n3:w.heap.size+1+1+1 < wr.heap.size:=by omega
   have nd:d < wr.heap.size:=lt_of_cell e0;generalize x.args[k]=t at *;clear a5 hk;obtain ⟨tv,I⟩:=t;dsimp only at *;have hA:Below wr.heap.size wr (wr.alloc (.cells #[.bool false,.string I] 154)):=ζ;have hX:=ω wr (.cells #[.bool false,.string I] 154);have a9:=U.out.below hA;have ag:∀ M,wr.heap.size≤M→(Value.slice Av k cv).ownBlock ≠ some M:=fun M hM e=>by have:=(ja U.out.c_.own M e).2; omega
   cases tv
   case' true=>
    have q:=fun w' (hb:Below wr.heap.size wr w')=>get_any b I _ _ bs w' (bJ.below H.out (U.out.bel.trans (hb.mono U.out.bel.size)))
    go_wp2_with fail
    have a2:∀ y,Below (World.drew (wr.alloc (.cells #[.bool false,.string I] 154))).heap.size (World.drew (wr.alloc (.cells #[.bool false,.string I] 154))) y→Below wr.heap.size wr y:=fun y J=>hA.drew.trans (J.mono hA.size)
    have a6:∀ y,Below (World.drew (wr.alloc (.cells #[.bool false,.string I] 154))).heap.size (World.drew (wr.alloc (.cells #[.bool false,.string I] 154))) y→y.heap[wr.heap.size]? = some (.cells #[.bool false,.string I] 154 (0,0)):=fun y J=>(J.block _ (by show wr.heap.size < (World.alloc wr _).heap.size; simp)).trans hX
    have hK:∀ y,Below (World.drew (wr.alloc (.cells #[.bool false,.string I] 154))).heap.size (World.drew (wr.alloc (.cells #[.bool false,.string I] 154))) y→y.cell? ⟨w.heap.size,1,none⟩=some (.slice (some ⟨d,o,none⟩) x.args.length cap)∧y.cell? ⟨w.heap.size+1,0,none⟩=some (.slice A1 b.length p1)∧y.cell? ⟨w.heap.size+1,1,none⟩=some (.slice A2 b.length p2)∧y.cell? ⟨d,o+k * 2+1,none⟩=some (.string I)∧y.cell? ⟨wr.heap.size,1,none⟩=some (.string I)∧y.frozen? ⟨wr.heap.size,1,none⟩=false:=fun y J=>
     ⟨ξ (a2 y J) y1,ξ (a2 y J) z0,ξ (a2 y J) z1,ξ (a2 y J) e1,aj (a6 y J),aB (a6 y J)⟩
    have am:∀ y:World,(y.cell? ⟨w.heap.size,1,none⟩=some (.slice (some ⟨d,o,none⟩) x.args.length cap)∧y.cell? ⟨w.heap.size+1,0,none⟩=some (.slice A1 b.length p1)∧y.cell? ⟨w.heap.size+1,1,none⟩=some (.slice A2 b.length p2)∧y.cell? ⟨d,o+k * 2+1,none⟩=some (.string I))→((y.setCell ⟨wr.heap.size,1,none⟩ (.string (iR b I))).cell? ⟨w.heap.size,1,none⟩=some (.slice (some ⟨d,o,none⟩) x.args.length cap)∧(y.setCell ⟨wr.heap.size,1,none⟩ (.string (iR b I))).cell? ⟨w.heap.size+1,0,none⟩=some (.slice A1 b.length p1)∧(y.setCell ⟨wr.heap.size,1,none⟩ (.string (iR b I))).cell? ⟨w.heap.size+1,1,none⟩=some (.slice A2 b.length p2)∧(y.setCell ⟨wr.heap.size,1,none⟩ (.string (iR b I))).cell? ⟨d,o+k * 2+1,none⟩=some (.string I)):=fun y ⟨h1,h2,h3,h4⟩=>
     ⟨(World.cell?_of_block (w:=y) (π y ⟨wr.heap.size,1,none⟩ _ _ (by show w.heap.size ≠ wr.heap.size; omega))).trans h1,(World.cell?_of_block (w:=y) (π y ⟨wr.heap.size,1,none⟩ _ _ (by show w.heap.size+1 ≠ wr.heap.size; omega))).trans h2,(World.cell?_of_block (w:=y) (π y ⟨wr.heap.size,1,none⟩ _ _ (by show w.heap.size+1 ≠ wr.heap.size; omega))).trans h3,(World.cell?_of_block (w:=y) (π y ⟨wr.heap.size,1,none⟩ _ _ (by show d ≠ wr.heap.size; omega))).trans h4⟩
    go_region_held3 (fun w'=>w'.cell? ⟨w.heap.size,1,none⟩=some (.slice (some ⟨d,o,none⟩) x.args.length cap)∧w'.cell? ⟨w.heap.size+1,0,none⟩=some (.slice A1 b.length p1)∧w'.cell? ⟨w.heap.size+1,1,none⟩=some (.slice A2 b.length p2)∧w'.cell? ⟨d,o+k * 2+1,none⟩=some (.string I))
     (first | go_keep | exact hq | exact am _ hq)
     (first | (go_at_call 181; refine (q _ hA.drew).mono ?_; rintro e y ⟨rfl,J⟩; have ⟨j0,j1,j2,j3,j4,j5⟩:=hK y J; have hq:=ι j0 (ι j1 (ι j2 j3)); clear j0 j1 j2 j3))
    have HS:Hid (dw b ⟨true,I⟩=⟨false,iR b I⟩):=η rfl;have ao:Hid ((iR b I).size≤maxLen):=η (aE.out I);have a7:(y.setCell ⟨wr.heap.size,1,none⟩ (.string (iR b I))).heap[wr.heap.size]? = some (.cells #[.bool false,.string (iR b I)] 154 (0,0)):=Aq (a6 y J);have a3:=(U.out.below (a2 y J)).set wr.heap.size 1 (.string (iR b I)) b1 (ag _ ν);clear hK am a6 a2 hq q a9 j4 j5;generalize hvn:iR b I=nm' at *;generalize hwt:y.setCell ⟨wr.heap.size,1,none⟩ (.string nm')=wt at *;clear J hwt
   case' false=>
    have HS:Hid (dw b ⟨false,I⟩=⟨false,I⟩):=η rfl;have ao:=η ae
    go_upto_region 8 with fail
    have a7:=hX;have a3:=a9;generalize hwt:wr.alloc (.cells #[.bool false,.string I] 154)=wt at *;generalize hvn:I=nm' at *;clear a9 hwt
   all_goals
    have y3:wt.cell? ⟨w.heap.size+1+1+1,1,none⟩=some (.slice Av k cv):=aj a3.o_;have y4:wt.cell? ⟨wr.heap.size,0,none⟩=some (.bool false):=aj a7;have y5:wt.cell? ⟨wr.heap.size,1,none⟩=some (.string nm'):=aj a7;have a8:Below wt.heap.size wt (wt.alloc (.cells #[.bool false,.string nm'] 154)):=ζ;have ap:w.heap.size+4≤wt.heap.size:=by have:=ψ a3.o_; omega
    have HL:Hid (cu 2 kQ (w.heap.size+4) 154 (wt.alloc (.cells #[.bool false,.string nm'] 154)) (.slice Av k cv) L ((x.args.take k).map (dw b)) []∧aV 2 kQ (wt.alloc (.cells #[.bool false,.string nm'] 154)) [.bool false,.string nm'] [⟨false,nm'⟩] []∧Lies (wt.alloc (.cells #[.bool false,.string nm'] 154)) (some ⟨wt.heap.size,0,none⟩) [.bool false,.string nm']∧Below (w.heap.size+4) wt (wt.alloc (.cells #[.bool false,.string nm'] 154))∧w.heap.size+4≤(wt.alloc (.cells #[.bool false,.string nm'] 154)).heap.size):=
     η ⟨a3.c_.below dV a8,aV.dY tY ⟨rfl,ao.out,rfl⟩,aS (ω wt _),a8.mono ap,τ ap a8.size⟩
    have b3:Hid (k+1≤maxLen):=η (by unfold maxLen; omega);have b4:Hid ((k+1) * 24≤140737488355328):=η (by omega);have b5:=η a3;clear a3 a7 U y1 z0 z1 e0 e1 hA hX ag a8
    go_wp2_with (at_builtin; refine gU rfl _ _ _ rfl (w.heap.size+4) 154 i0 (.agg #[.bool false,.string ⟨#[]⟩]) 2 24 Tryz.underlying38 hi aw az aD rfl (Θ 1) dV (.slice Av k cv) k L _ [] rfl HL.out.1 aR.out (some ⟨wt.heap.size,0,none⟩) 1 1 _ [⟨false,nm'⟩] _ rfl HL.out.2.1 rfl HL.out.2.2.1 (fun b hb=>by simp at hb) b3.out b4.out wt (w.heap.size+4) HL.out.2.2.2.1 ν HL.out.2.2.2.2 ?_; intro A4 c4 w4 aq ar b6 b7; have HZ:=η (b5.out.app aq ar); have p1:=HZ.out.1; have p2:=HZ.out.2.1; clear aq ar b6 b7 y3 y4 y5)
    go_wp2;go_roundw
    case rel=>exact ⟨k+1,A4,c4,_,af.out,by go_num,by rw [aM.out,HS.out]; exact η HZ.out.2.2⟩
    case measure=>have:=af.out; simp [intOf]; omega
  ·have he:k=x.args.length:=by omega
   have aL:¬ (k:Int) < (x.args.length:Int):=by omega
   have y1:wr.cell? ⟨w.heap.size,1,none⟩=some (.slice Ad x.args.length cap):=aj U.out.a_;have y2:wr.cell? ⟨w.heap.size+1+1+1,0,none⟩=some (.string x.name):=aj U.out.o_;have y3:wr.cell? ⟨w.heap.size+1+1+1,1,none⟩=some (.slice Av k cv):=aj U.out.o_;have y4:wr.cell? ⟨w.heap.size+1+1,0,none⟩=some (.string ⟨#[]⟩):=aj U.out.r_;have y5:wr.cell? ⟨w.heap.size+1+1,1,none⟩=some (.slice none 0 0):=aj U.out.r_;have f4:wr.frozen? ⟨w.heap.size+1+1,0,none⟩=false:=aB U.out.r_;have f5:wr.frozen? ⟨w.heap.size+1+1,1,none⟩=false:=aB U.out.r_;have aa:=bY (o:=1) (u:=.slice Av k cv) (bY (o:=0) (u:=.string x.name) U.out.r_);have b8:((wr.setCell ⟨w.heap.size+1+1,0,none⟩ (.string x.name)).setCell ⟨w.heap.size+1+1,1,none⟩ (.slice Av k cv)).cell? ⟨w.heap.size+1+1,0,none⟩=some (.string x.name):=by simp [World.cell?,aa]
   have b9:((wr.setCell ⟨w.heap.size+1+1,0,none⟩ (.string x.name)).setCell ⟨w.heap.size+1+1,1,none⟩ (.slice Av k cv)).cell? ⟨w.heap.size+1+1,1,none⟩=some (.slice Av k cv):=by simp [World.cell?,aa]
   have HF:Hid (∃ bs',aP ((wr.setCell ⟨w.heap.size+1+1,0,none⟩ (.string x.name)).setCell ⟨w.heap.size+1+1,1,none⟩ (.slice Av k cv)) [.string x.name,.slice Av k cv] (aY x b) bs'∧∀ c ∈ bs',w.heap.size≤c):=η (by
    have hC:=(U.out.c_.Bg (b:=w.heap.size+2) (o:=0) (u:=.string x.name) dV (aO U.out.c_.own (by omega)) (by simp)).Bg (b:=w.heap.size+2) (o:=1) (u:=.slice Av k cv) dV (aO (U.out.c_.Bg (b:=w.heap.size+2) (o:=0) (u:=.string x.name) dV (aO U.out.c_.own (by omega)) (by simp)).own (by omega)) (by simp);obtain ⟨b2,h2,h3⟩:=hC.slice;refine ⟨b2,⟨.slice Av k cv,rfl,av,?_⟩,fun c hc=>(h3 c hc).elim (fun h=>by omega) fun h=>by cases h⟩;unfold aY;rw [he,ϕ ν] at h2;rw [he]
    exact h2)
   have HB:=η ((U.out.bel.setCell (p:=⟨w.heap.size+1+1,0,none⟩) (by show w.heap.size≤w.heap.size+1+1; omega) (.string x.name)).setCell (p:=⟨w.heap.size+1+1,1,none⟩) (by show w.heap.size≤w.heap.size+1+1; omega) (.slice Av k cv));clear U he hk aa;go_wp2;obtain ⟨bs',bc,bf⟩:=HF.out;exact bodyPost_ret (v:=.agg #[.string x.name,.slice Av k cv]) (by simp [results,Tryz.results131,go_sem,b8,b9]) rfl ⟨HB.out,_,_,rfl,bs',bc,bf⟩
def D.LZ (bb:List Nat) (xs y:List A) (v:Value) (B:Nat) (w:World) (e:Ending) (w':World):Prop:=
 Below B w w'∧∃ I U,e=.returned I∧aQ w' [I] y U∧((I=v∧y=xs)∨∃ L J,cu 2 aP B 40 w' I L y J∧∀ c ∈ J,c ∈ bb)
theorem D.cu.U4 {α:Type} {n:Nat} {R:Rel α} {base y e:Nat} {w:World} {v:Value} {L:List Value} {xs:List α} {J:List Nat} (h:cu n R base e w v L xs J) (U:y≤base):cu n R y e w v L xs J:=
 ⟨⟨h.own.1,h.own.2.imp id fun ⟨g,cap,I,e,hg,r⟩=>⟨g,cap,I,e,τ U hg,r⟩⟩,h.row,h.far⟩
theorem OJ (a:A) (v d0 d1:Value) (bs b2:List Nat) (w:World) (h:aQ w [v] [] bs) (h2:aP w [d0,d1] a b2) (hs:iF []=true):
  Calls Tryz.prog 161 #[v,.agg #[d0,d1]] w (LZ (bs ++ b2) [] (fC [] a) v w.heap.size w):=by
 obtain ⟨Ad,cap,rfl,hl,hm⟩:=ai h;obtain ⟨Aa,ca,rfl,rfl⟩:=bK h2;obtain ⟨i0,hi,a3,a4,a5⟩:=info_parts yA;have c0:=ay hm;have hA:Below w.heap.size w (w.alloc (.cells #[.string a.name,.slice Aa a.args.length ca] 40)):=ζ;have hk:=wP [] a _ _ _ bs b2 _ (au.below h hA) (ak.below h2 hA) hs;have HX:Hid (fC [] a = [] ++ [a] ++ []):=η rfl;have e1:pl [] a=0:=rfl;have e2:hasB [] a=false:=rfl;rw [e1,e2] at hk;simp only [List.length_nil] at hk hl ⊢;have ar:=ak.lt h2;clear e1 e2
 go_enter Tryz.func161,Tryz.ntmps161
 go_wp2_with fail
 refine hk.mono ?_;rintro e y ⟨rfl,av⟩;have B1:=hA.trans (av.mono hA.size);have x0:y.cell? ⟨w.heap.size,0,none⟩=some (.string a.name):=ξ av (by go_simp);have x1:y.cell? ⟨w.heap.size,1,none⟩=some (.slice Aa a.args.length ca):=ξ av (by go_simp);clear hk;have H5:Hid (0+0≤maxLen):=η (by unfold maxLen; omega);have H6:Hid ((0+0) * 40≤140737488355328):=η (by omega);have H8:Hid (0+1≤maxLen):=η (by unfold maxLen; omega);have H9:Hid ((0+1) * 40≤140737488355328):=η (by omega);have bo:Hid (1+0≤maxLen):=η (by unfold maxLen; omega);have bp:Hid ((1+0) * 40≤140737488355328):=η (by omega);have c3:(0:Int)≤(cap:Int):=by omega
 have ae:Hid (∀ (v:Value),∀ c ∈ ([]:List Nat),v.ownBlock ≠ some c):=η (fun v c hc=>by simp at hc);have af:Hid (∀ w',aV 2 aP w' [] [] []):=η (fun w'=>aV.nil);have ag:Hid (∀ w' Ad,Lies w' Ad []):=η (fun w' Ad=>Lies.nil w' Ad);have bq:Hid (((y.alloc (.cells #[] 40)).alloc (.cells #[.string a.name,.slice Aa a.args.length ca] 40)).heap[y.heap.size+1]? = some (.cells #[.string a.name,.slice Aa a.args.length ca] 40 (0,0))):=η (by have:=ω (y.alloc (.cells #[] 40)) (.cells #[.string a.name,.slice Aa a.args.length ca] 40); rw [World.size_alloc] at this; exact this);have br:Hid (((y.alloc (.cells #[.string a.name,.slice Aa a.args.length ca] 40)).alloc (.cells #[] 40)).heap[y.heap.size]? = some (.cells #[.string a.name,.slice Aa a.args.length ca] 40 (0,0))):=η (by rw [Below.heap_alloc _ _ _ (by simp)]; exact ω _ _);have b1:=ak.below h2 B1
 have b3:Below y.heap.size y ((y.alloc (.cells #[] 40)).alloc (.cells #[.string a.name,.slice Aa a.args.length ca] 40)).drew:=((ζ).alloc (by simp) _).drew;have b5:=cu.empty (n:=2) (R:=aP) (e:=40) (w:=((y.alloc (.cells #[] 40)).alloc (.cells #[.string a.name,.slice Aa a.args.length ca] 40)).drew) (g:=y.heap.size) (base:=y.heap.size) (show ((y.alloc (.cells #[] 40)).alloc (.cells #[.string a.name,.slice Aa a.args.length ca] 40)).heap[y.heap.size]? = _ by rw [Below.heap_alloc _ _ _ (by simp)]; exact ω _ _) (by omega);have b6:=η b3;have bt:=η b5;clear b3 b5;have b7:Below y.heap.size y ((y.alloc (.cells #[.string a.name,.slice Aa a.args.length ca] 40)).alloc (.cells #[] 40)).drew:=((ζ).alloc (by simp) _).drew
 have b8:=cu.empty (n:=2) (R:=aP) (e:=40) (w:=((y.alloc (.cells #[.string a.name,.slice Aa a.args.length ca] 40)).alloc (.cells #[] 40)).drew) (g:=y.heap.size+1) (base:=y.heap.size) (show ((y.alloc (.cells #[.string a.name,.slice Aa a.args.length ca] 40)).alloc (.cells #[] 40)).heap[y.heap.size+1]? = _ by have:=ω (y.alloc (.cells #[.string a.name,.slice Aa a.args.length ca] 40)) (.cells #[] 40); rw [World.size_alloc] at this; exact this) (by omega);have b9:=η b7;have bu:=η b8;clear b7 b8;have bc:Below y.heap.size y (y.alloc (.cells #[] 40)).drew:=(ζ).drew;have bf:=cu.empty (n:=2) (R:=aP) (e:=40) (w:=(y.alloc (.cells #[] 40)).drew) (g:=y.heap.size) (base:=y.heap.size) (show (y.alloc (.cells #[] 40)).heap[y.heap.size]? = _ from ω _ _) (by omega);have bg:=η bc;have bv:=η bf;clear bc bf;have bw:Hid (∀ w',Below y.heap.size y w'→Below w.heap.size w w'):=η fun w' bx=>B1.trans (bx.mono B1.size)
 have aw:=η b1;clear b1;have c4:w.heap.size < y.heap.size:=lt_of_cell x0;have bz:=η (own_ne (a:=y.heap.size+1) (b:=y.heap.size) (n:=0) (c:=0) (o:=0) (by omega));have bA:=η (own_ne (a:=y.heap.size) (b:=y.heap.size+1) (n:=0) (c:=0) (o:=0) (by omega));have bB:Hid (y.heap.size+1 < ((y.alloc (.cells #[] 40)).alloc (.cells #[.string a.name,.slice Aa a.args.length ca] 40)).drew.heap.size):=η (by simp);have bE:Hid (y.heap.size < ((y.alloc (.cells #[.string a.name,.slice Aa a.args.length ca] 40)).alloc (.cells #[] 40)).drew.heap.size):=η (by simp <;> omega);have H2:=η h2;have az:Hid (∀ c ∈ b2,c < y.heap.size):=η fun c hc=>κ (ar c hc) B1.size
 clear h h2 ar;by_cases hce:cap=0
 case' pos=>
  have bL:(cap=0)=True:=eq_true hce;have bO:=η hce;clear hce
 case' neg=>
  have bL:(cap=0)=False:=eq_false hce;have bO:=η hce;clear hce
 all_goals
  go_wp2
  go_region_held3? (fun w'=>w'.cell? ⟨w.heap.size,0,none⟩=some (.string a.name)∧w'.cell? ⟨w.heap.size,1,none⟩=some (.slice Aa a.args.length ca)) (first | go_keep | exact ⟨q0,q1⟩ | exact ⟨r0,r1⟩ | exact ⟨s0,s1⟩) ((first
   | (refine bG ?_ (.tmp 15) (.tmp 18) _ ?_ y.heap.size 40 i0 (.agg #[.string ⟨#[]⟩,.slice none 0 0]) 2 40 Tryz.underlying36 hi a3 a4 a5 rfl (Θ 1) ak (.slice (some ⟨y.heap.size,0,none⟩) 0 0) 0 [] [] [] ?_ bt.out rfl ?_ 0 ?_ [] [] [] ?_ (af.out _) rfl (ag.out _ _) (ae.out _) H5.out H6.out y y.heap.size b6.out ν b6.out.size ?_; rfl; rfl; rfl; rotate_left 2; rfl; rotate_left; intro A1 a8 w2 U I a0 a6; have q0:=ξ I x0; have q1:=ξ I x1; have aD:Hid (w2.heap[y.heap.size+1]? = some (.cells #[.string a.name,.slice Aa a.args.length ca] 40 (0,0))):=η ((a6.block _ bB.out bz.out).trans bq.out); clear a6; have a9:=η (aS aD.out); have aa:=η (aV.dY (n:=2) (R:=aP) fM (ak.below aw.out I)); have ab:=η (fun c hc=>aO U.own (az.out c hc)); have am:=η U; have ao:=η I; have ap:=η a0; clear U I a0)
   | (refine bG ?_ (.tmp 15) (.tmp 18) _ ?_ y.heap.size 40 i0 (.agg #[.string ⟨#[]⟩,.slice none 0 0]) 2 40 Tryz.underlying36 hi a3 a4 a5 rfl (Θ 1) ak (.slice (some ⟨y.heap.size+1,0,none⟩) 0 0) 0 [] [] [] ?_ bu.out rfl ?_ 0 ?_ [] [] [] ?_ (af.out _) rfl (ag.out _ _) (ae.out _) H5.out H6.out y y.heap.size b9.out ν b9.out.size ?_; rfl; rfl; rfl; rotate_left 2; rfl; rotate_left; intro A1 a8 w2 U I a0 a6; have q0:=ξ I x0; have q1:=ξ I x1; have aD:Hid (w2.heap[y.heap.size]? = some (.cells #[.string a.name,.slice Aa a.args.length ca] 40 (0,0))):=η ((a6.block _ bE.out bA.out).trans br.out); clear a6; have a9:=η (aS aD.out); have aa:=η (aV.dY (n:=2) (R:=aP) fM (ak.below aw.out I)); have ab:=η (fun c hc=>aO U.own (az.out c hc)); have am:=η U; have ao:=η I; have ap:=η a0; clear U I a0)
   | (refine bG ?_ (.tmp 15) (.tmp 18) _ ?_ y.heap.size 40 i0 (.agg #[.string ⟨#[]⟩,.slice none 0 0]) 2 40 Tryz.underlying36 hi a3 a4 a5 rfl (Θ 1) ak (.slice (some ⟨y.heap.size,0,none⟩) 0 0) 0 [] [] [] ?_ bv.out rfl ?_ 0 ?_ [] [] [] ?_ (af.out _) rfl (ag.out _ _) (ae.out _) H5.out H6.out y y.heap.size bg.out ν bg.out.size ?_; rfl; rfl; rfl; rotate_left 2; rfl; rotate_left; intro A1 a8 w2 U I a0 a6; have q0:=ξ I x0; have q1:=ξ I x1; skip; clear a6; have a7:Below y.heap.size y (w2.alloc (.cells #[.string a.name,.slice Aa a.args.length ca] 40)):=I.alloc I.size _; have bh:=η a7; have bi:=η (U.below ak ((Below.refl w2.heap.size w2).alloc ν (.cells #[.string a.name,.slice Aa a.args.length ca] 40))); have bj:=η a7.size; have a9:=η (aS (ω w2 (.cells #[.string a.name,.slice Aa a.args.length ca] 40))); have aa:=η (aV.dY (n:=2) (R:=aP) fM (ak.below aw.out a7)); have ab:=η (fun c hc=>aO U.own (az.out c hc)); clear a7; have am:=η U; have ao:=η I; have ap:=η a0; clear U I a0)
   | (refine bG ?_ (.tmp 19) (.tmp 21) _ ?_ y.heap.size 40 i0 (.agg #[.string ⟨#[]⟩,.slice none 0 0]) 2 40 Tryz.underlying36 hi a3 a4 a5 rfl (Θ 1) ak (.slice A1 (0+0) a8) (0+0) _ _ _ ?_ am.out rfl (some ⟨y.heap.size+1,0,none⟩) 1 1 _ [a] _ ?_ aa.out rfl a9.out ab.out H8.out H9.out y y.heap.size ao.out ν ap.out ?_; rfl; rfl; rfl; rfl; intro A2 aE w3 a1 J a2 ac; have r0:=ξ J x0; have r1:=ξ J x1; have aL:=η a1; have aM:=η J; have aR:=η a2; clear a1 J a2 ac)
   | (refine bG ?_ (.tmp 19) (.tmp 21) _ ?_ y.heap.size 40 i0 (.agg #[.string ⟨#[]⟩,.slice none 0 0]) 2 40 Tryz.underlying36 hi a3 a4 a5 rfl (Θ 1) ak (.slice A1 (0+0) a8) (0+0) _ _ _ ?_ am.out rfl (some ⟨y.heap.size,0,none⟩) 1 1 _ [a] _ ?_ aa.out rfl a9.out ab.out H8.out H9.out y y.heap.size ao.out ν ap.out ?_; rfl; rfl; rfl; rfl; intro A2 aE w3 a1 J a2 ac; have r0:=ξ J x0; have r1:=ξ J x1; have aL:=η a1; have aM:=η J; have aR:=η a2; clear a1 J a2 ac)
   | (refine bG ?_ (.tmp 19) (.tmp 21) _ ?_ y.heap.size 40 i0 (.agg #[.string ⟨#[]⟩,.slice none 0 0]) 2 40 Tryz.underlying36 hi a3 a4 a5 rfl (Θ 1) ak (.slice A1 (0+0) a8) (0+0) _ _ _ ?_ bi.out rfl (some ⟨w2.heap.size,0,none⟩) 1 1 _ [a] _ ?_ aa.out rfl a9.out ab.out H8.out H9.out y y.heap.size bh.out ν bj.out ?_; rfl; rfl; rfl; rfl; intro A2 aE w3 a1 J a2 ac; have r0:=ξ J x0; have r1:=ξ J x1; have aL:=η a1; have aM:=η J; have aR:=η a2; clear a1 J a2 ac)
   | (refine bG ?_ (.tmp 22) (.tmp 25) _ ?_ y.heap.size 40 i0 (.agg #[.string ⟨#[]⟩,.slice none 0 0]) 2 40 Tryz.underlying36 hi a3 a4 a5 rfl (Θ 1) ak (.slice A2 (0+0+1) aE) (0+0+1) _ _ _ ?_ aL.out rfl ?_ 0 ?_ [] [] [] ?_ (af.out _) rfl (ag.out _ _) (ae.out _) bo.out bp.out y y.heap.size aM.out ν aR.out ?_; rfl; rfl; rfl; rotate_left 2; rfl; rotate_left; intro A3 c5 w4 bk aq bR _; have s0:=ξ aq x0; have s1:=ξ aq x1; have bl:=η bk; have bX:=η aq; clear bk aq bR)))
  all_goals
   obtain ⟨b4,bn,_⟩:=bl.out.slice;have HS:=η bn;clear bn;go_wp2;go_ret;exact ⟨bw.out _ bX.out,_,b4,rfl,by rw [HX.out]; exact HS.out,.inr ⟨_,_,by rw [HX.out]; exact bl.out.U4 B1.size,fun c hc=>μ.2 (.inr (by simpa using hc))⟩⟩
theorem D.below_drewN {B:Nat} {a w:World} (h:Below B a w) (n:Nat):Below B a (w.drewN n):=⟨h.os,h.tape,h.output,h.size,h.block⟩
theorem D.nU (a b:ByteArray):(a.toList == b.toList)=decide (a=b):=by
 rw [ByteArray.toList_eq,ByteArray.toList_eq,Bool.eq_iff_iff];simp only [beq_iff_eq,decide_eq_true_eq];exact ⟨bytes_inj,fun h=>by rw [h]⟩
theorem L6 (rs:List Ru) (v:Value) (bs:List Nat) (w:World) (h:dD w [v] rs bs) (hn:(aH rs).length≤1000000):
  Calls Tryz.prog 174 #[v] w fun e w'=>e=.returned (.bool (jC (aH rs)))∧Below w.heap.size w w':=by
 obtain ⟨Ad,cap,rfl,hl,hm⟩:=ai h;have ac:=ay (τ hl hm);have c1:=zH rs _ bs w h hn;generalize aH rs=xs at *;clear hl hm h
 go_enter Tryz.func174,Tryz.ntmps174
 go_wp2_with fail
 refine c1.mono ?_;rintro e w1 ⟨hB,v1,b2,rfl,hx⟩;obtain ⟨A1,aa,rfl,a2,a3⟩:=ai hx;have ab:=ay (τ a2 a3);clear c1 a2 a3;go_wp2
 go_loopw [4] (fun i wr=>∃ k:Nat,k≤xs.length∧i=.int .i64 k∧(∀ i,(hi:i < xs.length)→i < k→∀ j,(hj:j < i)→clash xs[i] (xs[j]'(by omega))=false)∧Below w1.heap.size w1 wr) (fun i _=>xs.length - (intOf i).toNat)
 case atStart=>exact ⟨0,ε,rfl,fun i _ h=>by omega,ϑ⟩
 case round=>
  obtain ⟨k,hk,rfl,a0,hb⟩:=hrel;have HA:=η a0;have HB:=η hb;clear a0 hb;by_cases a1:k < xs.length
  ·have ae:(0:Int)≤(k:Int):=by omega
   have a8:(k:Int) < (xs.length:Int):=by omega
   go_wp2
   go_loopw [5] (fun i wr=>∃ j:Nat,j≤k∧i=.int .i64 j∧(∀ i,(hi:i < xs.length)→i < j→clash xs[k] xs[i]=false)∧Below w1.heap.size w1 wr) (fun i _=>k - (intOf i).toNat)
   case atStart=>exact ⟨0,ε,rfl,fun i _ h=>by omega,HB.out⟩
   case round=>
    obtain ⟨j,hj,rfl,hin,hb⟩:=hrel;have HI:=η hin;have U:=η hb;clear hin;by_cases a4:j < k
    ·have af:(0:Int)≤(j:Int):=by omega
     have a9:(j:Int) < (k:Int):=by omega
     have ag:(j:Int) < (xs.length:Int):=by omega
     have a5:j < xs.length:=by omega
     obtain ⟨b,o,Ae,ce,_,rfl,_,d0,d1,_,_⟩:=dQ (au.below hx hb) a1;obtain ⟨b',o',Af,cf,_,e9,_,f0,f1,_,_⟩:=dQ (au.below hx hb) a5;obtain ⟨rfl,rfl⟩:b=b'∧o=o':=by simpa using e9
     have J:=η (QT (xs:=xs) a1 a5)
     have I:Hid (clash xs[k] xs[j]=false→∀ i,(hi:i < xs.length)→i < j+1→clash xs[k] xs[i]=false):=η fun h i h9 hi=>by
      by_cases e:i=j
      ·subst e; exact h
      ·exact HI.out i h9 (by omega)
     have HC:Hid (clash xs[k] xs[j]=(decide (xs[k].name=xs[j].name) && decide (xs[k].args.length ≠ xs[j].args.length))):=η rfl;clear hx hb e9;generalize xs[k]=x at *;generalize xs[j]=y at *;obtain ⟨xn,xa⟩:=x;obtain ⟨yn,ya⟩:=y;dsimp only at *;cases hs:(xn.toList == yn.toList)
     ·have HZ:=η (I.out (by rw [HC.out,← nU,hs]; rfl))
      clear I J HC HI HA HB;go_wp2
      go_quiet (fail)
      go_wp2;go_roundw
      case rel=>exact ⟨j+1,a4,by go_num,HZ.out,below_drewN U.out _⟩
      case measure=>simp [intOf]; omega
     ·by_cases a6:xa.length=ya.length
      ·have HZ:=η (I.out (by rw [HC.out,a6]; simp))
       have hd:(xa.length:Int)=(ya.length:Int):=by omega
       clear I J HC HI HA HB;go_wp2
       go_quiet (fail)
       go_wp2;go_roundw
       case rel=>exact ⟨j+1,a4,by go_num,HZ.out,below_drewN U.out _⟩
       case measure=>simp [intOf]; omega
      ·have HZ:=η (J.out (by rw [HC.out,← nU,hs]; simpa using a6))
       have hd:¬ (xa.length:Int)=(ya.length:Int):=by omega
       have a7:=η hB;clear I J HC HI HA HB;go_wp2
       go_quiet (fail)
       go_wp2;go_ret;exact ⟨aA HZ.out.symm,a7.out.trans ((below_drewN U.out _).mono a7.out.size)⟩
    ·have he:j=k:=by omega
     have a9:¬ (j:Int) < (k:Int):=by omega
     have HZ:Hid (∀ i,(hi:i < xs.length)→i < k+1→∀ j,(hj:j < i)→clash xs[i] (xs[j]'(by omega))=false):=η fun i hi h1 j2 h2=>by
      by_cases e:i=k
      ·subst e; exact HI.out j2 (by omega) (by omega)
      ·exact HA.out i hi (by omega) j2 h2
     clear HI HA HB he;go_wp2;go_roundw
     case rel=>exact ⟨k+1,a1,by go_num,HZ.out,U.out⟩
     case measure=>simp [intOf]; omega
  ·have he:k=xs.length:=by omega
   have a8:¬ (k:Int) < (xs.length:Int):=by omega
   have HZ:Hid (jC xs=true):=η (Ox fun i hi j hj=>HA.out i hi (by omega) j hj);clear HA hx;go_wp2;go_ret;exact ⟨aA HZ.out.symm,hB.trans (HB.out.mono hB.size)⟩
end Go.Proofs.YtlmngncogomgeaaGreatDoor
