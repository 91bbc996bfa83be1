/- Of the proof of FnEval,FnEvalOrder,FnEvalMore: FillS, L3N, HeadsI, ArgsS. -/
import Derived.Test.YtkjinanbccloeaaGreatDoorM13
import Derived.Test.YtkjinanbccloeaaGreatDoorM12
set_option linter.unusedVariables false
set_option maxHeartbeats 4000000
set_option maxRecDepth 100000
namespace Go.Proofs.YtkjinanbccloeaaGreatDoor
open Go.RowKit D
attribute [local go_sem ↓] Go.wp_at_zero Go.wp_at_succ
theorem QS:(Tryz.prog.info? 91).map (fun i=>(i.zero,i.size,i.bytes))=some (some (.agg #[.bool false,.string ⟨#[]⟩]),2,24):=by kernel_rfl
theorem D.WB {b:Bd} {n:ByteArray} {w:World} {cs:List Value} {bs:List Nat} (h:iU w cs b bs):(iO b n).size≤maxLen:=by
 obtain ⟨U,x1,b1,b2,rfl,rfl,h1,I⟩:=h;have J:=uU I;unfold iO
 have:∀ (b:Bd) (v:ByteArray),eU b n=some v→v ∈ b.map (·.2):=by
  intro b
  induction b with
  | nil=>intro v h; cases h
  | cons p b ih=>
   intro v h;rw [eU] at h;by_cases y:p.1=n
   ·rw [if_pos y] at h
    cases h;exact List.mem_cons_self ..
   ·rw [if_neg y] at h
    exact List.mem_cons_of_mem _ (ih v h)
 cases hg:eU b n with
 | none=>exact Nat.zero_le _
 | some v=>exact J v (this b v hg)
structure D.jK (w:World) (x:A) (Ad:Option Addr) (cap:Nat) (c0 c1 v:Value) (L:List Value) (ts:List T) (wr:World):Prop where
 a_:wr.heap[w.heap.size]? = some (.cells #[.string x.name,.slice Ad x.args.length cap] 33 (0,0))
 b_:wr.heap[w.heap.size+1]? = some (.cells #[c0,c1] 234 (0,0))
 r_:wr.heap[w.heap.size+2]? = some (.cells #[.string ⟨#[]⟩,.slice none 0 0] 33 (0,0))
 o_:wr.heap[w.heap.size+3]? = some (.cells #[.string x.name,v] 33 (0,0))
 c_:aY 2 iY (w.heap.size+4) 91 wr v L ts []
 bel:Below w.heap.size w wr
theorem D.jK.below {w:World} {x:A} {I:Option Addr} {cap:Nat} {J c1 v:Value} {L:List Value} {U:List T} {wr w':World} (h:jK w x I cap J c1 v L U wr) (y:Below wr.heap.size wr w'):jK w x I cap J c1 v L U w':=
 ⟨by rw [y.block _ (lt_of_block h.a_)]; exact h.a_,by rw [y.block _ (lt_of_block h.b_)]; exact h.b_,by rw [y.block _ (lt_of_block h.r_)]; exact h.r_,by rw [y.block _ (lt_of_block h.o_)]; exact h.o_,h.c_.below bD y,h.bel.trans (y.mono h.bel.size)⟩
theorem D.jK.set {w:World} {x:A} {U:Option Addr} {cap:Nat} {c0 c1 v:Value} {L:List Value} {ts:List T} {wr:World} (h:jK w x U cap c0 c1 v L ts wr) (M o:Nat) (u:Value) (hM:w.heap.size+4≤M) (I:v.ownBlock ≠ some M):jK w x U cap c0 c1 v L ts (wr.setCell ⟨M,o,none⟩ u):=by
 have y:∀ k,k ≠ M→(wr.setCell ⟨M,o,none⟩ u).heap[k]? = wr.heap[k]?:=fun k y=>Below.heap_setCell _ _ _ _ y
 refine ⟨by rw [y _ (by omega)]; exact h.a_,by rw [y _ (by omega)]; exact h.b_,by rw [y _ (by omega)]; exact h.r_,by rw [y _ (by omega)]; exact h.o_,?_,h.bel.setCell (by show w.heap.size≤M; omega) u⟩;exact ⟨qO h.c_.own fun b J=>y b fun e=>I (e ▸ J),h.c_.row.keep bD fun b J=>(by cases J),h.c_.far⟩
theorem D.jK.app {w:World} {x:A} {Ad:Option Addr} {cap:Nat} {c0 c1 v J:Value} {L L4:List Value} {ts U:List T} {wr y:World} (h:jK w x Ad cap c0 c1 v L ts wr) (hC:aY 2 iY (w.heap.size+4) 91 y J L4 U []) (I:Below (w.heap.size+4) wr y):
  y.cell? ⟨w.heap.size+3,1,none⟩=some v∧y.frozen? ⟨w.heap.size+3,1,none⟩=false∧jK w x Ad cap c0 c1 J L4 U (y.setCell ⟨w.heap.size+3,1,none⟩ J):=by
 have b0:=(I.block w.heap.size (by omega)).trans h.a_;have b1:=(I.block (w.heap.size+1) (by omega)).trans h.b_;have b2:=(I.block (w.heap.size+2) (by omega)).trans h.r_;have b3:=(I.block (w.heap.size+3) (by omega)).trans h.o_;have hs:∀ k,k ≠ w.heap.size+3→(y.setCell ⟨w.heap.size+3,1,none⟩ J).heap[k]? = y.heap[k]?:=fun k I=>Below.heap_setCell _ _ _ _ I
 refine ⟨ai b3,ax b3,⟨(hs _ (by omega)).trans b0,(hs _ (by omega)).trans b1,(hs _ (by omega)).trans b2,Bj b3,hC.l9 bD (aJ hC.own (by omega)) (by simp),?_⟩⟩;exact (h.bel.trans (I.mono (by omega))).setCell (by show w.heap.size≤w.heap.size+3; omega) J
theorem KD (x:A) (b:Bd) (a0 a1 c0 c1:Value) (ba bs:List Nat) (w:World) (ha:aG w [a0,a1] x ba) (h:iU w [c0,c1] b bs) (hx:x.args.length≤1000000):
  Calls Tryz.prog 172 #[.agg #[a0,a1],.agg #[c0,c1]] w fun e w'=>Below w.heap.size w w'∧∃ d0 d1 bs',e=.returned (.agg #[d0,d1])∧aG w' [d0,d1] (bK x b) bs'∧∀ c ∈ bs',w.heap.size≤c:=by
 obtain ⟨s,a4,av,ht⟩:=ha;simp only [List.cons.injEq,and_true] at a4;obtain ⟨rfl,rfl⟩:=a4;obtain ⟨Ad,cap,rfl,hl,hm⟩:=ak ht;obtain ⟨A1,p1,A2,p2,a4⟩:=lq h;simp only [List.cons.injEq,and_true] at a4;obtain ⟨rfl,rfl⟩:=a4;obtain ⟨i0,hi,aw,az,aD⟩:=info_parts QS;clear hm;have H:=η h;have HT:=η ht;have aE:=η fun n=>WB (n:=n) h
 have ab:jK w x Ad cap (.slice A1 b.length p1) (.slice A2 b.length p2) (.slice none 0 0) [] [] ((((w.alloc (.cells #[.string x.name,.slice Ad x.args.length cap] 33)).alloc (.cells #[.slice A1 b.length p1,.slice A2 b.length p2] 234)).alloc (.cells #[.string ⟨#[]⟩,.slice none 0 0] 33)).alloc (.cells #[.string x.name,.slice none 0 0] 33)):=by
  refine ⟨?_,?_,?_,?_,aY.nil _,((((Below.refl _ _).alloc (Nat.le_refl _) _).alloc (by simp) _).alloc (by simp; omega) _).alloc (by simp; omega) _⟩
  ·rw [Below.heap_alloc _ _ _ (by simp; omega),Below.heap_alloc _ _ _ (by simp; omega),Below.heap_alloc _ _ _ (by simp)]
   exact heap_alloc_new w _
  ·rw [Below.heap_alloc _ _ _ (by first | (simp; done) | (simp; omega)),Below.heap_alloc _ _ _ (by first | (simp; done) | (simp; omega))]
   simpa using heap_alloc_new (w.alloc (.cells #[.string x.name,.slice Ad x.args.length cap] 33)) (.cells #[.slice A1 b.length p1,.slice A2 b.length p2] 234)
  ·rw [Below.heap_alloc _ _ _ (by simp)]
   simpa using heap_alloc_new ((w.alloc (.cells #[.string x.name,.slice Ad x.args.length cap] 33)).alloc (.cells #[.slice A1 b.length p1,.slice A2 b.length p2] 234)) (.cells #[.string ⟨#[]⟩,.slice none 0 0] 33)
  ·simpa using heap_alloc_new (((w.alloc (.cells #[.string x.name,.slice Ad x.args.length cap] 33)).alloc (.cells #[.slice A1 b.length p1,.slice A2 b.length p2] 234)).alloc (.cells #[.string ⟨#[]⟩,.slice none 0 0] 33)) (.cells #[.string x.name,.slice none 0 0] 33)
 have ac:=η ab;clear h ht ab
 go_enter Tryz.func172,Tryz.ntmps172
 go_wp2_with fail
 generalize (((w.alloc (.cells #[.string x.name,.slice Ad x.args.length cap] 33)).alloc (.cells #[.slice A1 b.length p1,.slice A2 b.length p2] 234)).alloc (.cells #[.string ⟨#[]⟩,.slice none 0 0] 33)).alloc (.cells #[.string x.name,.slice none 0 0] 33)=w0 at *
 go_loopw [6,7] (fun i _ wr=>∃ (k:Nat) (Av:Option Addr) (cv:Nat) (L:List Value),k≤x.args.length∧i=.int .i64 k∧Hid (jK w x Ad cap (.slice A1 b.length p1) (.slice A2 b.length p2) (.slice Av k cv) L ((x.args.take k).map (dw b)) wr)) (fun i _ _=>x.args.length - (intOf i).toNat)
 case atStart=>exact ⟨0,none,0,[],Nat.zero_le _,rfl,ac⟩
 case round=>
  obtain ⟨k,Av,cv,L,hk,rfl,U⟩:=hrel;clear ac;by_cases a5:k < x.args.length
  ·obtain ⟨d,o,rfl,_,e0,e1,ae⟩:=dW (aO.below HT.out U.out.bel) a5
   have bg:(0:Int)≤(k:Int):=by omega
   have aL:(k:Int) < (x.args.length:Int):=by omega
   have aM:Hid ((x.args.take (k+1)).map (dw b)=(x.args.take k).map (dw b) ++ [dw b x.args[k]]):=η (by rw [List.take_succ_eq_append_getElem a5,List.map_append]; rfl);have aR:Hid (((x.args.take k).map (dw b)).length=k):=η (by simp; omega);have af:=η a5;have y1:wr.cell? ⟨w.heap.size,1,none⟩=some (.slice (some ⟨d,o,none⟩) x.args.length cap):=ai U.out.a_;have z0:wr.cell? ⟨w.heap.size+1,0,none⟩=some (.slice A1 b.length p1):=ai U.out.b_;have z1:wr.cell? ⟨w.heap.size+1,1,none⟩=some (.slice A2 b.length p2):=ai U.out.b_;have b1:w.heap.size+4≤wr.heap.size:=by have:=lt_of_block U.out.o_; omega
   have n0:w.heap.size < wr.heap.size:=by omega
   have n1:w.heap.size+1 < wr.heap.size:=by omega
   have n3:w.heap.size+1+1+1 < wr.heap.size:=by omega
   have nd:d < wr.heap.size:=lt_of_cell e0;generalize x.args[k]=t at *;clear a5 hk;obtain ⟨tv,I⟩:=t;dsimp only at *;have hA:Below wr.heap.size wr (wr.alloc (.cells #[.bool false,.string I] 91)):=(Below.refl _ _).alloc (Nat.le_refl _) _;have hX:=heap_alloc_new wr (.cells #[.bool false,.string I] 91);have a9:=U.out.below hA;have ag:∀ M,wr.heap.size≤M→(Value.slice Av k cv).ownBlock ≠ some M:=fun M hM e=>by have:=(jb U.out.c_.own M e).2; omega
   cases tv
   case' true=>
    have q:=fun w' (hb:Below wr.heap.size wr w')=>get_any b I _ _ bs w' (bY.below H.out (U.out.bel.trans (hb.mono U.out.bel.size)))
    go_wp2_with fail
    have a2:∀ y,Below (World.drew (wr.alloc (.cells #[.bool false,.string I] 91))).heap.size (World.drew (wr.alloc (.cells #[.bool false,.string I] 91))) y→Below wr.heap.size wr y:=fun y J=>hA.drew.trans (J.mono hA.size)
    have a6:∀ y,Below (World.drew (wr.alloc (.cells #[.bool false,.string I] 91))).heap.size (World.drew (wr.alloc (.cells #[.bool false,.string I] 91))) y→y.heap[wr.heap.size]? = some (.cells #[.bool false,.string I] 91 (0,0)):=fun y J=>(J.block _ (by show wr.heap.size < (World.alloc wr _).heap.size; simp)).trans hX
    have hK:∀ y,Below (World.drew (wr.alloc (.cells #[.bool false,.string I] 91))).heap.size (World.drew (wr.alloc (.cells #[.bool false,.string I] 91))) y→y.cell? ⟨w.heap.size,1,none⟩=some (.slice (some ⟨d,o,none⟩) x.args.length cap)∧y.cell? ⟨w.heap.size+1,0,none⟩=some (.slice A1 b.length p1)∧y.cell? ⟨w.heap.size+1,1,none⟩=some (.slice A2 b.length p2)∧y.cell? ⟨d,o+k * 2+1,none⟩=some (.string I)∧y.cell? ⟨wr.heap.size,1,none⟩=some (.string I)∧y.frozen? ⟨wr.heap.size,1,none⟩=false:=fun y J=>
     ⟨cell_later (a2 y J) y1,cell_later (a2 y J) z0,cell_later (a2 y J) z1,cell_later (a2 y J) e1,ai (a6 y J),ax (a6 y J)⟩
    have am:∀ y:World,(y.cell? ⟨w.heap.size,1,none⟩=some (.slice (some ⟨d,o,none⟩) x.args.length cap)∧y.cell? ⟨w.heap.size+1,0,none⟩=some (.slice A1 b.length p1)∧y.cell? ⟨w.heap.size+1,1,none⟩=some (.slice A2 b.length p2)∧y.cell? ⟨d,o+k * 2+1,none⟩=some (.string I))→((y.setCell ⟨wr.heap.size,1,none⟩ (.string (iO b I))).cell? ⟨w.heap.size,1,none⟩=some (.slice (some ⟨d,o,none⟩) x.args.length cap)∧(y.setCell ⟨wr.heap.size,1,none⟩ (.string (iO b I))).cell? ⟨w.heap.size+1,0,none⟩=some (.slice A1 b.length p1)∧(y.setCell ⟨wr.heap.size,1,none⟩ (.string (iO b I))).cell? ⟨w.heap.size+1,1,none⟩=some (.slice A2 b.length p2)∧(y.setCell ⟨wr.heap.size,1,none⟩ (.string (iO b I))).cell? ⟨d,o+k * 2+1,none⟩=some (.string I)):=fun y ⟨h1,h2,h3,h4⟩=>
     ⟨(World.cell?_of_block (w:=y) (Below.heap_setCell y ⟨wr.heap.size,1,none⟩ _ _ (by show w.heap.size ≠ wr.heap.size; omega))).trans h1,(World.cell?_of_block (w:=y) (Below.heap_setCell y ⟨wr.heap.size,1,none⟩ _ _ (by show w.heap.size+1 ≠ wr.heap.size; omega))).trans h2,(World.cell?_of_block (w:=y) (Below.heap_setCell y ⟨wr.heap.size,1,none⟩ _ _ (by show w.heap.size+1 ≠ wr.heap.size; omega))).trans h3,(World.cell?_of_block (w:=y) (Below.heap_setCell y ⟨wr.heap.size,1,none⟩ _ _ (by show d ≠ wr.heap.size; omega))).trans h4⟩
    go_region_held3 (fun w'=>w'.cell? ⟨w.heap.size,1,none⟩=some (.slice (some ⟨d,o,none⟩) x.args.length cap)∧w'.cell? ⟨w.heap.size+1,0,none⟩=some (.slice A1 b.length p1)∧w'.cell? ⟨w.heap.size+1,1,none⟩=some (.slice A2 b.length p2)∧w'.cell? ⟨d,o+k * 2+1,none⟩=some (.string I))
     (first | go_keep | exact hq | exact am _ hq)
     (first | (go_at_call 225; refine (q _ hA.drew).mono ?_; rintro e y ⟨rfl,J⟩; have ⟨j0,j1,j2,j3,j4,j5⟩:=hK y J; have hq:=And.intro j0 (And.intro j1 (And.intro j2 j3)); clear j0 j1 j2 j3))
    have HS:Hid (dw b ⟨true,I⟩=⟨false,iO b I⟩):=η rfl;have ao:Hid ((iO b I).size≤maxLen):=η (aE.out I);have a7:(y.setCell ⟨wr.heap.size,1,none⟩ (.string (iO b I))).heap[wr.heap.size]? = some (.cells #[.bool false,.string (iO b I)] 91 (0,0)):=Bj (a6 y J);have a3:=(U.out.below (a2 y J)).set wr.heap.size 1 (.string (iO b I)) b1 (ag _ (Nat.le_refl _));clear hK am a6 a2 hq q a9 j4 j5;generalize hvn:iO b I=nm' at *;generalize hwt:y.setCell ⟨wr.heap.size,1,none⟩ (.string nm')=wt at *;clear J hwt
   case' false=>
    have HS:Hid (dw b ⟨false,I⟩=⟨false,I⟩):=η rfl;have ao:=η ae
    go_upto_region 8 with fail
    have a7:=hX;have a3:=a9;generalize hwt:wr.alloc (.cells #[.bool false,.string I] 91)=wt at *;generalize hvn:I=nm' at *;clear a9 hwt
   all_goals
    have y3:wt.cell? ⟨w.heap.size+1+1+1,1,none⟩=some (.slice Av k cv):=ai a3.o_;have y4:wt.cell? ⟨wr.heap.size,0,none⟩=some (.bool false):=ai a7;have y5:wt.cell? ⟨wr.heap.size,1,none⟩=some (.string nm'):=ai a7;have a8:Below wt.heap.size wt (wt.alloc (.cells #[.bool false,.string nm'] 91)):=(Below.refl _ _).alloc (Nat.le_refl _) _;have ap:w.heap.size+4≤wt.heap.size:=by have:=lt_of_block a3.o_; omega
    have HL:Hid (aY 2 iY (w.heap.size+4) 91 (wt.alloc (.cells #[.bool false,.string nm'] 91)) (.slice Av k cv) L ((x.args.take k).map (dw b)) []∧aQ 2 iY (wt.alloc (.cells #[.bool false,.string nm'] 91)) [.bool false,.string nm'] [⟨false,nm'⟩] []∧Lies (wt.alloc (.cells #[.bool false,.string nm'] 91)) (some ⟨wt.heap.size,0,none⟩) [.bool false,.string nm']∧Below (w.heap.size+4) wt (wt.alloc (.cells #[.bool false,.string nm'] 91))∧w.heap.size+4≤(wt.alloc (.cells #[.bool false,.string nm'] 91)).heap.size):=
     η ⟨a3.c_.below bD a8,aQ.cZ jA ⟨rfl,ao.out,rfl⟩,aS (heap_alloc_new wt _),a8.mono ap,Nat.le_trans ap a8.size⟩
    have b3:Hid (k+1≤maxLen):=η (by unfold maxLen; omega);have b4:Hid ((k+1) * 24≤140737488355328):=η (by omega);have b5:=η a3;clear a3 a7 U y1 z0 z1 e0 e1 hA hX ag a8
    go_wp2_with (at_builtin; refine bU rfl _ _ _ rfl (w.heap.size+4) 91 i0 (.agg #[.bool false,.string ⟨#[]⟩]) 2 24 Tryz.underlying31 hi aw az aD rfl (Nat.zero_lt_succ 1) bD (.slice Av k cv) k L _ [] rfl HL.out.1 aR.out (some ⟨wt.heap.size,0,none⟩) 1 1 _ [⟨false,nm'⟩] _ rfl HL.out.2.1 rfl HL.out.2.2.1 (fun b hb=>by simp at hb) b3.out b4.out wt (w.heap.size+4) HL.out.2.2.2.1 (Nat.le_refl _) HL.out.2.2.2.2 ?_; intro A4 c4 w4 aq ar b6 b7; have HZ:=η (b5.out.app aq ar); have p1:=HZ.out.1; have p2:=HZ.out.2.1; clear aq ar b6 b7 y3 y4 y5)
    go_wp2;go_roundw
    case rel=>exact ⟨k+1,A4,c4,_,af.out,by go_num,by rw [aM.out,HS.out]; exact η HZ.out.2.2⟩
    case measure=>have:=af.out; simp [intOf]; omega
  ·have he:k=x.args.length:=by omega
   have aL:¬ (k:Int) < (x.args.length:Int):=by omega
   have y1:wr.cell? ⟨w.heap.size,1,none⟩=some (.slice Ad x.args.length cap):=ai U.out.a_;have y2:wr.cell? ⟨w.heap.size+1+1+1,0,none⟩=some (.string x.name):=ai U.out.o_;have y3:wr.cell? ⟨w.heap.size+1+1+1,1,none⟩=some (.slice Av k cv):=ai U.out.o_;have y4:wr.cell? ⟨w.heap.size+1+1,0,none⟩=some (.string ⟨#[]⟩):=ai U.out.r_;have y5:wr.cell? ⟨w.heap.size+1+1,1,none⟩=some (.slice none 0 0):=ai U.out.r_;have f4:wr.frozen? ⟨w.heap.size+1+1,0,none⟩=false:=ax U.out.r_;have f5:wr.frozen? ⟨w.heap.size+1+1,1,none⟩=false:=ax U.out.r_;have aa:=bJ (o:=1) (u:=.slice Av k cv) (bJ (o:=0) (u:=.string x.name) U.out.r_);have b8:((wr.setCell ⟨w.heap.size+1+1,0,none⟩ (.string x.name)).setCell ⟨w.heap.size+1+1,1,none⟩ (.slice Av k cv)).cell? ⟨w.heap.size+1+1,0,none⟩=some (.string x.name):=by simp [World.cell?,aa]
   have b9:((wr.setCell ⟨w.heap.size+1+1,0,none⟩ (.string x.name)).setCell ⟨w.heap.size+1+1,1,none⟩ (.slice Av k cv)).cell? ⟨w.heap.size+1+1,1,none⟩=some (.slice Av k cv):=by simp [World.cell?,aa]
   have HF:Hid (∃ bs',aG ((wr.setCell ⟨w.heap.size+1+1,0,none⟩ (.string x.name)).setCell ⟨w.heap.size+1+1,1,none⟩ (.slice Av k cv)) [.string x.name,.slice Av k cv] (bK x b) bs'∧∀ c ∈ bs',w.heap.size≤c):=η (by
    have hC:=(U.out.c_.l9 (b:=w.heap.size+2) (o:=0) (u:=.string x.name) bD (aJ U.out.c_.own (by omega)) (by simp)).l9 (b:=w.heap.size+2) (o:=1) (u:=.slice Av k cv) bD (aJ (U.out.c_.l9 (b:=w.heap.size+2) (o:=0) (u:=.string x.name) bD (aJ U.out.c_.own (by omega)) (by simp)).own (by omega)) (by simp);obtain ⟨b2,h2,h3⟩:=hC.slice;refine ⟨b2,⟨.slice Av k cv,rfl,av,?_⟩,fun c hc=>(h3 c hc).elim (fun h=>by omega) fun h=>by cases h⟩;unfold bK;rw [he,List.take_of_length_le (Nat.le_refl _)] at h2;rw [he]
    exact h2)
   have HB:=η ((U.out.bel.setCell (p:=⟨w.heap.size+1+1,0,none⟩) (by show w.heap.size≤w.heap.size+1+1; omega) (.string x.name)).setCell (p:=⟨w.heap.size+1+1,1,none⟩) (by show w.heap.size≤w.heap.size+1+1; omega) (.slice Av k cv));clear U he hk aa;go_wp2;obtain ⟨bs',bc,bf⟩:=HF.out;exact bodyPost_ret (v:=.agg #[.string x.name,.slice Av k cv]) (by simp [results,Tryz.results172,go_sem,b8,b9]) rfl ⟨HB.out,_,_,rfl,bs',bc,bf⟩
def D.IC (bb:List Nat) (xs xs':List A) (v:Value) (B:Nat) (w:World) (e:Ending) (w':World):Prop:=
 Below B w w'∧∃ y bs,e=.returned y∧aW w' [y] xs' bs∧((y=v∧xs'=xs)∨∃ L I,aY 2 aG B 33 w' y L xs' I∧∀ c ∈ I,c ∈ bb)
theorem D.aY.Xp {α:Type} {n:Nat} {R:Rel α} {base y e:Nat} {w:World} {v:Value} {L:List Value} {xs:List α} {bs:List Nat} (h:aY n R base e w v L xs bs) (J:y≤base):aY n R y e w v L xs bs:=
 ⟨⟨h.own.1,h.own.2.imp id fun ⟨g,cap,I,e,U,r⟩=>⟨g,cap,I,e,Nat.le_trans J U,r⟩⟩,h.row,h.far⟩
theorem QT (a:A) (v d0 d1:Value) (bs b2:List Nat) (w:World) (h:aW w [v] [] bs) (h2:aG w [d0,d1] a b2) (hs:fJ []=true):
  Calls Tryz.prog 49 #[v,.agg #[d0,d1]] w (IC (bs ++ b2) [] (dP [] a) v w.heap.size w):=by
 obtain ⟨Ad,cap,rfl,hl,hm⟩:=ak h;obtain ⟨Aa,ca,rfl,rfl⟩:=aZ h2;obtain ⟨i0,hi,a3,a4,a5⟩:=info_parts sK;have c0:=ay hm;have hA:Below w.heap.size w (w.alloc (.cells #[.string a.name,.slice Aa a.args.length ca] 33)):=(Below.refl _ _).alloc (Nat.le_refl _) _;have hk:=wu [] a _ _ _ bs b2 _ (au.below h hA) (aj.below h2 hA) hs;have HX:Hid (dP [] a = [] ++ [a] ++ []):=η rfl;have e1:pl [] a=0:=rfl;have e2:hasB [] a=false:=rfl;rw [e1,e2] at hk;simp only [List.length_nil] at hk hl ⊢;have ar:=aj.lt h2;clear e1 e2
 go_enter Tryz.func49,Tryz.ntmps49
 go_wp2_with fail
 refine hk.mono ?_;rintro e y ⟨rfl,av⟩;have B1:=hA.trans (av.mono hA.size);have x0:y.cell? ⟨w.heap.size,0,none⟩=some (.string a.name):=cell_later av (by go_simp);have x1:y.cell? ⟨w.heap.size,1,none⟩=some (.slice Aa a.args.length ca):=cell_later av (by go_simp);clear hk;have H5:Hid (0+0≤maxLen):=η (by unfold maxLen; omega);have H6:Hid ((0+0) * 40≤140737488355328):=η (by omega);have H8:Hid (0+1≤maxLen):=η (by unfold maxLen; omega);have H9:Hid ((0+1) * 40≤140737488355328):=η (by omega);have bo:Hid (1+0≤maxLen):=η (by unfold maxLen; omega);have bp:Hid ((1+0) * 40≤140737488355328):=η (by omega);have c3:(0:Int)≤(cap:Int):=by omega
 have ae:Hid (∀ (v:Value),∀ c ∈ ([]:List Nat),v.ownBlock ≠ some c):=η (fun v c hc=>by simp at hc);have af:Hid (∀ w',aQ 2 aG w' [] [] []):=η (fun w'=>aQ.nil);have ag:Hid (∀ w' Ad,Lies w' Ad []):=η (fun w' Ad=>Lies.nil w' Ad);have bq:Hid (((y.alloc (.cells #[] 33)).alloc (.cells #[.string a.name,.slice Aa a.args.length ca] 33)).heap[y.heap.size+1]? = some (.cells #[.string a.name,.slice Aa a.args.length ca] 33 (0,0))):=η (by have:=heap_alloc_new (y.alloc (.cells #[] 33)) (.cells #[.string a.name,.slice Aa a.args.length ca] 33); rw [World.size_alloc] at this; exact this);have br:Hid (((y.alloc (.cells #[.string a.name,.slice Aa a.args.length ca] 33)).alloc (.cells #[] 33)).heap[y.heap.size]? = some (.cells #[.string a.name,.slice Aa a.args.length ca] 33 (0,0))):=η (by rw [Below.heap_alloc _ _ _ (by simp)]; exact heap_alloc_new _ _);have b1:=aj.below h2 B1
 have b3:Below y.heap.size y ((y.alloc (.cells #[] 33)).alloc (.cells #[.string a.name,.slice Aa a.args.length ca] 33)).drew:=(((Below.refl _ _).alloc (Nat.le_refl _) _).alloc (by simp) _).drew;have b5:=aY.empty (n:=2) (R:=aG) (e:=33) (w:=((y.alloc (.cells #[] 33)).alloc (.cells #[.string a.name,.slice Aa a.args.length ca] 33)).drew) (g:=y.heap.size) (base:=y.heap.size) (show ((y.alloc (.cells #[] 33)).alloc (.cells #[.string a.name,.slice Aa a.args.length ca] 33)).heap[y.heap.size]? = _ by rw [Below.heap_alloc _ _ _ (by simp)]; exact heap_alloc_new _ _) (by omega);have b6:=η b3;have bt:=η b5;clear b3 b5;have b7:Below y.heap.size y ((y.alloc (.cells #[.string a.name,.slice Aa a.args.length ca] 33)).alloc (.cells #[] 33)).drew:=(((Below.refl _ _).alloc (Nat.le_refl _) _).alloc (by simp) _).drew
 have b8:=aY.empty (n:=2) (R:=aG) (e:=33) (w:=((y.alloc (.cells #[.string a.name,.slice Aa a.args.length ca] 33)).alloc (.cells #[] 33)).drew) (g:=y.heap.size+1) (base:=y.heap.size) (show ((y.alloc (.cells #[.string a.name,.slice Aa a.args.length ca] 33)).alloc (.cells #[] 33)).heap[y.heap.size+1]? = _ by have:=heap_alloc_new (y.alloc (.cells #[.string a.name,.slice Aa a.args.length ca] 33)) (.cells #[] 33); rw [World.size_alloc] at this; exact this) (by omega);have b9:=η b7;have bu:=η b8;clear b7 b8;have bc:Below y.heap.size y (y.alloc (.cells #[] 33)).drew:=((Below.refl _ _).alloc (Nat.le_refl _) _).drew;have bf:=aY.empty (n:=2) (R:=aG) (e:=33) (w:=(y.alloc (.cells #[] 33)).drew) (g:=y.heap.size) (base:=y.heap.size) (show (y.alloc (.cells #[] 33)).heap[y.heap.size]? = _ from heap_alloc_new _ _) (by omega);have bg:=η bc;have bv:=η bf;clear bc bf;have bw:Hid (∀ w',Below y.heap.size y w'→Below w.heap.size w w'):=η fun w' bx=>B1.trans (bx.mono B1.size)
 have aw:=η b1;clear b1;have c4:w.heap.size < y.heap.size:=lt_of_cell x0;have bz:=η (own_ne (a:=y.heap.size+1) (b:=y.heap.size) (n:=0) (c:=0) (o:=0) (by omega));have bA:=η (own_ne (a:=y.heap.size) (b:=y.heap.size+1) (n:=0) (c:=0) (o:=0) (by omega));have bB:Hid (y.heap.size+1 < ((y.alloc (.cells #[] 33)).alloc (.cells #[.string a.name,.slice Aa a.args.length ca] 33)).drew.heap.size):=η (by simp);have bE:Hid (y.heap.size < ((y.alloc (.cells #[.string a.name,.slice Aa a.args.length ca] 33)).alloc (.cells #[] 33)).drew.heap.size):=η (by simp <;> omega);have H2:=η h2;have az:Hid (∀ c ∈ b2,c < y.heap.size):=η fun c hc=>Nat.lt_of_lt_of_le (ar c hc) B1.size
 clear h h2 ar;by_cases hce:cap=0
 case' pos=>
  have bL:(cap=0)=True:=eq_true hce;have bO:=η hce;clear hce
 case' neg=>
  have bL:(cap=0)=False:=eq_false hce;have bO:=η hce;clear hce
 all_goals
  go_wp2
  go_region_held3? (fun w'=>w'.cell? ⟨w.heap.size,0,none⟩=some (.string a.name)∧w'.cell? ⟨w.heap.size,1,none⟩=some (.slice Aa a.args.length ca)) (first | go_keep | exact ⟨q0,q1⟩ | exact ⟨r0,r1⟩ | exact ⟨s0,s1⟩) ((first
   | (refine aT ?_ (.tmp 15) (.tmp 18) _ ?_ y.heap.size 33 i0 (.agg #[.string ⟨#[]⟩,.slice none 0 0]) 2 40 Tryz.underlying24 hi a3 a4 a5 rfl (Nat.zero_lt_succ 1) aj (.slice (some ⟨y.heap.size,0,none⟩) 0 0) 0 [] [] [] ?_ bt.out rfl ?_ 0 ?_ [] [] [] ?_ (af.out _) rfl (ag.out _ _) (ae.out _) H5.out H6.out y y.heap.size b6.out (Nat.le_refl _) b6.out.size ?_; rfl; rfl; rfl; rotate_left 2; rfl; rotate_left; intro A1 a8 w2 U I a0 a6; have q0:=cell_later I x0; have q1:=cell_later I x1; have aD:Hid (w2.heap[y.heap.size+1]? = some (.cells #[.string a.name,.slice Aa a.args.length ca] 33 (0,0))):=η ((a6.block _ bB.out bz.out).trans bq.out); clear a6; have a9:=η (aS aD.out); have aa:=η (aQ.cZ (n:=2) (R:=aG) eH (aj.below aw.out I)); have ab:=η (fun c hc=>aJ U.own (az.out c hc)); have am:=η U; have ao:=η I; have ap:=η a0; clear U I a0)
   | (refine aT ?_ (.tmp 15) (.tmp 18) _ ?_ y.heap.size 33 i0 (.agg #[.string ⟨#[]⟩,.slice none 0 0]) 2 40 Tryz.underlying24 hi a3 a4 a5 rfl (Nat.zero_lt_succ 1) aj (.slice (some ⟨y.heap.size+1,0,none⟩) 0 0) 0 [] [] [] ?_ bu.out rfl ?_ 0 ?_ [] [] [] ?_ (af.out _) rfl (ag.out _ _) (ae.out _) H5.out H6.out y y.heap.size b9.out (Nat.le_refl _) b9.out.size ?_; rfl; rfl; rfl; rotate_left 2; rfl; rotate_left; intro A1 a8 w2 U I a0 a6; have q0:=cell_later I x0; have q1:=cell_later I x1; have aD:Hid (w2.heap[y.heap.size]? = some (.cells #[.string a.name,.slice Aa a.args.length ca] 33 (0,0))):=η ((a6.block _ bE.out bA.out).trans br.out); clear a6; have a9:=η (aS aD.out); have aa:=η (aQ.cZ (n:=2) (R:=aG) eH (aj.below aw.out I)); have ab:=η (fun c hc=>aJ U.own (az.out c hc)); have am:=η U; have ao:=η I; have ap:=η a0; clear U I a0)
   | (refine aT ?_ (.tmp 15) (.tmp 18) _ ?_ y.heap.size 33 i0 (.agg #[.string ⟨#[]⟩,.slice none 0 0]) 2 40 Tryz.underlying24 hi a3 a4 a5 rfl (Nat.zero_lt_succ 1) aj (.slice (some ⟨y.heap.size,0,none⟩) 0 0) 0 [] [] [] ?_ bv.out rfl ?_ 0 ?_ [] [] [] ?_ (af.out _) rfl (ag.out _ _) (ae.out _) H5.out H6.out y y.heap.size bg.out (Nat.le_refl _) bg.out.size ?_; rfl; rfl; rfl; rotate_left 2; rfl; rotate_left; intro A1 a8 w2 U I a0 a6; have q0:=cell_later I x0; have q1:=cell_later I x1; skip; clear a6; have a7:Below y.heap.size y (w2.alloc (.cells #[.string a.name,.slice Aa a.args.length ca] 33)):=I.alloc I.size _; have bh:=η a7; have bi:=η (U.below aj ((Below.refl w2.heap.size w2).alloc (Nat.le_refl _) (.cells #[.string a.name,.slice Aa a.args.length ca] 33))); have bj:=η a7.size; have a9:=η (aS (heap_alloc_new w2 (.cells #[.string a.name,.slice Aa a.args.length ca] 33))); have aa:=η (aQ.cZ (n:=2) (R:=aG) eH (aj.below aw.out a7)); have ab:=η (fun c hc=>aJ U.own (az.out c hc)); clear a7; have am:=η U; have ao:=η I; have ap:=η a0; clear U I a0)
   | (refine aT ?_ (.tmp 19) (.tmp 21) _ ?_ y.heap.size 33 i0 (.agg #[.string ⟨#[]⟩,.slice none 0 0]) 2 40 Tryz.underlying24 hi a3 a4 a5 rfl (Nat.zero_lt_succ 1) aj (.slice A1 (0+0) a8) (0+0) _ _ _ ?_ am.out rfl (some ⟨y.heap.size+1,0,none⟩) 1 1 _ [a] _ ?_ aa.out rfl a9.out ab.out H8.out H9.out y y.heap.size ao.out (Nat.le_refl _) ap.out ?_; rfl; rfl; rfl; rfl; intro A2 aE w3 a1 J a2 ac; have r0:=cell_later J x0; have r1:=cell_later J x1; have aL:=η a1; have aM:=η J; have aR:=η a2; clear a1 J a2 ac)
   | (refine aT ?_ (.tmp 19) (.tmp 21) _ ?_ y.heap.size 33 i0 (.agg #[.string ⟨#[]⟩,.slice none 0 0]) 2 40 Tryz.underlying24 hi a3 a4 a5 rfl (Nat.zero_lt_succ 1) aj (.slice A1 (0+0) a8) (0+0) _ _ _ ?_ am.out rfl (some ⟨y.heap.size,0,none⟩) 1 1 _ [a] _ ?_ aa.out rfl a9.out ab.out H8.out H9.out y y.heap.size ao.out (Nat.le_refl _) ap.out ?_; rfl; rfl; rfl; rfl; intro A2 aE w3 a1 J a2 ac; have r0:=cell_later J x0; have r1:=cell_later J x1; have aL:=η a1; have aM:=η J; have aR:=η a2; clear a1 J a2 ac)
   | (refine aT ?_ (.tmp 19) (.tmp 21) _ ?_ y.heap.size 33 i0 (.agg #[.string ⟨#[]⟩,.slice none 0 0]) 2 40 Tryz.underlying24 hi a3 a4 a5 rfl (Nat.zero_lt_succ 1) aj (.slice A1 (0+0) a8) (0+0) _ _ _ ?_ bi.out rfl (some ⟨w2.heap.size,0,none⟩) 1 1 _ [a] _ ?_ aa.out rfl a9.out ab.out H8.out H9.out y y.heap.size bh.out (Nat.le_refl _) bj.out ?_; rfl; rfl; rfl; rfl; intro A2 aE w3 a1 J a2 ac; have r0:=cell_later J x0; have r1:=cell_later J x1; have aL:=η a1; have aM:=η J; have aR:=η a2; clear a1 J a2 ac)
   | (refine aT ?_ (.tmp 22) (.tmp 25) _ ?_ y.heap.size 33 i0 (.agg #[.string ⟨#[]⟩,.slice none 0 0]) 2 40 Tryz.underlying24 hi a3 a4 a5 rfl (Nat.zero_lt_succ 1) aj (.slice A2 (0+0+1) aE) (0+0+1) _ _ _ ?_ aL.out rfl ?_ 0 ?_ [] [] [] ?_ (af.out _) rfl (ag.out _ _) (ae.out _) bo.out bp.out y y.heap.size aM.out (Nat.le_refl _) aR.out ?_; rfl; rfl; rfl; rotate_left 2; rfl; rotate_left; intro A3 c5 w4 bk aq bR _; have s0:=cell_later aq x0; have s1:=cell_later aq x1; have bl:=η bk; have bX:=η aq; clear bk aq bR)))
  all_goals
   obtain ⟨b4,bn,_⟩:=bl.out.slice;have HS:=η bn;clear bn;go_wp2;go_ret;exact ⟨bw.out _ bX.out,_,b4,rfl,by rw [HX.out]; exact HS.out,.inr ⟨_,_,by rw [HX.out]; exact bl.out.Xp B1.size,fun c hc=>List.mem_append.2 (.inr (by simpa using hc))⟩⟩
def D.wR (L:List ByteArray) (s:ByteArray):Int:=(L.idxOf s:Nat)
theorem D.KE (rs:List Ru) (k:Nat) (h:k < rs.length):aK (rs.take (k+1))=fM (aK (rs.take k)) rs[k].head.name:=by
 unfold aK bH;rw [List.take_succ_eq_append_getElem h,List.map_append,List.foldl_append];rfl
theorem D.WC {L:List ByteArray} {s:ByteArray} (h:s ∉ L):∀ t ∈ fM L s,(if t=s then (L.length:Int) else wR L t)=wR (fM L s) t:=fun t y=>by
 unfold wR fM at *;rw [if_neg h] at *;by_cases e:t=s
 ·subst e
  rw [if_pos rfl,List.idxOf_append,if_neg h];simp
 ·rw [if_neg e]
  have:t ∈ L:=by simpa [e] using y
  rw [List.idxOf_append,if_pos this]
theorem D9 (rs:List Ru) (v:Value) (bs:List Nat) (w:World) (h:dS w [v] rs bs) (hf:rs.length≤1000000):
  Calls Tryz.prog 191 #[v] w fun e w'=>e=.returned (.map (some w.heap.size))∧(∃ n,gG w.heap.size n (aK rs) (wR (aK rs)) w')∧Below w.heap.size w w':=by
 obtain ⟨Ad,cap,rfl,hl,hm⟩:=ak h;have af:=ay (Nat.le_trans hl hm);have a8:=@run_makeMap Tryz.prog;have a2:=η (gG.made w (wR []));have a3:Below w.heap.size w (w.alloc (.map #[] 0)):=(Below.refl _ _).alloc (Nat.le_refl _) _;have a4:=η a3;clear hl hm a3
 go_enter Tryz.func191,Tryz.ntmps191
 go_wp2;generalize w.alloc (.map #[] 0)=w0 at *
 go_loopw [11] (fun i wr=>∃ k:Nat,k≤rs.length∧i=.int .i64 k∧gG w.heap.size k (aK (rs.take k)) (wR (aK (rs.take k))) wr∧Below w.heap.size w wr) (fun i _=>rs.length - (intOf i).toNat)
 case atStart=>exact ⟨0,Nat.zero_le _,rfl,a2.out,a4.out⟩
 case round=>
  obtain ⟨k,hk,rfl,U,hB⟩:=hrel;clear a2 a4 a8;by_cases y:k < rs.length
  ·obtain ⟨b,o,Ae,ce,Af,cf,bk,rfl,_,d0,d1,d2,a5,_⟩:=fH h y
   replace d0:=cell_later hB d0;replace d1:=cell_later hB d1;replace d2:=cell_later hB d2;have ag:(0:Int)≤(k:Int):=by omega
   have a9:(k:Int) < (rs.length:Int):=by omega
   have hA:Below wr.heap.size wr (wr.alloc (.cells #[.string rs[k].head.name,.slice Ae rs[k].head.args.length ce,.slice Af rs[k].body.length cf] 40)):=(Below.refl _ _).alloc (Nat.le_refl _) _;have I:=η y;have a0:=η (KE rs k y);have a1:Hid (rs[k].head.name.size≤maxLen):=η (by obtain ⟨_,_,_,_,_,hs,_⟩:=a5; exact hs);have HM:=η (U.below hA U.lt);have HB:=η (hB.trans (hA.mono hB.size));have aa:Hid ((aK (rs.take k)).length≤1000000):=η (by have:=U.XP; omega);have ab:k < maxLen:=by unfold maxLen; omega
   clear h a5 hA U hB;generalize rs[k]=r at *;generalize aK (rs.take k)=L at *;clear y;obtain ⟨⟨nm,args⟩,body⟩:=r;dsimp only at *;by_cases J:nm ∈ L
   ·have HD:Hid (decide (nm ∈ L)=true):=η (decide_eq_true J)
    have HV:Hid ((if nm ∈ L then wR L nm else 0)=wR L nm):=η (if_pos J);have HP:Hid (aK (rs.take (k+1))=L):=η (by rw [a0.out]; unfold fM; rw [if_pos J]);clear J a0
    go_wp2_with (first | (at_lookup; refine dA _ rfl _ _ _ rfl Tryz.underlying116 _ _ L _ rfl HM.out nm rfl a1.out true HD.out _ HV.out ?_) | go_in)
    go_roundw
    case rel=>exact ⟨k+1,I.out,by go_num,by rw [HP.out]; exact HM.out.mono (Nat.le_succ k),HB.out⟩
    case measure=>have:=I.out; simp [intOf]; omega
   ·have HD:Hid (decide (nm ∈ L)=false):=η (decide_eq_false J)
    have HV:Hid ((if nm ∈ L then wR L nm else 0)=0):=η (if_neg J);have HI:=η (WC J);have am:=aa.out;clear J
    go_wp2_with (first | (at_lookup; refine dA _ rfl _ _ _ rfl Tryz.underlying116 _ _ L _ rfl HM.out nm rfl a1.out false HD.out _ HV.out ?_) | (at_len; refine gm _ rfl _ _ rfl Tryz.underlying116 _ _ L _ rfl HM.out ?_) | (at_mapUpdate; refine jW _ rfl _ _ _ _ rfl Tryz.underlying116 _ _ L _ rfl HM.out nm rfl a1.out _ rfl ab (by omega) ?_; intro w1 a6 a7) | go_in)
    have ac:=η (a6.congr HI.out);have ae:=η (HB.out.grown a7 (by have:=HB.out.size; exact this) fun j hj=>by cases hj; exact Nat.le_refl _);clear a6 a7;go_roundw
    case rel=>exact ⟨k+1,I.out,by go_num,by rw [a0.out]; exact ac.out,ae.out⟩
    case measure=>have:=I.out; simp [intOf]; omega
  ·have he:k=rs.length:=by omega
   have a9:¬ (k:Int) < (rs.length:Int):=by omega
   subst he;rw [List.take_of_length_le (Nat.le_refl _)] at U;have HM:=η U;clear U h;go_wp2;go_ret;exact ⟨rfl,⟨_,HM.out⟩,hB⟩
theorem D.below_drewN {B:Nat} {a w:World} (h:Below B a w) (n:Nat):Below B a (w.drewN n):=⟨h.os,h.tape,h.output,h.size,h.block⟩
theorem D.og (a b:ByteArray):(a.toList == b.toList)=decide (a=b):=by
 rw [ByteArray.toList_eq,ByteArray.toList_eq,Bool.eq_iff_iff];simp only [beq_iff_eq,decide_eq_true_eq];exact ⟨bytes_inj,fun h=>by rw [h]⟩
theorem Oy (rs:List Ru) (v:Value) (bs:List Nat) (w:World) (h:dS w [v] rs bs) (hn:(aF rs).length≤1000000):
  Calls Tryz.prog 167 #[v] w fun e w'=>e=.returned (.bool (jD (aF rs)))∧Below w.heap.size w w':=by
 obtain ⟨Ad,cap,rfl,hl,hm⟩:=ak h;have ac:=ay (Nat.le_trans hl hm);have c1:=zn rs _ bs w h hn;generalize aF rs=xs at *;clear hl hm h
 go_enter Tryz.func167,Tryz.ntmps167
 go_wp2_with fail
 refine c1.mono ?_;rintro e w1 ⟨hB,v1,b2,rfl,hx⟩;obtain ⟨A1,aa,rfl,a2,a3⟩:=ak hx;have ab:=ay (Nat.le_trans a2 a3);clear c1 a2 a3;go_wp2
 go_loopw [4] (fun i wr=>∃ k:Nat,k≤xs.length∧i=.int .i64 k∧(∀ i,(hi:i < xs.length)→i < k→∀ j,(hj:j < i)→clash xs[i] (xs[j]'(by omega))=false)∧Below w1.heap.size w1 wr) (fun i _=>xs.length - (intOf i).toNat)
 case atStart=>exact ⟨0,Nat.zero_le _,rfl,fun i _ h=>by omega,Below.refl _ _⟩
 case round=>
  obtain ⟨k,hk,rfl,a0,hb⟩:=hrel;have HA:=η a0;have HB:=η hb;clear a0 hb;by_cases a1:k < xs.length
  ·have ae:(0:Int)≤(k:Int):=by omega
   have a8:(k:Int) < (xs.length:Int):=by omega
   go_wp2
   go_loopw [5] (fun i wr=>∃ j:Nat,j≤k∧i=.int .i64 j∧(∀ i,(hi:i < xs.length)→i < j→clash xs[k] xs[i]=false)∧Below w1.heap.size w1 wr) (fun i _=>k - (intOf i).toNat)
   case atStart=>exact ⟨0,Nat.zero_le _,rfl,fun i _ h=>by omega,HB.out⟩
   case round=>
    obtain ⟨j,hj,rfl,hin,hb⟩:=hrel;have HI:=η hin;have U:=η hb;clear hin;by_cases a4:j < k
    ·have af:(0:Int)≤(j:Int):=by omega
     have a9:(j:Int) < (k:Int):=by omega
     have ag:(j:Int) < (xs.length:Int):=by omega
     have a5:j < xs.length:=by omega
     obtain ⟨b,o,Ae,ce,_,rfl,_,d0,d1,_,_⟩:=dK (au.below hx hb) a1;obtain ⟨b',o',Af,cf,_,e9,_,f0,f1,_,_⟩:=dK (au.below hx hb) a5;obtain ⟨rfl,rfl⟩:b=b'∧o=o':=by simpa using e9
     have J:=η (Um (xs:=xs) a1 a5)
     have I:Hid (clash xs[k] xs[j]=false→∀ i,(hi:i < xs.length)→i < j+1→clash xs[k] xs[i]=false):=η fun h i h9 hi=>by
      by_cases e:i=j
      ·subst e; exact h
      ·exact HI.out i h9 (by omega)
     have HC:Hid (clash xs[k] xs[j]=(decide (xs[k].name=xs[j].name) && decide (xs[k].args.length ≠ xs[j].args.length))):=η rfl;clear hx hb e9;generalize xs[k]=x at *;generalize xs[j]=y at *;obtain ⟨xn,xa⟩:=x;obtain ⟨yn,ya⟩:=y;dsimp only at *;cases hs:(xn.toList == yn.toList)
     ·have HZ:=η (I.out (by rw [HC.out,← og,hs]; rfl))
      clear I J HC HI HA HB;go_wp2
      go_quiet (fail)
      go_wp2;go_roundw
      case rel=>exact ⟨j+1,a4,by go_num,HZ.out,below_drewN U.out _⟩
      case measure=>simp [intOf]; omega
     ·by_cases a6:xa.length=ya.length
      ·have HZ:=η (I.out (by rw [HC.out,a6]; simp))
       have hd:(xa.length:Int)=(ya.length:Int):=by omega
       clear I J HC HI HA HB;go_wp2
       go_quiet (fail)
       go_wp2;go_roundw
       case rel=>exact ⟨j+1,a4,by go_num,HZ.out,below_drewN U.out _⟩
       case measure=>simp [intOf]; omega
      ·have HZ:=η (J.out (by rw [HC.out,← og,hs]; simpa using a6))
       have hd:¬ (xa.length:Int)=(ya.length:Int):=by omega
       have a7:=η hB;clear I J HC HI HA HB;go_wp2
       go_quiet (fail)
       go_wp2;go_ret;exact ⟨aI HZ.out.symm,a7.out.trans ((below_drewN U.out _).mono a7.out.size)⟩
    ·have he:j=k:=by omega
     have a9:¬ (j:Int) < (k:Int):=by omega
     have HZ:Hid (∀ i,(hi:i < xs.length)→i < k+1→∀ j,(hj:j < i)→clash xs[i] (xs[j]'(by omega))=false):=η fun i hi h1 j2 h2=>by
      by_cases e:i=k
      ·subst e; exact HI.out j2 (by omega) (by omega)
      ·exact HA.out i hi (by omega) j2 h2
     clear HI HA HB he;go_wp2;go_roundw
     case rel=>exact ⟨k+1,a1,by go_num,HZ.out,U.out⟩
     case measure=>simp [intOf]; omega
  ·have he:k=xs.length:=by omega
   have a8:¬ (k:Int) < (xs.length:Int):=by omega
   have HZ:Hid (jD xs=true):=η (QG fun i hi j hj=>HA.out i hi (by omega) j hj);clear HA hx;go_wp2;go_ret;exact ⟨aI HZ.out.symm,hB.trans (HB.out.mono hB.size)⟩
end Go.Proofs.YtkjinanbccloeaaGreatDoor
