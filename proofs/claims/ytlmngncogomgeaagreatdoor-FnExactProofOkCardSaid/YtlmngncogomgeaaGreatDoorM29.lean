/- Of the proof of FnExactProofOk: FctI, QryI, ProgC, Laid. -/
import Derived.Test.YtlmngncogomgeaaGreatDoorM26
import Derived.Test.YtlmngncogomgeaaGreatDoorM27
set_option linter.unusedVariables false
set_option maxHeartbeats 4000000
set_option maxRecDepth 100000
namespace Go.Proofs.YtlmngncogomgeaaGreatDoor
section
open Go.RowKit D
attribute [local go_sem ↓] Go.wp_at_zero Go.wp_at_succ
theorem UA:(Tryz.prog.info? 154).map (fun i=>(i.zero,i.size,i.bytes))=some (some (.agg #[.bool false,.string ⟨#[]⟩]),2,24):=by kernel_rfl
theorem Dk (vars:List ByteArray) (hv:ji vars) (b:Bd) (a6:iW vars b) (a:A) (U:Option Addr) (ce:Nat) (b1:List Nat) (blk o:Nat) (w:World) (hb:fQ vars b blk o w) (a1:a.name.size≤maxLen) (h:jG vars w [.slice U a.args.length ce] a.args b1) (hin:∀ t ∈ a.args,t.var=true→t.name ∈ vars) (av:a.args.length≤1000000):
  Calls Tryz.prog 87 #[.pointer (some ⟨blk,o,none⟩),.agg #[.string a.name,.slice U a.args.length ce]] w fun e w'=>∃ v bs,e=.returned (.agg #[.string a.name,v])∧Below w.heap.size w w'∧aP w' [.string a.name,v] (aY a b) bs∧New w.heap.size w' bs:=by
 obtain ⟨i0,hi,aw,az,aD⟩:=info_parts UA;obtain ⟨nm,args⟩:=a;dsimp only at h hin av a1 ⊢;have aE:=η hin;have aL:=η a1;have HT:=η h;have a7:=η hb;have aM:=η a6;clear h hin a1 hb a6;have hA:Below w.heap.size w (((w.alloc (.cells #[.string nm,.slice U args.length ce] 143)).alloc (.cells #[.string ⟨#[]⟩,.slice none 0 0] 40)).alloc (.cells #[.string nm,.slice none 0 0] 40)):=((ζ).alloc (by simp) _).alloc (by simp; omega) _
 have a8:(((w.alloc (.cells #[.string nm,.slice U args.length ce] 143)).alloc (.cells #[.string ⟨#[]⟩,.slice none 0 0] 40)).alloc (.cells #[.string nm,.slice none 0 0] 40)).heap[w.heap.size+1]? = some (.cells #[.string ⟨#[]⟩,.slice none 0 0] 40 (0,0)):=by
  rw [Below.heap_alloc _ _ _ (by simp)];have:=ω (w.alloc (.cells #[.string nm,.slice U args.length ce] 143)) (.cells #[.string ⟨#[]⟩,.slice none 0 0] 40);simpa using this
 have a9:(((w.alloc (.cells #[.string nm,.slice U args.length ce] 143)).alloc (.cells #[.string ⟨#[]⟩,.slice none 0 0] 40)).alloc (.cells #[.string nm,.slice none 0 0] 40)).heap[w.heap.size+2]? = some (.cells #[.string nm,.slice none 0 0] 40 (0,0)):=by
  have:=ω ((w.alloc (.cells #[.string nm,.slice U args.length ce] 143)).alloc (.cells #[.string ⟨#[]⟩,.slice none 0 0] 40)) (.cells #[.string nm,.slice none 0 0] 40);simpa using this
 have aa:Hid (xu 2 kQ 154 40 w (w.heap.size+1) (w.heap.size+2) (w.heap.size+3) nm (.slice none 0 0) [] ([]:List T) (((w.alloc (.cells #[.string nm,.slice U args.length ce] 143)).alloc (.cells #[.string ⟨#[]⟩,.slice none 0 0] 40)).alloc (.cells #[.string nm,.slice none 0 0] 40))):=
  η ⟨a8,a9,by omega,by omega,by omega,cu.nil _,hA,by simp⟩
 clear hA a8 a9
 go_enter Tryz.func87,Tryz.ntmps87
 go_wp2;generalize (((w.alloc (.cells #[.string nm,.slice U args.length ce] 143)).alloc (.cells #[.string ⟨#[]⟩,.slice none 0 0] 40)).alloc (.cells #[.string nm,.slice none 0 0] 40))=W at *
 go_loopw [14] (fun i wr=>∃ (k:Nat) (Av:Option Addr) (cv:Nat) (L:List Value),k≤args.length∧i=.int .i64 k∧xu 2 kQ 154 40 w (w.heap.size+1) (w.heap.size+2) (w.heap.size+3) nm (.slice Av k cv) L ((args.take k).map (dw b)) wr) (fun i _=>args.length - (intOf i).toNat)
 case atStart=>exact ⟨0,none,0,[],ε,rfl,aa.out⟩
 case round=>
  obtain ⟨k,Av,cv,L,hk,rfl,y⟩:=hrel;clear aa;by_cases I:k < args.length
  ·obtain ⟨bq,oq,rfl,_,f0,f1,ab⟩:=xq ((bU vars).below HT.out y.bel) I
   have bh:(0:Int)≤(k:Int):=by omega
   have aR:(k:Int) < (args.length:Int):=by omega
   have ac:=η I;have b3:Hid ((args.take (k+1)).map (dw b)=(args.take k).map (dw b) ++ [dw b args[k]]):=η (by rw [ρ I,List.map_append]; rfl);have a2:Below wr.heap.size wr (wr.alloc (.cells #[.int .i64 (jE vars args[k]),.string (jF args[k])] 225)):=ζ;have J:=y.later dV a2;have ae:=η J;have af:fQ vars b blk o (wr.alloc (.cells #[.int .i64 (jE vars args[k]),.string (jF args[k])] 225)).drew:=a7.out.keep ((y.bel.trans (a2.mono y.bel.size)).block _ a7.out.lt);have HW:=η (vM vars hv b args[k] (aE.out _ (δ I)) blk o _ af);have b4:Hid ((dw b args[k]).name.size≤maxLen):=η (aM.out.OM (fun hv=>(show jF args[k]=args[k].name by unfold jF; simp [hv]) ▸ ab));have HR:Hid (∀ w,kQ w [.bool false,.string (dw b args[k]).name] (dw b args[k]) []):=η fun w=>⟨rfl,b4.out,rfl⟩
   have b5:Hid (((args.take k).map (dw b)).length=k):=η (by simp; omega);have b6:Hid (k+1≤maxLen):=η (by unfold maxLen; omega);have b7:Hid ((k+1) * 24≤140737488355328):=η (by omega);have y0:(wr.alloc (.cells #[.int .i64 (jE vars args[k]),.string (jF args[k])] 225)).cell? ⟨wr.heap.size,0,none⟩=some (.int .i64 (jE vars args[k])):=by go_simp
   have y1:(wr.alloc (.cells #[.int .i64 (jE vars args[k]),.string (jF args[k])] 225)).cell? ⟨wr.heap.size,1,none⟩=some (.string (jF args[k])):=by go_simp
   have q1:=aj J.r1 (o:=1);have q2:=aB J.r1 (o:=1);have q3:=ψ J.r1;clear y a2 J af ab hk;generalize jE vars args[k]=sn at *;generalize jF args[k]=ss at *;generalize args[k]=t at *;clear I;go_wp2;generalize wr.alloc (.cells #[.int .i64 sn,.string ss] 225)=W1 at *
   go_region_law
    (first
     | (go_simp; go_at_call 146; refine HW.out.mono ?_; rintro e w2 ⟨rfl,ag⟩; have a0:=η ((Below.refl W1.heap.size W1).drew.trans ag); have a3:=η (ae.out.later dV a0.out); have HL:=η (a3.out.lit dV tY HR.out); replace q1:=ξ a0.out q1; replace q3:=κ q3 a0.out.size; clear ag)
     | (refine bG (by rfl) (.tmp 19) (.tmp 24) _ (by rfl) (w.heap.size+3) 154 i0 (.agg #[.bool false,.string ⟨#[]⟩]) 2 24 Tryz.underlying38 hi aw az aD rfl (Θ 1) dV (.slice Av k cv) k L _ [] (by rfl) HL.out.1 b5.out (some ⟨w2.heap.size,0,none⟩) 1 1 _ [dw b t] _ (by rfl) HL.out.2.1 rfl HL.out.2.2.1 (fun b hb=>by simp at hb) b6.out b7.out w2 (w.heap.size+3) HL.out.2.2.2.1 ν HL.out.2.2.2.2 ?_; intro A5 c5 w5 am ao b8 bc; have HZ:=η (a3.out.app dV am ao); replace q1:=HZ.out.1; replace q2:=HZ.out.2.1; clear am ao b8 bc))
   all_goals
    have bf:=η HZ.out.2.2.1;clear ae HL HZ a3 a0 HW q1 q2 q3 y0 y1;go_wp2;go_roundw
    case rel=>exact ⟨k+1,A5,c5,_,ac.out,by go_num,by rw [b3.out]; exact bf.out⟩
    case measure=>have:=ac.out; simp [intOf]; omega
  ·have he:k=args.length:=by omega
   have aR:¬ (k:Int) < (args.length:Int):=by omega
   obtain ⟨W9,ap,aq,a4,b9,a5,ar⟩:=y.done dV;have y0:wr.cell? ⟨w.heap.size+2,0,none⟩=some (.string nm):=aj y.r1;have y1:wr.cell? ⟨w.heap.size+2,1,none⟩=some (.slice Av k cv):=aj y.r1;have f0:wr.frozen? ⟨w.heap.size+1,0,none⟩=false:=aB y.r0;have f1:wr.frozen? ⟨w.heap.size+1,1,none⟩=false:=aB y.r0;have z0:wr.cell? ⟨w.heap.size+1,0,none⟩=some (.string ⟨#[]⟩):=aj y.r0;have z1:wr.cell? ⟨w.heap.size+1,1,none⟩=some (.slice none 0 0):=aj y.r0;have u0:W9.cell? ⟨w.heap.size+1,0,none⟩=some (.string nm):=aj a4;have u1:W9.cell? ⟨w.heap.size+1,1,none⟩=some (.slice Av k cv):=aj a4
   have HD:Hid (Below w.heap.size w W9∧aP W9 [.string nm,.slice Av k cv] (aY ⟨nm,args⟩ b) b9∧New w.heap.size W9 b9):=
    η ⟨aq,⟨_,rfl,aL.out,by unfold aY; dsimp only; rw [ϕ (Nat.le_of_eq he.symm)] at a5; exact a5⟩,ar.mono (by omega)⟩
   have bg:=η ap;have HU:=η (ι u0 u1);clear y aq a4 a5 ar ap he u0 u1;go_wp2;rw [← bg.out];refine bodyPost_ret (v:=.agg #[.string nm,.slice Av k cv]) (by simp [results,Tryz.results87,go_sem,HU.out.1,HU.out.2]) rfl (by exact ⟨_,rfl,HD.out.1,_,HD.out.2⟩)
theorem UB:(Tryz.prog.info? 143).map (fun i=>(i.zero,i.size,i.bytes))=some (some (.agg #[.string ⟨#[]⟩,.slice none 0 0]),2,40):=by kernel_rfl
theorem D.qo (ps:List Pt):qR (ax ps):=kX ps qU
theorem D.Jz {ps:List Pt}:∀ p ∈ ps,∀ t ∈ p.atom.args,t.var=true→t.name ∈ ax ps:=fun p I t J y=>(gu ps [] _).2 (.inr ⟨p,I,t,J,y,rfl⟩)
theorem D.UC {ps:List Pt} (h:ps.length≤1000) (I:∀ p ∈ ps,p.atom.args.length≤1000):dh (fun p:Pt=>p.atom.args.length) ps≤1000000:=by
 have:∀ (l:List Pt),(∀ p ∈ l,p.atom.args.length≤1000)→dh (fun p:Pt=>p.atom.args.length) l≤l.length * 1000:=by
  intro l
  induction l with
  | nil=>intro _; exact ε
  | cons p l ih=>
   intro y;have h1:=ih fun q hq=>y q (Δ _ hq)
   have U:=y p Γ;have J:dh (fun p:Pt=>p.atom.args.length) (p :: l)=p.atom.args.length+dh (fun p:Pt=>p.atom.args.length) l:=by simp [dh]
   rw [J,List.length_cons,Nat.add_mul];omega
 have:=this ps I;omega
theorem D.sW.done {vars:List ByteArray} {w:World} {I hb B:Nat} {J:Value} {b3:List Nat} {U:Value} {L1:List Value} {a0:List A} {a2:List Nat} {v2:Value} {L2:List Value} {a1:List A} {a3:List Nat} {wr:World}
  (h:sW vars w I hb B J b3 U L1 a0 a2 v2 L2 a1 a3 wr):
  ∃ W9,W9=((wr.setCell ⟨I,0,none⟩ U).setCell ⟨I,1,none⟩ v2).setCell ⟨I,2,none⟩ J∧Below w.heap.size w W9∧W9.heap[I]? = some (.cells #[U,v2,J] 134 (0,0))∧
   ∃ b1 b2,kK vars W9 [U] a0 b1∧kK vars W9 [v2] a1 b2∧jA W9 [J] vars b3∧∀ b ∈ b1 ++ b2 ++ b3,w.heap.size≤b:=by
 obtain ⟨b1,a4,a5⟩:=h.c1.slice;obtain ⟨b2,a6,a7⟩:=h.c2.slice;have h0:=h.h0;have h1:=h.h1;have hB:=h.hB;have g1:∀ b ∈ b1,B≤b:=fun b hb=>(a5 b hb).elim id (h.k1 b)
 have g2:∀ b ∈ b2,B≤b:=fun b hb=>(a7 b hb).elim id (h.k2 b)
 have keep:∀ b,b ≠ I→(((wr.setCell ⟨I,0,none⟩ U).setCell ⟨I,1,none⟩ v2).setCell ⟨I,2,none⟩ J).heap[b]? = wr.heap[b]?:=fun b y=>by
  rw [π _ _ _ _ y,π _ _ _ _ y,π _ _ _ _ y]
 refine ⟨_,rfl,((h.bel.setCell (p:=⟨I,0,none⟩) h0 _).setCell (p:=⟨I,1,none⟩) h0 _).setCell (p:=⟨I,2,none⟩) h0 _,?_,b1,b2,?_,?_,?_,?_⟩
 ·have:=bY (o:=2) (u:=J) (bY (o:=1) (u:=v2) (bY (o:=0) (u:=U) h.r0))
  simpa using this
 ·exact (aX _).keep a4 fun b y=>keep b (fun e=>by have:=g1 b y; omega)
 ·exact (aX _).keep a6 fun b y=>keep b (fun e=>by have:=g2 b y; omega)
 ·exact bV.keep h.vs fun b y=>keep b (h.kv b y).2.2
 ·intro b y
  rcases μ.1 y with y | y
  ·rcases μ.1 y with y | y
   ·have:=g1 b y; omega
   ·have:=g2 b y; omega
  ·exact (h.kv b y).1
theorem zL (ps : List Pt) (v : Value) (bs : List Nat) (w : World) (h : gJ w [v] ps bs) (br : ps.length ≤ 1000) (hs : ∀ p ∈ ps, p.atom.args.length ≤ 1000) :
    Calls Tryz.prog 84 #[v] w fun e w' => ∃ A1 n1 q1 A2 n2 q2 A3 q3 bs', e = .returned (.agg #[.slice A1 n1 q1, .slice A2 n2 q2, .slice A3 (ax ps).length q3]) ∧ Below w.heap.size w w' ∧
      VZ w' [.slice A1 n1 q1, .slice A2 n2 q2, .slice A3 (ax ps).length q3] ps bs' ∧ ∀ b ∈ bs', w.heap.size ≤ b := by
  obtain ⟨Ad, cap, rfl, hl, hm⟩ := ai h;obtain ⟨i0, hi, b6, b7, b8⟩ := info_parts UB;have bA := ay (Nat.le_trans hl hm);have a8 : dh (fun p : Pt => p.atom.args.length) ps ≤ 1000000 := UC br hs;have bc := Lib.hid (fun w' hb => Gm ps _ bs w' (aU.below h hb) a8);have bf : Hid (qR (ax ps) ∧ (ax ps).length ≤ 1000000) := Lib.hid ⟨qo ps, Nat.le_trans (by have := mO ps []; simp only [List.length_nil] at this; show (dU ps []).length ≤ _; omega) a8⟩;have bt := Lib.hid (fun p hp t ht bu => Jz (ps := ps) p hp t ht bu);have HH := Lib.hid h;have HS := Lib.hid hs;clear hl hm hs a8 h;generalize hvars : ax ps = vars at *;have aE := Lib.hid hvars.symm;clear hvars;have aL : Below w.heap.size w (w.alloc (.cells #[.slice none 0 0, .slice none 0 0, .slice none 0 0] 134)) := (Below.refl _ _).alloc (Nat.le_refl _) _;have bg := Lib.hid aL;have bh := Lib.hid (heap_alloc_new w (.cells #[.slice none 0 0, .slice none 0 0, .slice none 0 0] 134));have bi := bc.out _ aL;clear aL bc
  go_enter Tryz.func84, Tryz.ntmps84
  go_wp2_with fail
  refine bi.mono ?_;rintro e w1 ⟨ae, v3, b3, rfl, aM, af⟩;obtain ⟨A3, q3, rfl, _⟩ := ai aM;have ag := ae.size;have e1 : (w.alloc (.cells #[.slice none 0 0, .slice none 0 0, .slice none 0 0] 134)).heap.size = w.heap.size + 1 := by simp
  have am : Below w1.heap.size w1 (w1.alloc (.cells #[.slice none 0 0, .slice none 0 0, .slice A3 vars.length q3] 134)) := (Below.refl _ _).alloc (Nat.le_refl _) _
  have bj : Hid (sW vars w w.heap.size w1.heap.size (w1.heap.size + 1) (.slice A3 vars.length q3) b3 (.slice none 0 0) [] [] [] (.slice none 0 0) [] [] [] (w1.alloc (.cells #[.slice none 0 0, .slice none 0 0, .slice A3 vars.length q3] 134))) := Lib.hid
    ⟨(am.block _ (by omega)).trans ((ae.block _ (by omega)).trans bh.out), heap_alloc_new _ _, Nat.le_refl _, by omega, by omega, cu.nil _, cu.nil _, fun b hb => by simp at hb, fun b hb => by simp at hb, fun b hb => by simp [Value.ownBlock] at hb, fun b hb => by simp [Value.ownBlock] at hb,
      bV.below aM am, fun b hb => ⟨by have := (af.own b hb).1; omega, af.lt hb, by have := (af.own b hb).1; omega⟩, (bg.out.trans (ae.mono (by omega))).trans (am.mono (by omega)), by simp⟩
  clear bi ae aM af ag e1 am bh bg;go_wp2;generalize w1.alloc (.cells #[.slice none 0 0, .slice none 0 0, .slice A3 vars.length q3] 134) = W at *
  go_loopw [11] (fun i wr => ∃ (k : Nat) (A1 : Option Addr) (q1 : Nat) (L1 : List Value) (aR : List Nat) (A2 : Option Addr) (q2 : Nat) (L2 : List Value) (b4 : List Nat), k ≤ ps.length ∧ i = .int .i64 k ∧ (bW (ps.take k)).length ≤ k ∧ (bH (ps.take k)).length ≤ k ∧
    sW vars w w.heap.size w1.heap.size (w1.heap.size + 1) (.slice A3 vars.length q3) b3 (.slice A1 (bW (ps.take k)).length q1) L1 (bW (ps.take k)) aR (.slice A2 (bH (ps.take k)).length q2) L2 (bH (ps.take k)) b4 wr) (fun i _ => ps.length - (intOf i).toNat)
  case atStart => exact ⟨0, none, 0, [], [], none, 0, [], [], Nat.zero_le _, rfl, Nat.le_refl _, Nat.le_refl _, bj.out⟩
  case round =>
    obtain ⟨k, A1, q1, L1, aR, A2, q2, L2, b4, hk, rfl, bv, bw, hI⟩ := hrel;clear bj;by_cases a5 : k < ps.length
    · obtain ⟨b, o, Ae, ce, bk, rfl, _, d0, d1, d2, bl, _⟩ := eU (aU.below HH.out hI.bel) a5
      have bB : (0 : Int) ≤ (k : Int) := by omega
      have bx : (k : Int) < (ps.length : Int) := by omega
      have ao := Lib.hid a5;have ap := Lib.hid (sK ps k a5);have aq := Lib.hid (OO ps k a5);have az : Hid ((bW (ps.take k)).length + 1 ≤ maxLen ∧ ((bW (ps.take k)).length + 1) * 40 ≤ 140737488355328) := Lib.hid (by unfold maxLen; omega);have aD : Hid ((bH (ps.take k)).length + 1 ≤ maxLen ∧ ((bH (ps.take k)).length + 1) * 40 ≤ 140737488355328) := Lib.hid (by unfold maxLen; omega);have ar : Below wr.heap.size wr (wr.alloc (.cells #[.bool ps[k].no, .string ps[k].atom.name, .slice Ae ps[k].atom.args.length ce] 209)) := (Below.refl _ _).alloc (Nat.le_refl _) _;have U := hI.later ar;have a0 := Lib.hid U;have q0 := aj U.r1 (o := 0);have a1 := aj U.r1 (o := 1);have a2 := aj U.r1 (o := 2);have av := fun o => aB U.r1 (o := o)
      have a7 : w1.heap.size < (wr.alloc (.cells #[.bool ps[k].no, .string ps[k].atom.name, .slice Ae ps[k].atom.args.length ce] 209)).heap.size := lt_of_block U.r1;have a9 := rG vars ps[k].atom A1 A2 (bW (ps.take k)).length q1 (bH (ps.take k)).length q2 (.slice A3 vars.length q3) _ _ b3 bk (wr.alloc (.cells #[.bool ps[k].no, .string ps[k].atom.name, .slice Ae ps[k].atom.args.length ce] 209)).drew (bV.below U.vs ((Below.refl _ _).drew)) bf.out.1 bf.out.2 (ak.below (eX bl) (ar.trans ((Below.refl _ _).drew.mono ar.size))) (bt.out _ (List.getElem_mem a5)) (Nat.le_trans (HS.out _ (List.getElem_mem a5)) (by omega));have aw := Lib.hid a9;have y0 : (wr.alloc (.cells #[.bool ps[k].no, .string ps[k].atom.name, .slice Ae ps[k].atom.args.length ce] 209)).cell? ⟨wr.heap.size, 0, none⟩ = some (.bool ps[k].no) := by go_simp
      have y1 : (wr.alloc (.cells #[.bool ps[k].no, .string ps[k].atom.name, .slice Ae ps[k].atom.args.length ce] 209)).cell? ⟨wr.heap.size, 1, none⟩ = some (.string ps[k].atom.name) := by go_simp
      have y2 : (wr.alloc (.cells #[.bool ps[k].no, .string ps[k].atom.name, .slice Ae ps[k].atom.args.length ce] 209)).cell? ⟨wr.heap.size, 2, none⟩ = some (.slice Ae ps[k].atom.args.length ce) := by go_simp
      clear hI U bl ar a9 hk;generalize ps[k] = p at *;clear a5;obtain ⟨no, nm, args⟩ := p;dsimp only at *;cases no
      · have aa := av 0
        have ab : Hid (bW (ps.take (k + 1)) = bW (ps.take k) ++ [⟨nm, args⟩]) := Lib.hid (by rw [ap.out]; rfl);have ac : Hid (bH (ps.take (k + 1)) = bH (ps.take k)) := Lib.hid (by rw [aq.out]; simp);clear av ap aq;go_wp2;generalize wr.alloc (.cells #[.bool false, .string nm, .slice Ae args.length ce] 209) = W1 at *
        go_region_law
          (first
            | (go_simp; go_at_call 86; refine aw.out.mono ?_; rintro e w2 ⟨v9, b9, rfl, J, a3, a6, a4⟩; obtain ⟨A9, c9, rfl, _⟩ := ai a6; have y := Lib.hid ((Below.refl W1.heap.size W1).drew.trans J); have I := Lib.hid (And.intro a3 (And.intro a6 a4)); have HL := Lib.hid (sW.lit (a := ⟨nm, args⟩) y.out a0.out.oH a0.out.c1.own I.out.1 I.out.2.1 rfl); replace q0 := cell_later y.out q0; replace a1 := cell_later y.out a1; replace a2 := cell_later y.out a2; replace a7 := Nat.lt_of_lt_of_le a7 y.out.size; clear J a3 a6 a4)
            | (refine gG (by rfl) (.tmp 27) (.tmp 32) _ (by rfl) (w1.heap.size + 1) 143 i0 (.agg #[.string ⟨#[]⟩, .slice none 0 0]) 2 40 Tryz.underlying131 hi b6 b7 b8 rfl (Nat.zero_lt_succ 1) (.slice A1 (bW (ps.take k)).length q1) (bW (ps.take k)).length L1 (by rfl) HL.out.1 (some ⟨w2.heap.size, 0, none⟩) 1 1 _ (by rfl) rfl HL.out.2.1 HL.out.2.2.1 az.out.1 az.out.2 HL.out.2.2.2 ?_; intro A5 c5 w5 h5 g5 l5; have HZ := Lib.hid (a0.out.app1 y.out I.out.1 I.out.2.1 I.out.2.2 rfl h5 g5 l5); replace q0 := HZ.out.1; replace a1 := HZ.out.2.1; replace a2 := HZ.out.2.2.1; replace aa := HZ.out.2.2.2.1; clear h5 g5 l5))
        all_goals
          have b5 := Lib.hid HZ.out.2.2.2.2;clear a0 HL HZ y I aw q0 a1 a2 a7 aa;go_wp2;go_roundw
          case rel => exact ⟨k + 1, A5, c5, _, _, A2, q2, L2, b4, ao.out, by go_num, by rw [ab.out]; simpa using bv, by rw [ac.out]; omega, by rw [ab.out, ac.out, List.length_append]; exact b5.out⟩
          case measure => have := ao.out; simp [intOf]; omega
      · have aa := av 1
        have ab : Hid (bW (ps.take (k + 1)) = bW (ps.take k)) := Lib.hid (by rw [ap.out]; simp);have ac : Hid (bH (ps.take (k + 1)) = bH (ps.take k) ++ [⟨nm, args⟩]) := Lib.hid (by rw [aq.out]; rfl);clear av ap aq;go_wp2;generalize wr.alloc (.cells #[.bool true, .string nm, .slice Ae args.length ce] 209) = W1 at *
        go_region_law
          (first
            | (go_simp; go_at_call 86; refine aw.out.mono ?_; rintro e w2 ⟨v9, b9, rfl, J, a3, a6, a4⟩; obtain ⟨A9, c9, rfl, _⟩ := ai a6; have y := Lib.hid ((Below.refl W1.heap.size W1).drew.trans J); have I := Lib.hid (And.intro a3 (And.intro a6 a4)); have HL := Lib.hid (sW.lit (a := ⟨nm, args⟩) y.out a0.out.oH a0.out.c2.own I.out.1 I.out.2.1 rfl); replace q0 := cell_later y.out q0; replace a1 := cell_later y.out a1; replace a2 := cell_later y.out a2; replace a7 := Nat.lt_of_lt_of_le a7 y.out.size; clear J a3 a6 a4)
            | (refine gG (by rfl) (.tmp 18) (.tmp 23) _ (by rfl) (w1.heap.size + 1) 143 i0 (.agg #[.string ⟨#[]⟩, .slice none 0 0]) 2 40 Tryz.underlying131 hi b6 b7 b8 rfl (Nat.zero_lt_succ 1) (.slice A2 (bH (ps.take k)).length q2) (bH (ps.take k)).length L2 (by rfl) HL.out.1 (some ⟨w2.heap.size, 0, none⟩) 1 1 _ (by rfl) rfl HL.out.2.1 HL.out.2.2.1 aD.out.1 aD.out.2 HL.out.2.2.2 ?_; intro A5 c5 w5 h5 g5 l5; have HZ := Lib.hid (a0.out.V4 y.out I.out.1 I.out.2.1 I.out.2.2 rfl h5 g5 l5); replace q0 := HZ.out.1; replace a1 := HZ.out.2.1; replace a2 := HZ.out.2.2.1; replace aa := HZ.out.2.2.2.1; clear h5 g5 l5))
        all_goals
          have b5 := Lib.hid HZ.out.2.2.2.2;clear a0 HL HZ y I aw q0 a1 a2 a7 aa;go_wp2;go_roundw
          case rel => exact ⟨k + 1, A1, q1, L1, aR, A5, c5, _, _, ao.out, by go_num, by rw [ab.out]; omega, by rw [ac.out]; simpa using bw, by rw [ab.out, ac.out, List.length_append]; exact b5.out⟩
          case measure => have := ao.out; simp [intOf]; omega
    · have he : k = ps.length := by omega
      subst he;have bx : ¬ (ps.length : Int) < (ps.length : Int) := by omega
      rw [List.take_of_length_le (Nat.le_refl _)] at hI;obtain ⟨W9, bn, bo, J, b1, b2, ag, bp, bq, a4⟩ := hI.done;have y0 := aj hI.r1 (o := 0);have y1 := aj hI.r1 (o := 1);have y2 := aj hI.r1 (o := 2);have f0 := aB hI.r0 (o := 0);have f1 := aB hI.r0 (o := 1);have f2 := aB hI.r0 (o := 2);have z0 := aj hI.r0 (o := 0);have z1 := aj hI.r0 (o := 1);have z2 := aj hI.r0 (o := 2);have u0 := aj J (o := 0);have u1 := aj J (o := 1);have u2 := aj J (o := 2);simp at y0 y1 y2 z0 z1 z2 u0 u1 u2;have bE := Lib.hid (rfl : vars = vars);have HD := Lib.hid (And.intro bo (And.intro ag (And.intro bp (And.intro bq a4))));have bz := Lib.hid bn;have HU := Lib.hid (And.intro u0 (And.intro u1 u2));clear hI bo J ag bp bq a4 bn u0 u1 u2;go_wp2;rw [← bz.out];refine bodyPost_ret (v := .agg #[.slice A1 (bW ps).length q1, .slice A2 (bH ps).length q2, .slice A3 vars.length q3]) (by simp [results, Tryz.results84, go_sem, HU.out.1, HU.out.2.1, HU.out.2.2]) rfl ?_
      exact ⟨A1, _, q1, A2, _, q2, A3, q3, rfl, HD.out.1, _, ⟨_, _, _, b1, b2, b3, rfl, rfl, aE.out ▸ HD.out.2.1, aE.out ▸ HD.out.2.2.1, aE.out ▸ HD.out.2.2.2.1⟩, HD.out.2.2.2.2⟩
def D.oV (w:World):Prop:=w.cell? ⟨2,0,none⟩=some (.iface 358 (.agg #[.pointer (some ⟨5,156,none⟩)]))
theorem D.oV.below {w w':World} (h:oV w) (y:Below w.heap.size w w'):oV w':=ξ y h
theorem D.UD (rs:List Ru) (k:Nat) (h:k < rs.length) (h0:(rs.take k).all dS=true):(rs.take (k+1)).all dS=dS rs[k]:=by
 rw [ρ h,List.all_append,h0]; simp
theorem D.Vw (rs:List Ru) (k:Nat) (h:k < rs.length) (h0:dS rs[k]=false):eH rs=1:=by
 unfold eH;rw [if_pos (List.all_eq_false.2 ⟨_,δ h,by simp [h0]⟩)]
theorem Dl (rs:List Ru) (v:Value) (bs:List Nat) (w:World) (h:dD w [v] rs bs) (hg:oV w):
  Calls Tryz.prog 234 #[v] w fun e w'=>e=.returned (.int .i64 (eH rs))∧Below w.heap.size w w':=by
 obtain ⟨Ad,cap,rfl,hl,hm⟩:=ai h;have ao:=ay (τ hl hm);have c1:=fun w' (y:Below w.heap.size w w') (hok:rs.all dS=true) (hf:rs.length≤8)=>CS rs _ bs w' (aI.below h y) hok hf
 have c2:=fun w' (y:Below w.heap.size w w')=>xI rs _ bs w' (aI.below h y)
 have c3:=fun w' (y:Below w.heap.size w w') (hok:rs.all dS=true) (hf:rs.length≤8)=>xH rs _ bs w' (aI.below h y) hf hok
 have C1:=η c1;have C2:=η c2;have C3:=η c3;have HG:=η hg;clear hl hm c1 c2 c3 hg
 go_enter Tryz.func234,Tryz.ntmps234
 go_wp2
 go_loopw [12] (fun i wr=>∃ k:Nat,k≤rs.length∧i=.int .i64 k∧(rs.take k).all dS=true∧Below w.heap.size w wr) (fun i _=>rs.length - (intOf i).toNat)
 case atStart=>exact ⟨0,ε,rfl,rfl,ϑ⟩
 case round=>
  obtain ⟨k,hk,rfl,a2,y⟩:=hrel;have HA:=η a2;clear a2;by_cases a1:k < rs.length
  ·clear C1 C2 C3 HG
   obtain ⟨b,o,Ae,ce,Af,cf,bk,rfl,_,d0,d1,d2,a4,_⟩:=eF (aI.below h y) a1;have HS:=η (UD rs k a1 HA.out);have I:=η (Vw rs k a1);have ap:(0:Int)≤(k:Int):=by omega
   have a9:(k:Int) < (rs.length:Int):=by omega
   have a5:=η a1;obtain ⟨b1,b2,_,a6,a7⟩:=dX a4;have hA:Below wr.heap.size wr (wr.alloc (.cells #[.string rs[k].head.name,.slice Ae rs[k].head.args.length ce,.slice Af rs[k].body.length cf] 77)):=ζ;have c1:=fun w' (hw:Below wr.heap.size wr w')=>Mc rs[k].body _ b2 w' (aU.below a7 hw)
   have c2:=fun w' (hw:Below wr.heap.size wr w')=>rq rs[k].head _ _ b1 w' (ak.below a6 hw)
   have x0:(wr.alloc (.cells #[.string rs[k].head.name,.slice Ae rs[k].head.args.length ce,.slice Af rs[k].body.length cf] 77)).cell? ⟨wr.heap.size,0,none⟩=some (.string rs[k].head.name):=by go_simp
   have x1:(wr.alloc (.cells #[.string rs[k].head.name,.slice Ae rs[k].head.args.length ce,.slice Af rs[k].body.length cf] 77)).cell? ⟨wr.heap.size,1,none⟩=some (.slice Ae rs[k].head.args.length ce):=by go_simp
   have X0:=η x0;have X1:=η x1;have C1:=η c1;have C2:=η c2;have HH:=η hA;have a0:Hid (dS rs[k]=(nJ rs[k].body && aZ rs[k].head)):=η rfl;clear h a4 a6 a7 c1 c2 hA x0 x1;generalize rs[k]=r at *;clear a1;obtain ⟨⟨nm,args⟩,body⟩:=r;dsimp only at *;cases h1:nJ body
   ·rw [h1] at C1
    have J:=η (I.out (by rw [a0.out,h1]; rfl));clear h1 a0 I HS
    go_wp2_with fail
    refine (C1.out _ HH.out).mono ?_;rintro e w2 ⟨rfl,U⟩;have B2:=y.trans ((HH.out.trans (U.mono HH.out.size)).mono y.size);go_wp2;go_ret;exact ⟨dO (by simp [J.out]),B2⟩
   ·rw [h1] at C1
    go_wp2_with fail
    refine (C1.out _ HH.out).mono ?_;rintro e w2 ⟨rfl,U⟩;have B1:=HH.out.trans (U.mono HH.out.size);have x0:=ξ U X0.out;have x1:=ξ U X1.out;clear X0 X1 C1
    go_wp2_with fail
    refine (C2.out _ B1).mono ?_;rintro e w3 ⟨rfl,a3⟩;have B3:=y.trans ((B1.trans (a3.mono B1.size)).mono y.size);cases h2:aZ ⟨nm,args⟩
    ·have J:=η (I.out (by rw [a0.out,h1,h2]; rfl))
     clear h1 a0 I HS;go_wp2;go_ret;exact ⟨dO (by simp [J.out]),B3⟩
    ·have J:=η (HS.out.trans (by rw [a0.out,h1,h2,Bool.and_true]))
     clear h1 a0 I HS;go_wp2;go_roundw
     case rel=>exact ⟨k+1,a5.out,by go_num,J.out,B3⟩
     case measure=>have:=a5.out; simp [intOf]; omega
  ·have he:k=rs.length:=by omega
   have a9:¬ (k:Int) < (rs.length:Int):=by omega
   have hok:rs.all dS=true:=by have:=HA.out; rw [he,ϕ ν] at this; exact this
   clear HA he h;by_cases hf:rs.length≤8
   ·have aa:¬ (8:Int) < (rs.length:Int):=by omega
    have hP:eH rs=if jC (aH rs)=false then 3 else if (rs.all fun r=>eG r.head r.body)=false then 4 else if kW rs=true then 5 else 0:=by
     unfold eH; rw [if_neg (by simp [hok]),if_neg (by omega)]
    have C4:=η fun w' y=>C1.out w' y hok hf
    have C5:=η fun w' y=>C3.out w' y hok hf
    have HP:=η hP;clear hok hf hP C1 C3
    go_wp2_with fail
    refine (C4.out _ y).mono ?_;rintro e w2 ⟨rfl,n,hM,U⟩;have B2:=y.trans (U.mono y.size);clear C4 hM;cases ha:jC (aH rs)
    ·have J:Hid (eH rs=3):=η (by rw [HP.out,if_pos ha])
     clear HP ha;go_wp2;go_ret;exact ⟨dO (by simp [J.out]),B2⟩
    ·replace HP:Hid (eH rs=if (rs.all fun r=>eG r.head r.body)=false then 4 else if kW rs=true then 5 else 0):=η (by rw [HP.out,if_neg (by simp [ha])])
     clear ha
     go_wp2_with fail
     refine (C2.out _ B2).mono ?_;rintro e w3 ⟨rfl,a3⟩;have B3:=B2.trans (a3.mono B2.size);clear C2;cases ht:(rs.all fun r=>eG r.head r.body)
     ·have J:Hid (eH rs=4):=η (by rw [HP.out,if_pos ht])
      clear HP ht;go_wp2;go_ret;exact ⟨dO (by simp [J.out]),B3⟩
     ·replace HP:Hid (eH rs=if kW rs=true then 5 else 0):=η (by rw [HP.out,if_neg (by simp [ht])])
      clear ht
      go_wp2_with fail
      refine (C5.out _ B3).mono ?_;rintro e w4 ⟨ab,hr⟩;have B4:=B3.trans (ab.mono B3.size);clear C5
      rcases hr with ⟨hc,a,rfl⟩ | ⟨hc,v',bs',rfl,_,_⟩
      ·have J:Hid (eH rs=5):=η (by rw [HP.out,if_pos hc])
       clear HP hc;have hA:Below w4.heap.size w4 (w4.alloc (.cells #[.pointer none] 246)):=ζ;have ac:=η ((HG.out.below (B4)).below hA);have ae:Hid ((w4.alloc (.cells #[.pointer none] 246)).cell? ⟨w4.heap.size,0,none⟩=some (.pointer none)):=η (by go_simp);have af:Hid ((w4.alloc (.cells #[.pointer none] 246)).frozen? ⟨w4.heap.size,0,none⟩=false):=η (by go_simp);have B5:=B4.trans (hA.mono B4.size);have ag:Hid (w.heap.size≤w4.heap.size):=η B4.size;clear hA
       go_wp2_with fail
       refine (EW _ _ _ _ ac.out ae.out af.out).mono ?_;rintro e w5 ⟨rfl,a8⟩;have S0:=ag.out;have B6:=((((B5.alloc (by simp; omega) (.cells #[.pointer (some ⟨w4.heap.size,0,none⟩)] 331)).alloc (by simp; omega) (.cells #[.pointer (some ⟨5,331,none⟩),.pointer (some ⟨w4.heap.size+1,0,none⟩),.int .u64 150] 342)).alloc (by simp; omega) (.cells #[.pointer (some ⟨5,331,none⟩),.pointer (some ⟨w4.heap.size+1,0,none⟩),.int .u64 150] 342)).alloc (by simp; omega) (.cells #[.pointer (some a)] 246)).setCell (p:=⟨w4.heap.size,0,none⟩) S0 (.pointer (some a));have am:Hid (Below w.heap.size w w5):=η (by rw [a8]; simpa using B6);clear B6 B5 B4 S0 a8;go_wp2;go_ret;exact ⟨dO (by simp [J.out]),am.out⟩
      ·have J:Hid (eH rs=0):=η (by rw [HP.out,if_neg (by simp [hc])])
       clear HP hc
       go_wp2_with fail
       refine (ER _ _).mono ?_;rintro e w5 ⟨rfl,rfl⟩;go_wp2;go_ret;exact ⟨dO (by simp [J.out]),B4.alloc B4.size _⟩
   ·have aa:(8:Int) < (rs.length:Int):=by omega
    have J:Hid (eH rs=2):=η (by unfold eH; rw [if_neg (by simp [hok]),if_pos (by omega)]);clear hok hf C1 C2 C3;go_wp2;go_ret;exact ⟨dO (by simp [J.out]),y⟩
end
section
open Go.ChangeShapes Go.WideShapes Go.RowKit D
theorem Vx : Tryz.prog.globalNamed "errors.errorType" = some 2 := by kernel_rfl
theorem Vy : (Tryz.prog.cutTypes.find? (·.1 == "internal/reflectlite.rtype")).map (·.2) = some 358 := by kernel_rfl
theorem RU:Tryz.prog.types.size=400:=by kernel_rfl
theorem MJ:((List.range 400).filter fun t=>Tryz.prog.rowNamed t [101,114,114,111,114]) = [156]:=by kernel_rfl
theorem handle_of_laid {W : World} (h : laidMetH Tryz.prog [("errors.errorType", Rows.laid_errors_errorType)] W) : oV W := by
 have I : laidMet Tryz.prog [] W ∧ handlesMet Tryz.prog [("errors.errorType", Rows.laid_errors_errorType)] W := h
 obtain ⟨name,u,J,U,e2,e3,e4,y⟩:=I.2 _ (ώ.2 rfl);have en:name = [101,114,114,111,114]:=(Option.some.inj U).symm;subst en;obtain rfl:=Option.some.inj (Vy.symm.trans e2);have hm:J ∈ (List.range 400).filter fun t=>Tryz.prog.rowNamed t [101,114,114,111,114]:=List.mem_filter.2 ⟨List.mem_range.2 (by rw [← RU]; exact e3),e4⟩
 rw [MJ] at hm;obtain rfl:=ώ.1 hm;have hh:typeHandle Tryz.prog 156=.pointer (some ⟨5,156,none⟩):=by kernel_rfl
 rw [hh] at y;unfold oV;simpa using World.var?_cell Vx y 0
noncomputable def laidWorld (os:Os):World:=
 let y:=World.holding Tryz.prog os ⟨#[],#[],[]⟩
 { y with heap:=y.heap.modify 2 fun
  | .cells _ t frozen=>.cells #[.iface 358 (.agg #[.pointer (some ⟨5,156,none⟩)])] t frozen
  | o=>o }
theorem laidWorld_met (os : Os) (args : Array Value) : laidMetH Tryz.prog [("errors.errorType", Rows.laid_errors_errorType)] ((laidWorld os).forCall (fun _ _ => 0) ⟨#[], args, []⟩).memory :=
 laidMetH_of_parts (laidMet_nil _ _) (by kernel_rfl)
end
end Go.Proofs.YtlmngncogomgeaaGreatDoor
