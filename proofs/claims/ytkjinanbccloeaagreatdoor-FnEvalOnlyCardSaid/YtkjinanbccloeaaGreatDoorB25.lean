/- Of the proof of FnEvalOnly: QryI, MatI, FctI. -/
import Derived.Test.YtkjinanbccloeaaGreatDoorB23
set_option linter.unusedVariables false
set_option maxHeartbeats 4000000
set_option maxRecDepth 100000
namespace Go.Proofs.YtkjinanbccloeaaGreatDoor
open Go.RowKit D
attribute [local go_sem ↓] Go.wp_at_zero Go.wp_at_succ
theorem VG:(Tryz.prog.info? 168).map (fun i=>(i.zero,i.size,i.bytes))=some (some (.agg #[.string ⟨#[]⟩,.slice none 0 0]),2,40):=by kernel_rfl
theorem D.wX (ps:List Pt):qL (aB ps):=kZ ps qM
theorem D.Ku {ps:List Pt}:∀ p ∈ ps,∀ t ∈ p.atom.args,t.var=true→t.name ∈ aB ps:=fun p I t J y=>(gq ps [] _).2 (.inr ⟨p,I,t,J,y,rfl⟩)
theorem D.VH {ps:List Pt} (h:ps.length≤1000) (I:∀ p ∈ ps,p.atom.args.length≤1000):iq (fun p:Pt=>p.atom.args.length) ps≤1000000:=by
 have:∀ (l:List Pt),(∀ p ∈ l,p.atom.args.length≤1000)→iq (fun p:Pt=>p.atom.args.length) l≤l.length * 1000:=by
  intro l
  induction l with
  | nil=>intro _; exact ε
  | cons p l ih=>
   intro y;have h1:=ih fun q hq=>y q (Δ _ hq)
   have U:=y p Γ;have J:iq (fun p:Pt=>p.atom.args.length) (p :: l)=p.atom.args.length+iq (fun p:Pt=>p.atom.args.length) l:=by simp [iq]
   rw [J,List.length_cons,Nat.add_mul];omega
 have:=this ps I;omega
theorem D.tu.done {vars:List ByteArray} {w:World} {I hb B:Nat} {J:Value} {b3:List Nat} {U:Value} {L1:List Value} {a0:List A} {a2:List Nat} {v2:Value} {L2:List Value} {a1:List A} {a3:List Nat} {wr:World}
  (h:tu vars w I hb B J b3 U L1 a0 a2 v2 L2 a1 a3 wr):
  ∃ W9,W9=((wr.setCell ⟨I,0,none⟩ U).setCell ⟨I,1,none⟩ v2).setCell ⟨I,2,none⟩ J∧Below w.heap.size w W9∧W9.heap[I]? = some (.cells #[U,v2,J] 164 (0,0))∧
   ∃ b1 b2,rq vars W9 [U] a0 b1∧rq vars W9 [v2] a1 b2∧ji W9 [J] vars b3∧∀ b ∈ b1 ++ b2 ++ b3,w.heap.size≤b:=by
 obtain ⟨b1,a4,a5⟩:=h.c1.slice;obtain ⟨b2,a6,a7⟩:=h.c2.slice;have h0:=h.h0;have h1:=h.h1;have hB:=h.hB;have g1:∀ b ∈ b1,B≤b:=fun b hb=>(a5 b hb).elim id (h.k1 b)
 have g2:∀ b ∈ b2,B≤b:=fun b hb=>(a7 b hb).elim id (h.k2 b)
 have keep:∀ b,b ≠ I→(((wr.setCell ⟨I,0,none⟩ U).setCell ⟨I,1,none⟩ v2).setCell ⟨I,2,none⟩ J).heap[b]? = wr.heap[b]?:=fun b y=>by
  rw [π _ _ _ _ y,π _ _ _ _ y,π _ _ _ _ y]
 refine ⟨_,rfl,((h.bel.setCell (p:=⟨I,0,none⟩) h0 _).setCell (p:=⟨I,1,none⟩) h0 _).setCell (p:=⟨I,2,none⟩) h0 _,?_,b1,b2,?_,?_,?_,?_⟩
 ·have:=bK (o:=2) (u:=J) (bK (o:=1) (u:=v2) (bK (o:=0) (u:=U) h.r0))
  simpa using this
 ·exact (dI _).keep a4 fun b y=>keep b (fun e=>by have:=g1 b y; omega)
 ·exact (dI _).keep a6 fun b y=>keep b (fun e=>by have:=g2 b y; omega)
 ·exact bV.keep h.vs fun b y=>keep b (h.kv b y).2.2
 ·intro b y
  rcases μ.1 y with y | y
  ·rcases μ.1 y with y | y
   ·have:=g1 b y; omega
   ·have:=g2 b y; omega
  ·exact (h.kv b y).1
theorem Kv (ps : List Pt) (v : Value) (bs : List Nat) (w : World) (h : gW w [v] ps bs) (br : ps.length ≤ 1000) (hs : ∀ p ∈ ps, p.atom.args.length ≤ 1000) :
    Calls Tryz.prog 113 #[v] w fun e w' => ∃ A1 n1 q1 A2 n2 q2 A3 q3 bs', e = .returned (.agg #[.slice A1 n1 q1, .slice A2 n2 q2, .slice A3 (aB ps).length q3]) ∧ Below w.heap.size w w' ∧
      Xz w' [.slice A1 n1 q1, .slice A2 n2 q2, .slice A3 (aB ps).length q3] ps bs' ∧ ∀ b ∈ bs', w.heap.size ≤ b := by
  obtain ⟨Ad, cap, rfl, hl, hm⟩ := ak h;obtain ⟨i0, hi, b6, b7, b8⟩ := info_parts VG;have bA := aA (Nat.le_trans hl hm);have a8 : iq (fun p : Pt => p.atom.args.length) ps ≤ 1000000 := VH br hs;have bc := Lib.hid (fun w' hb => Hw ps _ bs w' (dw.below h hb) a8);have bf : Hid (qL (aB ps) ∧ (aB ps).length ≤ 1000000) := Lib.hid ⟨wX ps, Nat.le_trans (by have := ny ps []; simp only [List.length_nil] at this; show (dU ps []).length ≤ _; omega) a8⟩;have bt := Lib.hid (fun p hp t ht bu => Ku (ps := ps) p hp t ht bu);have HH := Lib.hid h;have HS := Lib.hid hs;clear hl hm hs a8 h;generalize hvars : aB ps = vars at *;have aE := Lib.hid hvars.symm;clear hvars;have aL : Below w.heap.size w (w.alloc (.cells #[.slice none 0 0, .slice none 0 0, .slice none 0 0] 164)) := (Below.refl _ _).alloc (Nat.le_refl _) _;have bg := Lib.hid aL;have bh := Lib.hid (heap_alloc_new w (.cells #[.slice none 0 0, .slice none 0 0, .slice none 0 0] 164));have bi := bc.out _ aL;clear aL bc
  go_enter Tryz.func113, Tryz.ntmps113
  go_wp2_with fail
  refine bi.mono ?_;rintro e w1 ⟨ae, v3, b3, rfl, aM, af⟩;obtain ⟨A3, q3, rfl, _⟩ := ak aM;have ag := ae.size;have e1 : (w.alloc (.cells #[.slice none 0 0, .slice none 0 0, .slice none 0 0] 164)).heap.size = w.heap.size + 1 := by simp
  have am : Below w1.heap.size w1 (w1.alloc (.cells #[.slice none 0 0, .slice none 0 0, .slice A3 vars.length q3] 164)) := (Below.refl _ _).alloc (Nat.le_refl _) _
  have bj : Hid (tu vars w w.heap.size w1.heap.size (w1.heap.size + 1) (.slice A3 vars.length q3) b3 (.slice none 0 0) [] [] [] (.slice none 0 0) [] [] [] (w1.alloc (.cells #[.slice none 0 0, .slice none 0 0, .slice A3 vars.length q3] 164))) := Lib.hid
    ⟨(am.block _ (by omega)).trans ((ae.block _ (by omega)).trans bh.out), heap_alloc_new _ _, Nat.le_refl _, by omega, by omega, aZ.nil _, aZ.nil _, fun b hb => by simp at hb, fun b hb => by simp at hb, fun b hb => by simp [Value.ownBlock] at hb, fun b hb => by simp [Value.ownBlock] at hb,
      bV.below aM am, fun b hb => ⟨by have := (af.own b hb).1; omega, af.lt hb, by have := (af.own b hb).1; omega⟩, (bg.out.trans (ae.mono (by omega))).trans (am.mono (by omega)), by simp⟩
  clear bi ae aM af ag e1 am bh bg;go_wp2;generalize w1.alloc (.cells #[.slice none 0 0, .slice none 0 0, .slice A3 vars.length q3] 164) = W at *
  go_loopw [11] (fun i wr => ∃ (k : Nat) (A1 : Option Addr) (q1 : Nat) (L1 : List Value) (aR : List Nat) (A2 : Option Addr) (q2 : Nat) (L2 : List Value) (b4 : List Nat), k ≤ ps.length ∧ i = .int .i64 k ∧ (fV (ps.take k)).length ≤ k ∧ (dL (ps.take k)).length ≤ k ∧
    tu vars w w.heap.size w1.heap.size (w1.heap.size + 1) (.slice A3 vars.length q3) b3 (.slice A1 (fV (ps.take k)).length q1) L1 (fV (ps.take k)) aR (.slice A2 (dL (ps.take k)).length q2) L2 (dL (ps.take k)) b4 wr) (fun i _ => ps.length - (intOf i).toNat)
  case atStart => exact ⟨0, none, 0, [], [], none, 0, [], [], Nat.zero_le _, rfl, Nat.le_refl _, Nat.le_refl _, bj.out⟩
  case round =>
    obtain ⟨k, A1, q1, L1, aR, A2, q2, L2, b4, hk, rfl, bv, bw, hI⟩ := hrel;clear bj;by_cases a5 : k < ps.length
    · obtain ⟨b, o, Ae, ce, bk, rfl, _, d0, d1, d2, bl, _⟩ := iH (dw.below HH.out hI.bel) a5
      have bB : (0 : Int) ≤ (k : Int) := by omega
      have bx : (k : Int) < (ps.length : Int) := by omega
      have ao := Lib.hid a5;have ap := Lib.hid (PU ps k a5);have aq := Lib.hid (PV ps k a5);have az : Hid ((fV (ps.take k)).length + 1 ≤ maxLen ∧ ((fV (ps.take k)).length + 1) * 40 ≤ 140737488355328) := Lib.hid (by unfold maxLen; omega);have aD : Hid ((dL (ps.take k)).length + 1 ≤ maxLen ∧ ((dL (ps.take k)).length + 1) * 40 ≤ 140737488355328) := Lib.hid (by unfold maxLen; omega);have ar : Below wr.heap.size wr (wr.alloc (.cells #[.bool ps[k].no, .string ps[k].atom.name, .slice Ae ps[k].atom.args.length ce] 42)) := (Below.refl _ _).alloc (Nat.le_refl _) _;have U := hI.later ar;have a0 := Lib.hid U;have q0 := ai U.r1 (o := 0);have a1 := ai U.r1 (o := 1);have a2 := ai U.r1 (o := 2);have av := fun o => ax U.r1 (o := o)
      have a7 : w1.heap.size < (wr.alloc (.cells #[.bool ps[k].no, .string ps[k].atom.name, .slice Ae ps[k].atom.args.length ce] 42)).heap.size := lt_of_block U.r1;have a9 := zn vars ps[k].atom A1 A2 (fV (ps.take k)).length q1 (dL (ps.take k)).length q2 (.slice A3 vars.length q3) _ _ b3 bk (wr.alloc (.cells #[.bool ps[k].no, .string ps[k].atom.name, .slice Ae ps[k].atom.args.length ce] 42)).drew (bV.below U.vs ((Below.refl _ _).drew)) bf.out.1 bf.out.2 (aj.below (iV bl) (ar.trans ((Below.refl _ _).drew.mono ar.size))) (bt.out _ (List.getElem_mem a5)) (Nat.le_trans (HS.out _ (List.getElem_mem a5)) (by omega));have aw := Lib.hid a9;have y0 : (wr.alloc (.cells #[.bool ps[k].no, .string ps[k].atom.name, .slice Ae ps[k].atom.args.length ce] 42)).cell? ⟨wr.heap.size, 0, none⟩ = some (.bool ps[k].no) := by go_simp
      have y1 : (wr.alloc (.cells #[.bool ps[k].no, .string ps[k].atom.name, .slice Ae ps[k].atom.args.length ce] 42)).cell? ⟨wr.heap.size, 1, none⟩ = some (.string ps[k].atom.name) := by go_simp
      have y2 : (wr.alloc (.cells #[.bool ps[k].no, .string ps[k].atom.name, .slice Ae ps[k].atom.args.length ce] 42)).cell? ⟨wr.heap.size, 2, none⟩ = some (.slice Ae ps[k].atom.args.length ce) := by go_simp
      clear hI U bl ar a9 hk;generalize ps[k] = p at *;clear a5;obtain ⟨no, nm, args⟩ := p;dsimp only at *;cases no
      · have aa := av 0
        have ab : Hid (fV (ps.take (k + 1)) = fV (ps.take k) ++ [⟨nm, args⟩]) := Lib.hid (by rw [ap.out]; rfl);have ac : Hid (dL (ps.take (k + 1)) = dL (ps.take k)) := Lib.hid (by rw [aq.out]; simp);clear av ap aq;go_wp2;generalize wr.alloc (.cells #[.bool false, .string nm, .slice Ae args.length ce] 42) = W1 at *
        go_region_law
          (first
            | (go_simp; go_at_call 114; refine aw.out.mono ?_; rintro e w2 ⟨v9, b9, rfl, J, a3, a6, a4⟩; obtain ⟨A9, c9, rfl, _⟩ := ak a6; have y := Lib.hid ((Below.refl W1.heap.size W1).drew.trans J); have I := Lib.hid (And.intro a3 (And.intro a6 a4)); have HL := Lib.hid (tu.lit (a := ⟨nm, args⟩) y.out a0.out.oC a0.out.c1.own I.out.1 I.out.2.1 rfl); replace q0 := cell_later y.out q0; replace a1 := cell_later y.out a1; replace a2 := cell_later y.out a2; replace a7 := Nat.lt_of_lt_of_le a7 y.out.size; clear J a3 a6 a4)
            | (refine gB (by rfl) (.tmp 27) (.tmp 32) _ (by rfl) (w1.heap.size + 1) 168 i0 (.agg #[.string ⟨#[]⟩, .slice none 0 0]) 2 40 Tryz.underlying162 hi b6 b7 b8 rfl (Nat.zero_lt_succ 1) (.slice A1 (fV (ps.take k)).length q1) (fV (ps.take k)).length L1 (by rfl) HL.out.1 (some ⟨w2.heap.size, 0, none⟩) 1 1 _ (by rfl) rfl HL.out.2.1 HL.out.2.2.1 az.out.1 az.out.2 HL.out.2.2.2 ?_; intro A5 c5 w5 h5 g5 l5; have HZ := Lib.hid (a0.out.app1 y.out I.out.1 I.out.2.1 I.out.2.2 rfl h5 g5 l5); replace q0 := HZ.out.1; replace a1 := HZ.out.2.1; replace a2 := HZ.out.2.2.1; replace aa := HZ.out.2.2.2.1; clear h5 g5 l5))
        all_goals
          have b5 := Lib.hid HZ.out.2.2.2.2;clear a0 HL HZ y I aw q0 a1 a2 a7 aa;go_wp2;go_roundw
          case rel => exact ⟨k + 1, A5, c5, _, _, A2, q2, L2, b4, ao.out, by go_num, by rw [ab.out]; simpa using bv, by rw [ac.out]; omega, by rw [ab.out, ac.out, List.length_append]; exact b5.out⟩
          case measure => have := ao.out; simp [intOf]; omega
      · have aa := av 1
        have ab : Hid (fV (ps.take (k + 1)) = fV (ps.take k)) := Lib.hid (by rw [ap.out]; simp);have ac : Hid (dL (ps.take (k + 1)) = dL (ps.take k) ++ [⟨nm, args⟩]) := Lib.hid (by rw [aq.out]; rfl);clear av ap aq;go_wp2;generalize wr.alloc (.cells #[.bool true, .string nm, .slice Ae args.length ce] 42) = W1 at *
        go_region_law
          (first
            | (go_simp; go_at_call 114; refine aw.out.mono ?_; rintro e w2 ⟨v9, b9, rfl, J, a3, a6, a4⟩; obtain ⟨A9, c9, rfl, _⟩ := ak a6; have y := Lib.hid ((Below.refl W1.heap.size W1).drew.trans J); have I := Lib.hid (And.intro a3 (And.intro a6 a4)); have HL := Lib.hid (tu.lit (a := ⟨nm, args⟩) y.out a0.out.oC a0.out.c2.own I.out.1 I.out.2.1 rfl); replace q0 := cell_later y.out q0; replace a1 := cell_later y.out a1; replace a2 := cell_later y.out a2; replace a7 := Nat.lt_of_lt_of_le a7 y.out.size; clear J a3 a6 a4)
            | (refine gB (by rfl) (.tmp 18) (.tmp 23) _ (by rfl) (w1.heap.size + 1) 168 i0 (.agg #[.string ⟨#[]⟩, .slice none 0 0]) 2 40 Tryz.underlying162 hi b6 b7 b8 rfl (Nat.zero_lt_succ 1) (.slice A2 (dL (ps.take k)).length q2) (dL (ps.take k)).length L2 (by rfl) HL.out.1 (some ⟨w2.heap.size, 0, none⟩) 1 1 _ (by rfl) rfl HL.out.2.1 HL.out.2.2.1 aD.out.1 aD.out.2 HL.out.2.2.2 ?_; intro A5 c5 w5 h5 g5 l5; have HZ := Lib.hid (a0.out.XA y.out I.out.1 I.out.2.1 I.out.2.2 rfl h5 g5 l5); replace q0 := HZ.out.1; replace a1 := HZ.out.2.1; replace a2 := HZ.out.2.2.1; replace aa := HZ.out.2.2.2.1; clear h5 g5 l5))
        all_goals
          have b5 := Lib.hid HZ.out.2.2.2.2;clear a0 HL HZ y I aw q0 a1 a2 a7 aa;go_wp2;go_roundw
          case rel => exact ⟨k + 1, A1, q1, L1, aR, A5, c5, _, _, ao.out, by go_num, by rw [ab.out]; omega, by rw [ac.out]; simpa using bw, by rw [ab.out, ac.out, List.length_append]; exact b5.out⟩
          case measure => have := ao.out; simp [intOf]; omega
    · have he : k = ps.length := by omega
      subst he;have bx : ¬ (ps.length : Int) < (ps.length : Int) := by omega
      rw [List.take_of_length_le (Nat.le_refl _)] at hI;obtain ⟨W9, bn, bo, J, b1, b2, ag, bp, bq, a4⟩ := hI.done;have y0 := ai hI.r1 (o := 0);have y1 := ai hI.r1 (o := 1);have y2 := ai hI.r1 (o := 2);have f0 := ax hI.r0 (o := 0);have f1 := ax hI.r0 (o := 1);have f2 := ax hI.r0 (o := 2);have z0 := ai hI.r0 (o := 0);have z1 := ai hI.r0 (o := 1);have z2 := ai hI.r0 (o := 2);have u0 := ai J (o := 0);have u1 := ai J (o := 1);have u2 := ai J (o := 2);simp at y0 y1 y2 z0 z1 z2 u0 u1 u2;have bE := Lib.hid (rfl : vars = vars);have HD := Lib.hid (And.intro bo (And.intro ag (And.intro bp (And.intro bq a4))));have bz := Lib.hid bn;have HU := Lib.hid (And.intro u0 (And.intro u1 u2));clear hI bo J ag bp bq a4 bn u0 u1 u2;go_wp2;rw [← bz.out];refine bodyPost_ret (v := .agg #[.slice A1 (fV ps).length q1, .slice A2 (dL ps).length q2, .slice A3 vars.length q3]) (by simp [results, Tryz.results113, go_sem, HU.out.1, HU.out.2.1, HU.out.2.2]) rfl ?_
      exact ⟨A1, _, q1, A2, _, q2, A3, q3, rfl, HD.out.1, _, ⟨_, _, _, b1, b2, b3, rfl, rfl, aE.out ▸ HD.out.2.1, aE.out ▸ HD.out.2.2.1, aE.out ▸ HD.out.2.2.2.1⟩, HD.out.2.2.2.2⟩
theorem D.TJ {a b:ByteArray} (h:¬ a=b):¬ a.toList=b.toList:=by
 rw [ByteArray.toList_eq,ByteArray.toList_eq];exact fun e=>h (ByteArray.ext (Array.toList_inj.mp e))
theorem D.wY {a:ByteArray} (h:a ≠ ⟨#[]⟩):a.toList.isEmpty=false:=by
 rw [ByteArray.toList_eq,List.isEmpty_eq_false_iff];intro e;apply h;apply ByteArray.ext;exact Array.toList_inj.mp e
theorem D.wZ:(⟨#[]⟩:ByteArray).toList.isEmpty=true:=by rw [ByteArray.toList_eq]; rfl
structure D.jA (vars:List ByteArray) (blk o:Nat) (w:World) (b:Bd) (w':World):Prop where
 at_:gJ vars b blk o w'
 ok:jq vars b
 kept:cZ blk o w w'
def D.Dz (y:List T):Prop:=∀ t ∈ y,t.var=false∧t.name ≠ ⟨#[]⟩
def D.Kw (vars:List ByteArray) (blk o:Nat) (w:World) (y:List T) (m:Bd × Bool) (e:Ending) (w':World):Prop:=
 ∃ (I:Bd) (r:Bool),e=.returned (.bool r)∧jA vars blk o w I w'∧(Dz y→m=(I,r))∧(¬ Dz y→r=false)
theorem D.Kw.no {vars:List ByteArray} {blk o:Nat} {w w':World} {I:List T} {m:Bd × Bool} {y:Bd} (h:jA vars blk o w y w') (hm:Dz I→m=(y,false)):Kw vars blk o w I m (.returned (.bool false)) w':=⟨y,false,rfl,h,hm,fun _=>rfl⟩
theorem NE (vars:List ByteArray) (hv:jr vars) (b:Bd) (am:jq vars b) (a f:A) (Ae Af:Option Addr) (ce cf:Nat) (b1 b2:List Nat) (blk o:Nat) (w:World) (hb:gJ vars b blk o w) (h:jS vars w [.slice Ae a.args.length ce] a.args b1)
  (hf:eP w [.slice Af f.args.length cf] f.args b2) (hin:∀ t ∈ a.args,t.var=true→t.name ∈ vars) (hc:∀ t ∈ a.args,t.var=false→t.name ≠ ⟨#[]⟩) (h1:blk ∉ b1) (h2:blk ∉ b2) (bo:a.args.length≤1000000):
  Calls Tryz.prog 154 #[.pointer (some ⟨blk,o,none⟩),.agg #[.string a.name,.slice Ae a.args.length ce],.agg #[.string f.name,.slice Af f.args.length cf]] w (Kw vars blk o w f.args (aC a f b)):=by
 obtain ⟨an,args⟩:=a;obtain ⟨fn,y⟩:=f;dsimp only at *;have hA:Below w.heap.size w ((w.alloc (.cells #[.string an,.slice Ae args.length ce] 168)).alloc (.cells #[.string fn,.slice Af y.length cf] 33)):=(ζ).alloc (by simp) _;have HA:=η hA;have a0:=hb.lt;by_cases ao:an=fn∧args.length=y.length
 rotate_left
 ·have e0:aC ⟨an,args⟩ ⟨fn,y⟩ b=(b,false):=by unfold aC; rw [if_neg ao]
  rw [e0];have HP:Hid (jA vars blk o w b ((w.alloc (.cells #[.string an,.slice Ae args.length ce] 168)).alloc (.cells #[.string fn,.slice Af y.length cf] 33))):=η ⟨hb.keep (hA.block _ a0),am,cZ.of_below hA a0⟩;clear hA hb hf h e0;by_cases hn:an=fn
  ·have hl:¬ ((args.length:Nat):Int)=((y.length:Nat):Int):=fun e=>ao ⟨hn,by omega⟩
   subst hn
   go_enter Tryz.func154,Tryz.ntmps154
   go_wp2;go_ret;exact Kw.no HP.out fun _=>rfl
  ·have c3:=TJ hn
   go_enter Tryz.func154,Tryz.ntmps154
   go_wp2;go_ret;exact Kw.no HP.out fun _=>rfl
 ·obtain ⟨rfl,hl⟩:=ao
  have e0:aC ⟨an,args⟩ ⟨an,y⟩ b=bY args y b:=by unfold aC; rw [if_pos ⟨rfl,hl⟩]
  rw [e0,hl];rw [hl] at h hA HA bo;have bp:(w.alloc (.cells #[.string an,.slice Ae y.length ce] 168)).heap.size=w.heap.size+1:=by simp
  have aE:((w.alloc (.cells #[.string an,.slice Ae y.length ce] 168)).alloc (.cells #[.string an,.slice Af y.length cf] 33)).heap[w.heap.size+1]? = some (.cells #[.string an,.slice Af y.length cf] 33 (0,0)):=by
   have:=ω (w.alloc (.cells #[.string an,.slice Ae y.length ce] 168)) (.cells #[.string an,.slice Af y.length cf] 33);simpa using this
  have HX:=η (ι h (ι hf (ι hin hc)))
  have aL:Hid ((Dz y→bY args y b=bY (args.drop 0) (y.drop 0) b)∧(∀ j (h:j < y.length),j < 0→y[j].var=false∧y[j].name ≠ ⟨#[]⟩)∧jA vars blk o w b ((w.alloc (.cells #[.string an,.slice Ae y.length ce] 168)).alloc (.cells #[.string an,.slice Af y.length cf] 33))∧((w.alloc (.cells #[.string an,.slice Ae y.length ce] 168)).alloc (.cells #[.string an,.slice Af y.length cf] 33)).heap[w.heap.size+1]? = some (.cells #[.string an,.slice Af y.length cf] 33 (0,0))):=
   η ⟨fun _=>rfl,fun j _ hj=>absurd hj (by omega),⟨hb.keep (hA.block _ a0),am,cZ.of_below hA a0⟩,aE⟩
  clear hA hb hf h e0 hin hc am HA aE bp
  go_enter Tryz.func154,Tryz.ntmps154
  go_wp2;generalize (w.alloc (.cells #[.string an,.slice Ae y.length ce] 168)).alloc (.cells #[.string an,.slice Af y.length cf] 33)=W at *
  go_loopw [28] (fun i wr=>∃ (k:Nat) (I:Bd),k≤y.length∧i=.int .i64 k∧(Dz y→bY args y b=bY (args.drop k) (y.drop k) I)∧(∀ j (h:j < y.length),j < k→y[j].var=false∧y[j].name ≠ ⟨#[]⟩)∧jA vars blk o w I wr∧wr.heap[w.heap.size+1]? = some (.cells #[.string an,.slice Af y.length cf] 33 (0,0))) (fun i _=>y.length - (intOf i).toNat)
  case atStart=>exact ⟨0,b,ε,rfl,aL.out⟩
  case round=>
   obtain ⟨k,I,hk,rfl,a6,ab,hI,hq⟩:=hrel;clear aL;by_cases a2:k < y.length
   ·have a9:k < args.length:=by omega
    have c4:=hI.kept.grow.size;obtain ⟨bq,oq,rfl,bR,f0,f1,br⟩:=wI (hI.kept.keep (cO vars) HX.out.1 h1) a9;obtain ⟨aM,aR,rfl,bX,g0,g1,b3⟩:=dY (hI.kept.keep aN HX.out.2.1 h2) a2;have ap:=η (HX.out.2.2.1 _ (δ a9));have HC:=η (HX.out.2.2.2 _ (δ a9));have b4:args.drop k=args[k] :: args.drop (k+1):=List.drop_eq_getElem_cons a9;have b5:y.drop k=y[k] :: y.drop (k+1):=List.drop_eq_getElem_cons a2;rw [b4,b5,JX hI.ok _ _ _ _ HC.out] at a6;have aq:Hid (¬ (y[k].var=false∧y[k].name ≠ ⟨#[]⟩)→¬ Dz y):=η fun h1 h2=>h1 (h2 _ (δ a2))
    have b6:Hid (y[k].var=false→y[k].name ≠ ⟨#[]⟩→∀ j (h:j < y.length),j < k+1→y[j].var=false∧y[j].name ≠ ⟨#[]⟩):=η fun h1 h2 j h hj=>by
     by_cases e:j=k
     ·subst e; exact ⟨h1,h2⟩
     ·exact ab j h (by omega)
    have a7:Below wr.heap.size wr (wr.alloc (.cells #[.int .i64 (jI vars args[k]),.string (jJ args[k])] 244)):=ζ;have b7:=hI.at_.keep (a7.block _ hI.at_.lt);have a1:=uT vars hv I args[k] ap.out blk o _ b7;have c5:=ξ a7 g0;have c6:=ξ a7 g1;have b8:wr.cell? ⟨w.heap.size+1,1,none⟩=some (.slice (some ⟨aM,aR,none⟩) y.length cf):=ai hq;replace b8:=ξ a7 b8;have b9:=ψ hq;have c7:(0:Int)≤(k:Int):=by omega
    have bt:(k:Int) < (y.length:Int):=by omega
    have J:=η a6;have HI:=η hI;have aa:=η a7;have HQ:=η hq;have ac:=η a2;have bu:=η b3;clear g0 g1;clear hI a7 b7 a6 b4 b5 hq br b3 hk ab;generalize hsn:jI vars args[k]=sn at *;generalize hss:jJ args[k]=ss at *;generalize args[k]=t at *;generalize y[k]=f at *;obtain ⟨fv,fw⟩:=f;dsimp only at *;have bc:=η hsn;clear a9 a2 hsn hss;have ar:=η (jA.mk (HI.out.at_.keep (aa.out.block _ HI.out.at_.lt)) HI.out.ok (HI.out.kept.trans (cZ.of_below aa.out HI.out.at_.lt)));cases fv
    rotate_left
    ·clear a1 J
     go_wp2;go_ret;exact Kw.no ar.out fun h=>absurd h (aq.out (by simp))
    by_cases ae:fw=⟨#[]⟩
    ·have bf:=wZ
     subst ae;clear a1 J;go_wp2;go_ret;exact Kw.no ar.out fun h=>absurd h (aq.out (by simp))
    have bf:=wY ae;have bg:=η (b6.out rfl ae);clear aq b6 ar
    go_wp2_with fail
    refine a1.mono ?_;rintro e w2 ⟨rfl,av⟩;have a4:=aa.out.trans (av.mono aa.out.size);have z0:w2.cell? ⟨wr.heap.size,0,none⟩=some (.int .i64 sn):=ξ av (by go_simp);have c8:wr.heap.size < w2.heap.size:=lt_of_cell z0;have U:=η (HI.out.at_.keep (a4.block _ HI.out.at_.lt));have af:=η (HI.out.kept.trans (cZ.of_below a4 HI.out.at_.lt));have aw:=η ((a4.block _ b9).trans HQ.out);have a8:=η HI.out.ok;have bv:Hid (blk ≠ wr.heap.size):=η (by omega);clear a1 av a4 HI HQ aa;by_cases hw:(dA I t).name=⟨#[]⟩
    ·obtain ⟨az,ag⟩:=Nv a8.out HC.out hw
     have hw':=wZ;replace J:=η (fun h=>(J.out h).trans (if_pos hw));rw [hw];have hn:=ap.out az;have hi:=List.idxOf_lt_length_of_mem hn;have bh:=hv.few;have hlen:=a8.out.lt hn ag;have bw:sn=((vars.idxOf t.name:Nat):Int):=by rw [← bc.out]; unfold jI; simp [az]
     have bx:=η (a8.out.snoc hn ag ae bu.out);have a3:=U.out.bind hv a8.out hn ag (v:=fw);subst bw;clear az ag bc hw HC ap hn;generalize t.name=nm at *;generalize vars.idxOf nm=j at *;have bz:=U.out.bd I.length (by omega);obtain ⟨zb,aD,_⟩:=bz;have x0:=U.out.wd j (by omega);have x1:=U.out.fz j (by omega);have x2:=U.out.ct;have x3:=U.out.fz 24 (by omega);have x4:=U.out.fz (12+I.length) (by omega);rw [← Nat.add_assoc] at x4;have c9:(0:Int)≤(j:Int):=by omega
     have ca:(j:Int) < 12:=by omega
     have cb:(0:Int)≤(I.length:Int):=by omega
     have cc:(I.length:Int) < 12:=by omega
     have p1:=D.jK w2 blk (o+j) (.string fw) x0;have p2:=D.jK (w2.setCell ⟨blk,o+j,none⟩ (.string fw)) blk (o+12+I.length) (.int .i64 (j:Nat)) (u:=.int .i64 zb) (by rw [p1,if_neg (by omega)]; exact aD);have bi:blk ≠ wr.heap.size:=bv.out;have bA:blk ≠ w.heap.size+1:=by omega
     have z1:(w2.setCell ⟨blk,o+j,none⟩ (.string fw)).drew.cell? ⟨wr.heap.size,0,none⟩=some (.int .i64 (j:Nat)):=(World.cell?_setCell_far _ _ _ _ bi).trans z0;have c1:(w2.setCell ⟨blk,o+j,none⟩ (.string fw)).drew.cell? ⟨blk,o+24,none⟩=some (.int .i64 I.length):=((p1 _).trans (if_neg (by omega))).trans x2;have d1:(w2.setCell ⟨blk,o+j,none⟩ (.string fw)).drew.cell? ⟨blk,o+12+I.length,none⟩=some (.int .i64 zb):=((p1 _).trans (if_neg (by omega))).trans aD;have c2:((w2.setCell ⟨blk,o+j,none⟩ (.string fw)).drew.setCell ⟨blk,o+12+I.length,none⟩ (.int .i64 (j:Nat))).drew.cell? ⟨blk,o+24,none⟩=some (.int .i64 I.length):=((p2 _).trans (if_neg (by omega))).trans c1;have g1:(w2.setCell ⟨blk,o+j,none⟩ (.string fw)).drew.frozen? ⟨blk,o+12+I.length,none⟩=false:=(World.frozen?_setCell _ _ _ _).trans x4
     have g2:((w2.setCell ⟨blk,o+j,none⟩ (.string fw)).drew.setCell ⟨blk,o+12+I.length,none⟩ (.int .i64 (j:Nat))).drew.frozen? ⟨blk,o+24,none⟩=false:=(World.frozen?_setCell _ _ _ _).trans ((World.frozen?_setCell _ _ _ _).trans x3)
     have a5:gJ vars (I ++ [(nm,fw)]) blk o (((w2.setCell ⟨blk,o+j,none⟩ (.string fw)).drew.setCell ⟨blk,o+12+I.length,none⟩ (.int .i64 (j:Nat))).drew.setCell ⟨blk,o+24,none⟩ (.int .i64 ((I.length:Int)+1))):=by
      have e:(((I ++ [(nm,fw)]).length:Nat):Int)=(I.length:Int)+1:=by simp
      rw [e] at a3;exact a3.keep rfl
     have bj:cZ blk o w (((w2.setCell ⟨blk,o+j,none⟩ (.string fw)).drew.setCell ⟨blk,o+12+I.length,none⟩ (.int .i64 (j:Nat))).drew.setCell ⟨blk,o+24,none⟩ (.int .i64 ((I.length:Int)+1))):=by
      have k1:=af.out.trans (cZ.put w2 j (by omega) (.string fw));have k2:=k1.trans (cZ.of_below (ϑ.drew) (κ a0 k1.grow.size));have k3:=k2.trans (by have:=cZ.put (blk:=blk) (o:=o) (w2.setCell ⟨blk,o+j,none⟩ (.string fw)).drew (12+I.length) (by omega) (.int .i64 (j:Nat)); rw [← Nat.add_assoc] at this; exact this);have k4:=k3.trans (cZ.of_below (ϑ.drew) (κ a0 k3.grow.size));exact k4.trans (cZ.put _ 24 (by omega) _)
     have bl:(((w2.setCell ⟨blk,o+j,none⟩ (.string fw)).drew.setCell ⟨blk,o+12+I.length,none⟩ (.int .i64 (j:Nat))).drew.setCell ⟨blk,o+24,none⟩ (.int .i64 ((I.length:Int)+1))).heap[w.heap.size+1]? = some (.cells #[.string an,.slice (some ⟨aM,aR,none⟩) y.length cf] 33 (0,0)):=by
      rw [π _ _ _ _ (by show w.heap.size+1 ≠ blk; omega)];show (World.setCell _ _ _).heap[_]? = _;rw [π _ _ _ _ (by show w.heap.size+1 ≠ blk; omega)];show (World.setCell _ _ _).heap[_]? = _;rw [π _ _ _ _ (by show w.heap.size+1 ≠ blk; omega)];exact aw.out
     have bB:=η a5;have bE:=η bj;have bL:=η bl;clear a3 a5 p1 p2 hi hlen bh bi bA bj bl af aw U;go_wp2;go_region;generalize (w2.setCell ⟨blk,o+j,none⟩ (.string fw)).drew=S1 at *;clear x0 x1 x2 x3 x4 aD z0;go_wp2;go_region;generalize (S1.setCell ⟨blk,o+12+I.length,none⟩ (.int .i64 (j:Nat))).drew=S2 at *;clear c1 d1 z1 g1;go_wp2;go_roundw
     case rel=>exact ⟨k+1,_,ac.out,by go_num,J.out,bg.out,⟨bB.out,bx.out,bE.out⟩,bL.out⟩
     case measure=>have:=ac.out; simp [intOf]; omega
    ·have hw':=wY hw
     by_cases he:(dA I t).name=fw
     ·replace J:=η (fun h=>(J.out h).trans ((if_neg hw).trans (if_pos he)))
      rw [he] at *;go_wp2;go_roundw
      case rel=>exact ⟨k+1,I,ac.out,by go_num,J.out,bg.out,⟨U.out,a8.out,af.out⟩,aw.out⟩
      case measure=>have:=ac.out; simp [intOf]; omega
     ·have bO:=TJ he
      have cd:((dA I t).name.toList == fw.toList)=false:=by simpa using bO
      replace J:=η (fun h=>(J.out h).trans ((if_neg hw).trans (if_neg he)));have HP:=η (jA.mk U.out a8.out af.out);go_wp2;go_ret;exact Kw.no HP.out J.out
   ·have he:k=y.length:=by omega
    have bt:¬ (k:Int) < (y.length:Int):=by omega
    rw [List.drop_of_length_le (by omega),List.drop_of_length_le (by omega)] at a6
    have bn:Dz y:=fun t ht=>by
     obtain ⟨j,hj,rfl⟩:=List.getElem_of_mem ht;exact ab j hj (by omega)
    have e9:bY args y b=(I,true):=by rw [a6 bn]; rfl
    have HP:=η hI;rw [e9];clear hI hq a6 ab;go_wp2;go_ret;exact ⟨I,true,rfl,HP.out,fun _=>rfl,fun h=>absurd bn h⟩
theorem DC (vars:List ByteArray) (hv:jr vars) (b:Bd) (y:jq vars b) (a f:A) (I J:Option Addr) (U cf:Nat) (b1 b2:List Nat) (blk o:Nat) (w:World) (hb:gJ vars b blk o w) (h:jS vars w [.slice I a.args.length U] a.args b1)
  (hf:eP w [.slice J f.args.length cf] f.args b2) (hin:∀ t ∈ a.args,t.var=true→t.name ∈ vars) (hc:∀ t ∈ a.args,t.var=false→t.name ≠ ⟨#[]⟩) (hg:∀ t ∈ f.args,t.var=false∧t.name ≠ ⟨#[]⟩) (h1:blk ∉ b1) (h2:blk ∉ b2) (a0:a.args.length≤1000000):
  Calls Tryz.prog 154 #[.pointer (some ⟨blk,o,none⟩),.agg #[.string a.name,.slice I a.args.length U],.agg #[.string f.name,.slice J f.args.length cf]] w fun e w'=>e=.returned (.bool (aC a f b).2)∧jA vars blk o w (aC a f b).1 w':=
 (NE vars hv b y a f I J U cf b1 b2 blk o w hb h hf hin hc h1 h2 a0).mono fun e w' ⟨bo,r,h3,h4,h5,_⟩=>by
  rw [h5 hg];exact ⟨h3,h4⟩
theorem VI:(Tryz.prog.info? 91).map (fun i=>(i.zero,i.size,i.bytes))=some (some (.agg #[.bool false,.string ⟨#[]⟩]),2,24):=by kernel_rfl
theorem Ky (vars:List ByteArray) (hv:jr vars) (b:Bd) (a6:jq vars b) (a:A) (U:Option Addr) (ce:Nat) (b1:List Nat) (blk o:Nat) (w:World) (hb:gJ vars b blk o w) (a1:a.name.size≤maxLen) (h:jS vars w [.slice U a.args.length ce] a.args b1) (hin:∀ t ∈ a.args,t.var=true→t.name ∈ vars) (av:a.args.length≤1000000):
  Calls Tryz.prog 117 #[.pointer (some ⟨blk,o,none⟩),.agg #[.string a.name,.slice U a.args.length ce]] w fun e w'=>∃ v bs,e=.returned (.agg #[.string a.name,v])∧Below w.heap.size w w'∧aG w' [.string a.name,v] (bQ a b) bs∧New w.heap.size w' bs:=by
 obtain ⟨i0,hi,aw,az,aD⟩:=info_parts VI;obtain ⟨nm,args⟩:=a;dsimp only at h hin av a1 ⊢;have aE:=η hin;have aL:=η a1;have HT:=η h;have a7:=η hb;have aM:=η a6;clear h hin a1 hb a6;have hA:Below w.heap.size w (((w.alloc (.cells #[.string nm,.slice U args.length ce] 168)).alloc (.cells #[.string ⟨#[]⟩,.slice none 0 0] 33)).alloc (.cells #[.string nm,.slice none 0 0] 33)):=((ζ).alloc (by simp) _).alloc (by simp; omega) _
 have a8:(((w.alloc (.cells #[.string nm,.slice U args.length ce] 168)).alloc (.cells #[.string ⟨#[]⟩,.slice none 0 0] 33)).alloc (.cells #[.string nm,.slice none 0 0] 33)).heap[w.heap.size+1]? = some (.cells #[.string ⟨#[]⟩,.slice none 0 0] 33 (0,0)):=by
  rw [Below.heap_alloc _ _ _ (by simp)];have:=ω (w.alloc (.cells #[.string nm,.slice U args.length ce] 168)) (.cells #[.string ⟨#[]⟩,.slice none 0 0] 33);simpa using this
 have a9:(((w.alloc (.cells #[.string nm,.slice U args.length ce] 168)).alloc (.cells #[.string ⟨#[]⟩,.slice none 0 0] 33)).alloc (.cells #[.string nm,.slice none 0 0] 33)).heap[w.heap.size+2]? = some (.cells #[.string nm,.slice none 0 0] 33 (0,0)):=by
  have:=ω ((w.alloc (.cells #[.string nm,.slice U args.length ce] 168)).alloc (.cells #[.string ⟨#[]⟩,.slice none 0 0] 33)) (.cells #[.string nm,.slice none 0 0] 33);simpa using this
 have aa:Hid (wK 2 jb 91 33 w (w.heap.size+1) (w.heap.size+2) (w.heap.size+3) nm (.slice none 0 0) [] ([]:List T) (((w.alloc (.cells #[.string nm,.slice U args.length ce] 168)).alloc (.cells #[.string ⟨#[]⟩,.slice none 0 0] 33)).alloc (.cells #[.string nm,.slice none 0 0] 33))):=
  η ⟨a8,a9,by omega,by omega,by omega,aZ.nil _,hA,by simp⟩
 clear hA a8 a9
 go_enter Tryz.func117,Tryz.ntmps117
 go_wp2;generalize (((w.alloc (.cells #[.string nm,.slice U args.length ce] 168)).alloc (.cells #[.string ⟨#[]⟩,.slice none 0 0] 33)).alloc (.cells #[.string nm,.slice none 0 0] 33))=W at *
 go_loopw [14] (fun i wr=>∃ (k:Nat) (Av:Option Addr) (cv:Nat) (L:List Value),k≤args.length∧i=.int .i64 k∧wK 2 jb 91 33 w (w.heap.size+1) (w.heap.size+2) (w.heap.size+3) nm (.slice Av k cv) L ((args.take k).map (dA b)) wr) (fun i _=>args.length - (intOf i).toNat)
 case atStart=>exact ⟨0,none,0,[],ε,rfl,aa.out⟩
 case round=>
  obtain ⟨k,Av,cv,L,hk,rfl,y⟩:=hrel;clear aa;by_cases I:k < args.length
  ·obtain ⟨bq,oq,rfl,_,f0,f1,ab⟩:=wI ((cO vars).below HT.out y.bel) I
   have bg:(0:Int)≤(k:Int):=by omega
   have aR:(k:Int) < (args.length:Int):=by omega
   have ac:=η I;have b2:Hid ((args.take (k+1)).map (dA b)=(args.take k).map (dA b) ++ [dA b args[k]]):=η (by rw [ρ I,List.map_append]; rfl);have a2:Below wr.heap.size wr (wr.alloc (.cells #[.int .i64 (jI vars args[k]),.string (jJ args[k])] 244)):=ζ;have J:=y.later bD a2;have ae:=η J;have af:gJ vars b blk o (wr.alloc (.cells #[.int .i64 (jI vars args[k]),.string (jJ args[k])] 244)).drew:=a7.out.keep ((y.bel.trans (a2.mono y.bel.size)).block _ a7.out.lt);have HW:=η (uT vars hv b args[k] (aE.out _ (δ I)) blk o _ af);have b3:Hid ((dA b args[k]).name.size≤maxLen):=η (aM.out.PW (fun hv=>(show jJ args[k]=args[k].name by unfold jJ; simp [hv]) ▸ ab));have HR:Hid (∀ w,jb w [.bool false,.string (dA b args[k]).name] (dA b args[k]) []):=η fun w=>⟨rfl,b3.out,rfl⟩
   have b4:Hid (((args.take k).map (dA b)).length=k):=η (by simp; omega);have b5:Hid (k+1≤maxLen):=η (by unfold maxLen; omega);have b6:Hid ((k+1) * 24≤140737488355328):=η (by omega);have y0:(wr.alloc (.cells #[.int .i64 (jI vars args[k]),.string (jJ args[k])] 244)).cell? ⟨wr.heap.size,0,none⟩=some (.int .i64 (jI vars args[k])):=by go_simp
   have y1:(wr.alloc (.cells #[.int .i64 (jI vars args[k]),.string (jJ args[k])] 244)).cell? ⟨wr.heap.size,1,none⟩=some (.string (jJ args[k])):=by go_simp
   have q1:=ai J.r1 (o:=1);have q2:=ax J.r1 (o:=1);have q3:=ψ J.r1;clear y a2 J af ab hk;generalize jI vars args[k]=sn at *;generalize jJ args[k]=ss at *;generalize args[k]=t at *;clear I;go_wp2;generalize wr.alloc (.cells #[.int .i64 sn,.string ss] 244)=W1 at *
   go_region_law
    (first
     | (go_simp; go_at_call 178; refine HW.out.mono ?_; rintro e w2 ⟨rfl,ag⟩; have a0:=η ((Below.refl W1.heap.size W1).drew.trans ag); have a3:=η (ae.out.later bD a0.out); have HL:=η (a3.out.lit bD jE HR.out); replace q1:=ξ a0.out q1; replace q3:=κ q3 a0.out.size; clear ag)
     | (refine aT (by rfl) (.tmp 19) (.tmp 24) _ (by rfl) (w.heap.size+3) 91 i0 (.agg #[.bool false,.string ⟨#[]⟩]) 2 24 Tryz.underlying31 hi aw az aD rfl (Θ 1) bD (.slice Av k cv) k L _ [] (by rfl) HL.out.1 b4.out (some ⟨w2.heap.size,0,none⟩) 1 1 _ [dA b t] _ (by rfl) HL.out.2.1 rfl HL.out.2.2.1 (fun b hb=>by simp at hb) b5.out b6.out w2 (w.heap.size+3) HL.out.2.2.2.1 ν HL.out.2.2.2.2 ?_; intro A5 c5 w5 am ao b7 b8; have HZ:=η (a3.out.app bD am ao); replace q1:=HZ.out.1; replace q2:=HZ.out.2.1; clear am ao b7 b8))
   all_goals
    have bc:=η HZ.out.2.2.1;clear ae HL HZ a3 a0 HW q1 q2 q3 y0 y1;go_wp2;go_roundw
    case rel=>exact ⟨k+1,A5,c5,_,ac.out,by go_num,by rw [b2.out]; exact bc.out⟩
    case measure=>have:=ac.out; simp [intOf]; omega
  ·have he:k=args.length:=by omega
   have aR:¬ (k:Int) < (args.length:Int):=by omega
   obtain ⟨W9,ap,aq,a4,b9,a5,ar⟩:=y.done bD;have y0:wr.cell? ⟨w.heap.size+2,0,none⟩=some (.string nm):=ai y.r1;have y1:wr.cell? ⟨w.heap.size+2,1,none⟩=some (.slice Av k cv):=ai y.r1;have f0:wr.frozen? ⟨w.heap.size+1,0,none⟩=false:=ax y.r0;have f1:wr.frozen? ⟨w.heap.size+1,1,none⟩=false:=ax y.r0;have z0:wr.cell? ⟨w.heap.size+1,0,none⟩=some (.string ⟨#[]⟩):=ai y.r0;have z1:wr.cell? ⟨w.heap.size+1,1,none⟩=some (.slice none 0 0):=ai y.r0;have u0:W9.cell? ⟨w.heap.size+1,0,none⟩=some (.string nm):=ai a4;have u1:W9.cell? ⟨w.heap.size+1,1,none⟩=some (.slice Av k cv):=ai a4
   have HD:Hid (Below w.heap.size w W9∧aG W9 [.string nm,.slice Av k cv] (bQ ⟨nm,args⟩ b) b9∧New w.heap.size W9 b9):=
    η ⟨aq,⟨_,rfl,aL.out,by unfold bQ; dsimp only; rw [ϕ (Nat.le_of_eq he.symm)] at a5; exact a5⟩,ar.mono (by omega)⟩
   have bf:=η ap;have HU:=η (ι u0 u1);clear y aq a4 a5 ar ap he u0 u1;go_wp2;rw [← bf.out];refine bodyPost_ret (v:=.agg #[.string nm,.slice Av k cv]) (by simp [results,Tryz.results117,go_sem,HU.out.1,HU.out.2]) rfl (by exact ⟨_,rfl,HD.out.1,_,HD.out.2⟩)
end Go.Proofs.YtkjinanbccloeaaGreatDoor
