/- Of the proof of FnDeltaNeeds: QryI, MatI, FctI, OnceS. -/
import Derived.Test.YtkjinanbccloeaaGreatDoorE18
import Derived.Test.YtkjinanbccloeaaGreatDoorE15
set_option linter.unusedVariables false
set_option maxHeartbeats 8000000
set_option maxRecDepth 100000
namespace Go.Proofs.YtkjinanbccloeaaGreatDoor
open Go.RowKit D
attribute [local go_sem ↓] Go.wp_at_zero Go.wp_at_succ
theorem XD:(Tryz.prog.info? 168).map (fun i=>(i.zero,i.size,i.bytes))=some (some (.agg #[.string ⟨#[]⟩,.slice none 0 0]),2,40):=by kernel_rfl
theorem D.zi (ps:List Pt):oZ (aF ps):=ng ps o6
theorem D.Nq {ps:List Pt}:∀ p ∈ ps,∀ t ∈ p.atom.args,t.var=true→t.name ∈ aF ps:=fun p I t J y=>(iG ps [] _).2 (.inr ⟨p,I,t,J,y,rfl⟩)
theorem D.XE {ps:List Pt} (h:ps.length≤1000) (I:∀ p ∈ ps,p.atom.args.length≤1000):je (fun p:Pt=>p.atom.args.length) ps≤1000000:=by
 have:∀ (l:List Pt),(∀ p ∈ l,p.atom.args.length≤1000)→je (fun p:Pt=>p.atom.args.length) l≤l.length * 1000:=by
  intro l
  induction l with
  | nil=>intro _; exact ε
  | cons p l ih=>
   intro y;have h1:=ih fun q hq=>y q (Δ _ hq)
   have U:=y p Γ;have J:je (fun p:Pt=>p.atom.args.length) (p :: l)=p.atom.args.length+je (fun p:Pt=>p.atom.args.length) l:=by simp [je]
   rw [J,List.length_cons,Nat.add_mul];omega
 have:=this ps I;omega
theorem D.wF.done {vars:List ByteArray} {w:World} {I hb B:Nat} {J:Value} {b3:List Nat} {U:Value} {L1:List Value} {a0:List A} {a2:List Nat} {v2:Value} {L2:List Value} {a1:List A} {a3:List Nat} {wr:World}
  (h:wF vars w I hb B J b3 U L1 a0 a2 v2 L2 a1 a3 wr):
  ∃ W9,W9=((wr.setCell ⟨I,0,none⟩ U).setCell ⟨I,1,none⟩ v2).setCell ⟨I,2,none⟩ J∧Below w.heap.size w W9∧W9.heap[I]? = some (.cells #[U,v2,J] 164 (0,0))∧
   ∃ b1 b2,uN vars W9 [U] a0 b1∧uN vars W9 [v2] a1 b2∧iF W9 [J] vars b3∧∀ b ∈ b1 ++ b2 ++ b3,w.heap.size≤b:=by
 obtain ⟨b1,a4,a5⟩:=h.c1.slice;obtain ⟨b2,a6,a7⟩:=h.c2.slice;have h0:=h.h0;have h1:=h.h1;have hB:=h.hB;have g1:∀ b ∈ b1,B≤b:=fun b hb=>(a5 b hb).elim id (h.k1 b)
 have g2:∀ b ∈ b2,B≤b:=fun b hb=>(a7 b hb).elim id (h.k2 b)
 have keep:∀ b,b ≠ I→(((wr.setCell ⟨I,0,none⟩ U).setCell ⟨I,1,none⟩ v2).setCell ⟨I,2,none⟩ J).heap[b]? = wr.heap[b]?:=fun b y=>by
  rw [π _ _ _ _ y,π _ _ _ _ y,π _ _ _ _ y]
 refine ⟨_,rfl,((h.bel.setCell (p:=⟨I,0,none⟩) h0 _).setCell (p:=⟨I,1,none⟩) h0 _).setCell (p:=⟨I,2,none⟩) h0 _,?_,b1,b2,?_,?_,?_,?_⟩
 ·have:=bY (o:=2) (u:=J) (bY (o:=1) (u:=v2) (bY (o:=0) (u:=U) h.r0))
  simpa using this
 ·exact (dX _).keep a4 fun b y=>keep b (fun e=>by have:=g1 b y; omega)
 ·exact (dX _).keep a6 fun b y=>keep b (fun e=>by have:=g2 b y; omega)
 ·exact bP.keep h.vs fun b y=>keep b (h.kv b y).2.2
 ·intro b y
  rcases μ.1 y with y | y
  ·rcases μ.1 y with y | y
   ·have:=g1 b y; omega
   ·have:=g2 b y; omega
  ·exact (h.kv b y).1
theorem Nr (ps : List Pt) (v : Value) (bs : List Nat) (w : World) (h : jd w [v] ps bs) (bt : ps.length ≤ 1000) (hs : ∀ p ∈ ps, p.atom.args.length ≤ 1000) :
    Calls Tryz.prog 113 #[v] w fun e w' => ∃ A1 n1 q1 A2 n2 q2 A3 q3 bs', e = .returned (.agg #[.slice A1 n1 q1, .slice A2 n2 q2, .slice A3 (aF ps).length q3]) ∧ Below w.heap.size w w' ∧
      Zb w' [.slice A1 n1 q1, .slice A2 n2 q2, .slice A3 (aF ps).length q3] ps bs' ∧ ∀ b ∈ bs', w.heap.size ≤ b := by
  obtain ⟨Ad, cap, rfl, hl, hm⟩ := aj h;obtain ⟨i0, hi, b7, b8, bc⟩ := info_parts XD;have bB := ay (Nat.le_trans hl hm);have a8 : je (fun p : Pt => p.atom.args.length) ps ≤ 1000000 := XE bt hs;have bf := Lib.hid (fun w' hb => JI ps _ bs w' (dN.below h hb) a8);have bg : Hid (oZ (aF ps) ∧ (aF ps).length ≤ 1000000) := Lib.hid ⟨zi ps, Nat.le_trans (by have := pq ps []; simp only [List.length_nil] at this; show (fF ps []).length ≤ _; omega) a8⟩;have bu := Lib.hid (fun p hp t ht bv => Nq (ps := ps) p hp t ht bv);have HH := Lib.hid h;have HS := Lib.hid hs;clear hl hm hs a8 h;generalize hvars : aF ps = vars at *;have aL := Lib.hid hvars.symm;clear hvars;have aM : Below w.heap.size w (w.alloc (.cells #[.slice none 0 0, .slice none 0 0, .slice none 0 0] 164)) := (Below.refl _ _).alloc (Nat.le_refl _) _;have bh := Lib.hid aM;have bi := Lib.hid (heap_alloc_new w (.cells #[.slice none 0 0, .slice none 0 0, .slice none 0 0] 164));have bj := bf.out _ aM;clear aM bf
  go_enter Tryz.func113, Tryz.ntmps113
  go_wp2_with fail
  refine bj.mono ?_;rintro e w1 ⟨ae, v3, b3, rfl, aR, af⟩;obtain ⟨A3, q3, rfl, _⟩ := aj aR;have ag := ae.size;have e1 : (w.alloc (.cells #[.slice none 0 0, .slice none 0 0, .slice none 0 0] 164)).heap.size = w.heap.size + 1 := by simp
  have am : Below w1.heap.size w1 (w1.alloc (.cells #[.slice none 0 0, .slice none 0 0, .slice A3 vars.length q3] 164)) := (Below.refl _ _).alloc (Nat.le_refl _) _
  have bl : Hid (wF vars w w.heap.size w1.heap.size (w1.heap.size + 1) (.slice A3 vars.length q3) b3 (.slice none 0 0) [] [] [] (.slice none 0 0) [] [] [] (w1.alloc (.cells #[.slice none 0 0, .slice none 0 0, .slice A3 vars.length q3] 164))) := Lib.hid
    ⟨(am.block _ (by omega)).trans ((ae.block _ (by omega)).trans bi.out), heap_alloc_new _ _, Nat.le_refl _, by omega, by omega, aX.nil _, aX.nil _, fun b hb => by simp at hb, fun b hb => by simp at hb, fun b hb => by simp [Value.ownBlock] at hb, fun b hb => by simp [Value.ownBlock] at hb,
      bP.below aR am, fun b hb => ⟨by have := (af.own b hb).1; omega, af.lt hb, by have := (af.own b hb).1; omega⟩, (bh.out.trans (ae.mono (by omega))).trans (am.mono (by omega)), by simp⟩
  clear bj ae aR af ag e1 am bi bh;go_wp2;generalize w1.alloc (.cells #[.slice none 0 0, .slice none 0 0, .slice A3 vars.length q3] 164) = W at *
  go_loopw [11] (fun i wr => ∃ (k : Nat) (A1 : Option Addr) (q1 : Nat) (L1 : List Value) (b4 : List Nat) (A2 : Option Addr) (q2 : Nat) (L2 : List Value) (b5 : List Nat), k ≤ ps.length ∧ i = .int .i64 k ∧ (iE (ps.take k)).length ≤ k ∧ (eF (ps.take k)).length ≤ k ∧
    wF vars w w.heap.size w1.heap.size (w1.heap.size + 1) (.slice A3 vars.length q3) b3 (.slice A1 (iE (ps.take k)).length q1) L1 (iE (ps.take k)) b4 (.slice A2 (eF (ps.take k)).length q2) L2 (eF (ps.take k)) b5 wr) (fun i _ => ps.length - (intOf i).toNat)
  case atStart => exact ⟨0, none, 0, [], [], none, 0, [], [], Nat.zero_le _, rfl, Nat.le_refl _, Nat.le_refl _, bl.out⟩
  case round =>
    obtain ⟨k, A1, q1, L1, b4, A2, q2, L2, b5, hk, rfl, bw, bx, hI⟩ := hrel;clear bl;by_cases a5 : k < ps.length
    · obtain ⟨b, o, Ae, ce, bk, rfl, _, d0, d1, d2, bn, _⟩ := iV (dN.below HH.out hI.bel) a5
      have bE : (0 : Int) ≤ (k : Int) := by omega
      have bz : (k : Int) < (ps.length : Int) := by omega
      have ao := Lib.hid a5;have aq := Lib.hid (RZ ps k a5);have ar := Lib.hid (Si ps k a5);have aD : Hid ((iE (ps.take k)).length + 1 ≤ maxLen ∧ ((iE (ps.take k)).length + 1) * 40 ≤ 140737488355328) := Lib.hid (by unfold maxLen; omega);have aE : Hid ((eF (ps.take k)).length + 1 ≤ maxLen ∧ ((eF (ps.take k)).length + 1) * 40 ≤ 140737488355328) := Lib.hid (by unfold maxLen; omega);have av : Below wr.heap.size wr (wr.alloc (.cells #[.bool ps[k].no, .string ps[k].atom.name, .slice Ae ps[k].atom.args.length ce] 42)) := (Below.refl _ _).alloc (Nat.le_refl _) _;have U := hI.later av;have a0 := Lib.hid U;have q0 := ai U.r1 (o := 0);have a1 := ai U.r1 (o := 1);have a2 := ai U.r1 (o := 2);have aw := fun o => ax U.r1 (o := o)
      have a7 : w1.heap.size < (wr.alloc (.cells #[.bool ps[k].no, .string ps[k].atom.name, .slice Ae ps[k].atom.args.length ce] 42)).heap.size := lt_of_block U.r1;have a9 := Dj vars ps[k].atom A1 A2 (iE (ps.take k)).length q1 (eF (ps.take k)).length q2 (.slice A3 vars.length q3) _ _ b3 bk (wr.alloc (.cells #[.bool ps[k].no, .string ps[k].atom.name, .slice Ae ps[k].atom.args.length ce] 42)).drew (bP.below U.vs ((Below.refl _ _).drew)) bg.out.1 bg.out.2 (ak.below (jD bn) (av.trans ((Below.refl _ _).drew.mono av.size))) (bu.out _ (List.getElem_mem a5)) (Nat.le_trans (HS.out _ (List.getElem_mem a5)) (by omega));have az := Lib.hid a9;have y0 : (wr.alloc (.cells #[.bool ps[k].no, .string ps[k].atom.name, .slice Ae ps[k].atom.args.length ce] 42)).cell? ⟨wr.heap.size, 0, none⟩ = some (.bool ps[k].no) := by go_simp
      have y1 : (wr.alloc (.cells #[.bool ps[k].no, .string ps[k].atom.name, .slice Ae ps[k].atom.args.length ce] 42)).cell? ⟨wr.heap.size, 1, none⟩ = some (.string ps[k].atom.name) := by go_simp
      have y2 : (wr.alloc (.cells #[.bool ps[k].no, .string ps[k].atom.name, .slice Ae ps[k].atom.args.length ce] 42)).cell? ⟨wr.heap.size, 2, none⟩ = some (.slice Ae ps[k].atom.args.length ce) := by go_simp
      clear hI U bn av a9 hk;generalize ps[k] = p at *;clear a5;obtain ⟨no, nm, args⟩ := p;dsimp only at *;cases no
      · have aa := aw 0
        have ab : Hid (iE (ps.take (k + 1)) = iE (ps.take k) ++ [⟨nm, args⟩]) := Lib.hid (by rw [aq.out]; rfl);have ac : Hid (eF (ps.take (k + 1)) = eF (ps.take k)) := Lib.hid (by rw [ar.out]; simp);clear aw aq ar;go_wp2;generalize wr.alloc (.cells #[.bool false, .string nm, .slice Ae args.length ce] 42) = W1 at *
        go_region_law
          (first
            | (go_simp; go_at_call 114; refine az.out.mono ?_; rintro e w2 ⟨v9, b9, rfl, J, a3, a6, a4⟩; obtain ⟨A9, c9, rfl, _⟩ := aj a6; have y := Lib.hid ((Below.refl W1.heap.size W1).drew.trans J); have I := Lib.hid (And.intro a3 (And.intro a6 a4)); have HL := Lib.hid (wF.lit (a := ⟨nm, args⟩) y.out a0.out.qE a0.out.c1.own I.out.1 I.out.2.1 rfl); replace q0 := cell_later y.out q0; replace a1 := cell_later y.out a1; replace a2 := cell_later y.out a2; replace a7 := Nat.lt_of_lt_of_le a7 y.out.size; clear J a3 a6 a4)
            | (refine iJ (by rfl) (.tmp 27) (.tmp 32) _ (by rfl) (w1.heap.size + 1) 168 i0 (.agg #[.string ⟨#[]⟩, .slice none 0 0]) 2 40 Tryz.underlying162 hi b7 b8 bc rfl (Nat.zero_lt_succ 1) (.slice A1 (iE (ps.take k)).length q1) (iE (ps.take k)).length L1 (by rfl) HL.out.1 (some ⟨w2.heap.size, 0, none⟩) 1 1 _ (by rfl) rfl HL.out.2.1 HL.out.2.2.1 aD.out.1 aD.out.2 HL.out.2.2.2 ?_; intro A5 c5 w5 h5 g5 l5; have HZ := Lib.hid (a0.out.app1 y.out I.out.1 I.out.2.1 I.out.2.2 rfl h5 g5 l5); replace q0 := HZ.out.1; replace a1 := HZ.out.2.1; replace a2 := HZ.out.2.2.1; replace aa := HZ.out.2.2.2.1; clear h5 g5 l5))
        all_goals
          have b6 := Lib.hid HZ.out.2.2.2.2;clear a0 HL HZ y I az q0 a1 a2 a7 aa;go_wp2;go_roundw
          case rel => exact ⟨k + 1, A5, c5, _, _, A2, q2, L2, b5, ao.out, by go_num, by rw [ab.out]; simpa using bw, by rw [ac.out]; omega, by rw [ab.out, ac.out, List.length_append]; exact b6.out⟩
          case measure => have := ao.out; simp [intOf]; omega
      · have aa := aw 1
        have ab : Hid (iE (ps.take (k + 1)) = iE (ps.take k)) := Lib.hid (by rw [aq.out]; simp);have ac : Hid (eF (ps.take (k + 1)) = eF (ps.take k) ++ [⟨nm, args⟩]) := Lib.hid (by rw [ar.out]; rfl);clear aw aq ar;go_wp2;generalize wr.alloc (.cells #[.bool true, .string nm, .slice Ae args.length ce] 42) = W1 at *
        go_region_law
          (first
            | (go_simp; go_at_call 114; refine az.out.mono ?_; rintro e w2 ⟨v9, b9, rfl, J, a3, a6, a4⟩; obtain ⟨A9, c9, rfl, _⟩ := aj a6; have y := Lib.hid ((Below.refl W1.heap.size W1).drew.trans J); have I := Lib.hid (And.intro a3 (And.intro a6 a4)); have HL := Lib.hid (wF.lit (a := ⟨nm, args⟩) y.out a0.out.qE a0.out.c2.own I.out.1 I.out.2.1 rfl); replace q0 := cell_later y.out q0; replace a1 := cell_later y.out a1; replace a2 := cell_later y.out a2; replace a7 := Nat.lt_of_lt_of_le a7 y.out.size; clear J a3 a6 a4)
            | (refine iJ (by rfl) (.tmp 18) (.tmp 23) _ (by rfl) (w1.heap.size + 1) 168 i0 (.agg #[.string ⟨#[]⟩, .slice none 0 0]) 2 40 Tryz.underlying162 hi b7 b8 bc rfl (Nat.zero_lt_succ 1) (.slice A2 (eF (ps.take k)).length q2) (eF (ps.take k)).length L2 (by rfl) HL.out.1 (some ⟨w2.heap.size, 0, none⟩) 1 1 _ (by rfl) rfl HL.out.2.1 HL.out.2.2.1 aE.out.1 aE.out.2 HL.out.2.2.2 ?_; intro A5 c5 w5 h5 g5 l5; have HZ := Lib.hid (a0.out.Zc y.out I.out.1 I.out.2.1 I.out.2.2 rfl h5 g5 l5); replace q0 := HZ.out.1; replace a1 := HZ.out.2.1; replace a2 := HZ.out.2.2.1; replace aa := HZ.out.2.2.2.1; clear h5 g5 l5))
        all_goals
          have b6 := Lib.hid HZ.out.2.2.2.2;clear a0 HL HZ y I az q0 a1 a2 a7 aa;go_wp2;go_roundw
          case rel => exact ⟨k + 1, A1, q1, L1, b4, A5, c5, _, _, ao.out, by go_num, by rw [ab.out]; omega, by rw [ac.out]; simpa using bx, by rw [ab.out, ac.out, List.length_append]; exact b6.out⟩
          case measure => have := ao.out; simp [intOf]; omega
    · have he : k = ps.length := by omega
      subst he;have bz : ¬ (ps.length : Int) < (ps.length : Int) := by omega
      rw [List.take_of_length_le (Nat.le_refl _)] at hI;obtain ⟨W9, bo, bp, J, b1, b2, ag, bq, br, a4⟩ := hI.done;have y0 := ai hI.r1 (o := 0);have y1 := ai hI.r1 (o := 1);have y2 := ai hI.r1 (o := 2);have f0 := ax hI.r0 (o := 0);have f1 := ax hI.r0 (o := 1);have f2 := ax hI.r0 (o := 2);have z0 := ai hI.r0 (o := 0);have z1 := ai hI.r0 (o := 1);have z2 := ai hI.r0 (o := 2);have u0 := ai J (o := 0);have u1 := ai J (o := 1);have u2 := ai J (o := 2);simp at y0 y1 y2 z0 z1 z2 u0 u1 u2;have bL := Lib.hid (rfl : vars = vars);have HD := Lib.hid (And.intro bp (And.intro ag (And.intro bq (And.intro br a4))));have bA := Lib.hid bo;have HU := Lib.hid (And.intro u0 (And.intro u1 u2));clear hI bp J ag bq br a4 bo u0 u1 u2;go_wp2;rw [← bA.out];refine bodyPost_ret (v := .agg #[.slice A1 (iE ps).length q1, .slice A2 (eF ps).length q2, .slice A3 vars.length q3]) (by simp [results, Tryz.results113, go_sem, HU.out.1, HU.out.2.1, HU.out.2.2]) rfl ?_
      exact ⟨A1, _, q1, A2, _, q2, A3, q3, rfl, HD.out.1, _, ⟨_, _, _, b1, b2, b3, rfl, rfl, aL.out ▸ HD.out.2.1, aL.out ▸ HD.out.2.2.1, aL.out ▸ HD.out.2.2.2.1⟩, HD.out.2.2.2.2⟩
theorem D.Vy {a b:ByteArray} (h:¬ a=b):¬ a.toList=b.toList:=by
 rw [ByteArray.toList_eq,ByteArray.toList_eq];exact fun e=>h (ByteArray.ext (Array.toList_inj.mp e))
theorem D.zk {a:ByteArray} (h:a ≠ ⟨#[]⟩):a.toList.isEmpty=false:=by
 rw [ByteArray.toList_eq,List.isEmpty_eq_false_iff];intro e;apply h;apply ByteArray.ext;exact Array.toList_inj.mp e
theorem D.zl:(⟨#[]⟩:ByteArray).toList.isEmpty=true:=by rw [ByteArray.toList_eq]; rfl
structure D.kE (vars:List ByteArray) (blk o:Nat) (w:World) (b:Bd) (w':World):Prop where
 at_:iM vars b blk o w'
 ok:jZ vars b
 kept:dK blk o w w'
def D.FM (y:List T):Prop:=∀ t ∈ y,t.var=false∧t.name ≠ ⟨#[]⟩
def D.Ns (vars:List ByteArray) (blk o:Nat) (w:World) (y:List T) (m:Bd × Bool) (e:Ending) (w':World):Prop:=
 ∃ (I:Bd) (r:Bool),e=.returned (.bool r)∧kE vars blk o w I w'∧(FM y→m=(I,r))∧(¬ FM y→r=false)
theorem D.Ns.no {vars:List ByteArray} {blk o:Nat} {w w':World} {I:List T} {m:Bd × Bool} {y:Bd} (h:kE vars blk o w y w') (hm:FM I→m=(y,false)):Ns vars blk o w I m (.returned (.bool false)) w':=⟨y,false,rfl,h,hm,fun _=>rfl⟩
theorem PO (vars:List ByteArray) (hv:kC vars) (b:Bd) (am:jZ vars b) (a f:A) (Ae Af:Option Addr) (ce cf:Nat) (b1 b2:List Nat) (blk o:Nat) (w:World) (hb:iM vars b blk o w) (h:kV vars w [.slice Ae a.args.length ce] a.args b1)
  (hf:gG w [.slice Af f.args.length cf] f.args b2) (hin:∀ t ∈ a.args,t.var=true→t.name ∈ vars) (hc:∀ t ∈ a.args,t.var=false→t.name ≠ ⟨#[]⟩) (h1:blk ∉ b1) (h2:blk ∉ b2) (bp:a.args.length≤1000000):
  Calls Tryz.prog 154 #[.pointer (some ⟨blk,o,none⟩),.agg #[.string a.name,.slice Ae a.args.length ce],.agg #[.string f.name,.slice Af f.args.length cf]] w (Ns vars blk o w f.args (aG a f b)):=by
 obtain ⟨an,args⟩:=a;obtain ⟨fn,y⟩:=f;dsimp only at *;have hA:Below w.heap.size w ((w.alloc (.cells #[.string an,.slice Ae args.length ce] 168)).alloc (.cells #[.string fn,.slice Af y.length cf] 33)):=(ζ).alloc (by simp) _;have HA:=η hA;have a0:=hb.lt;by_cases ao:an=fn∧args.length=y.length
 rotate_left
 ·have e0:aG ⟨an,args⟩ ⟨fn,y⟩ b=(b,false):=by unfold aG; rw [if_neg ao]
  rw [e0];have HP:Hid (kE vars blk o w b ((w.alloc (.cells #[.string an,.slice Ae args.length ce] 168)).alloc (.cells #[.string fn,.slice Af y.length cf] 33))):=η ⟨hb.keep (hA.block _ a0),am,dK.of_below hA a0⟩;clear hA hb hf h e0;by_cases hn:an=fn
  ·have hl:¬ ((args.length:Nat):Int)=((y.length:Nat):Int):=fun e=>ao ⟨hn,by omega⟩
   subst hn
   go_enter Tryz.func154,Tryz.ntmps154
   go_wp2;go_ret;exact Ns.no HP.out fun _=>rfl
  ·have c4:=Vy hn
   go_enter Tryz.func154,Tryz.ntmps154
   go_wp2;go_ret;exact Ns.no HP.out fun _=>rfl
 ·obtain ⟨rfl,hl⟩:=ao
  have e0:aG ⟨an,args⟩ ⟨an,y⟩ b=cZ args y b:=by unfold aG; rw [if_pos ⟨rfl,hl⟩]
  rw [e0,hl];rw [hl] at h hA HA bp;have br:(w.alloc (.cells #[.string an,.slice Ae y.length ce] 168)).heap.size=w.heap.size+1:=by simp
  have aL:((w.alloc (.cells #[.string an,.slice Ae y.length ce] 168)).alloc (.cells #[.string an,.slice Af y.length cf] 33)).heap[w.heap.size+1]? = some (.cells #[.string an,.slice Af y.length cf] 33 (0,0)):=by
   have:=ω (w.alloc (.cells #[.string an,.slice Ae y.length ce] 168)) (.cells #[.string an,.slice Af y.length cf] 33);simpa using this
  have HX:=η (ι h (ι hf (ι hin hc)))
  have aM:Hid ((FM y→cZ args y b=cZ (args.drop 0) (y.drop 0) b)∧(∀ j (h:j < y.length),j < 0→y[j].var=false∧y[j].name ≠ ⟨#[]⟩)∧kE vars blk o w b ((w.alloc (.cells #[.string an,.slice Ae y.length ce] 168)).alloc (.cells #[.string an,.slice Af y.length cf] 33))∧((w.alloc (.cells #[.string an,.slice Ae y.length ce] 168)).alloc (.cells #[.string an,.slice Af y.length cf] 33)).heap[w.heap.size+1]? = some (.cells #[.string an,.slice Af y.length cf] 33 (0,0))):=
   η ⟨fun _=>rfl,fun j _ hj=>absurd hj (by omega),⟨hb.keep (hA.block _ a0),am,dK.of_below hA a0⟩,aL⟩
  clear hA hb hf h e0 hin hc am HA aL br
  go_enter Tryz.func154,Tryz.ntmps154
  go_wp2;generalize (w.alloc (.cells #[.string an,.slice Ae y.length ce] 168)).alloc (.cells #[.string an,.slice Af y.length cf] 33)=W at *
  go_loopw [28] (fun i wr=>∃ (k:Nat) (I:Bd),k≤y.length∧i=.int .i64 k∧(FM y→cZ args y b=cZ (args.drop k) (y.drop k) I)∧(∀ j (h:j < y.length),j < k→y[j].var=false∧y[j].name ≠ ⟨#[]⟩)∧kE vars blk o w I wr∧wr.heap[w.heap.size+1]? = some (.cells #[.string an,.slice Af y.length cf] 33 (0,0))) (fun i _=>y.length - (intOf i).toNat)
  case atStart=>exact ⟨0,b,ε,rfl,aM.out⟩
  case round=>
   obtain ⟨k,I,hk,rfl,a6,ab,hI,hq⟩:=hrel;clear aM;by_cases a2:k < y.length
   ·have a9:k < args.length:=by omega
    have c5:=hI.kept.grow.size;obtain ⟨bq,oq,rfl,bX,f0,f1,bt⟩:=yQ (hI.kept.keep (dw vars) HX.out.1 h1) a9;obtain ⟨aR,b3,rfl,c3,g0,g1,b4⟩:=fJ (hI.kept.keep aQ HX.out.2.1 h2) a2;have aq:=η (HX.out.2.2.1 _ (δ a9));have HC:=η (HX.out.2.2.2 _ (δ a9));have b5:args.drop k=args[k] :: args.drop (k+1):=List.drop_eq_getElem_cons a9;have b6:y.drop k=y[k] :: y.drop (k+1):=List.drop_eq_getElem_cons a2;rw [b5,b6,MP hI.ok _ _ _ _ HC.out] at a6;have ar:Hid (¬ (y[k].var=false∧y[k].name ≠ ⟨#[]⟩)→¬ FM y):=η fun h1 h2=>h1 (h2 _ (δ a2))
    have b7:Hid (y[k].var=false→y[k].name ≠ ⟨#[]⟩→∀ j (h:j < y.length),j < k+1→y[j].var=false∧y[j].name ≠ ⟨#[]⟩):=η fun h1 h2 j h hj=>by
     by_cases e:j=k
     ·subst e; exact ⟨h1,h2⟩
     ·exact ab j h (by omega)
    have a7:Below wr.heap.size wr (wr.alloc (.cells #[.int .i64 (kK vars args[k]),.string (kL args[k])] 244)):=ζ;have b8:=hI.at_.keep (a7.block _ hI.at_.lt);have a1:=xP vars hv I args[k] aq.out blk o _ b8;have c6:=ξ a7 g0;have c7:=ξ a7 g1;have b9:wr.cell? ⟨w.heap.size+1,1,none⟩=some (.slice (some ⟨aR,b3,none⟩) y.length cf):=ai hq;replace b9:=ξ a7 b9;have bc:=ψ hq;have c8:(0:Int)≤(k:Int):=by omega
    have bu:(k:Int) < (y.length:Int):=by omega
    have J:=η a6;have HI:=η hI;have aa:=η a7;have HQ:=η hq;have ac:=η a2;have bv:=η b4;clear g0 g1;clear hI a7 b8 a6 b5 b6 hq bt b4 hk ab;generalize hsn:kK vars args[k]=sn at *;generalize hss:kL args[k]=ss at *;generalize args[k]=t at *;generalize y[k]=f at *;obtain ⟨fv,fw⟩:=f;dsimp only at *;have bf:=η hsn;clear a9 a2 hsn hss;have av:=η (kE.mk (HI.out.at_.keep (aa.out.block _ HI.out.at_.lt)) HI.out.ok (HI.out.kept.trans (dK.of_below aa.out HI.out.at_.lt)));cases fv
    rotate_left
    ·clear a1 J
     go_wp2;go_ret;exact Ns.no av.out fun h=>absurd h (ar.out (by simp))
    by_cases ae:fw=⟨#[]⟩
    ·have bg:=zl
     subst ae;clear a1 J;go_wp2;go_ret;exact Ns.no av.out fun h=>absurd h (ar.out (by simp))
    have bg:=zk ae;have bh:=η (b7.out rfl ae);clear ar b7 av
    go_wp2_with fail
    refine a1.mono ?_;rintro e w2 ⟨rfl,aw⟩;have a4:=aa.out.trans (aw.mono aa.out.size);have z0:w2.cell? ⟨wr.heap.size,0,none⟩=some (.int .i64 sn):=ξ aw (by go_simp);have c9:wr.heap.size < w2.heap.size:=lt_of_cell z0;have U:=η (HI.out.at_.keep (a4.block _ HI.out.at_.lt));have af:=η (HI.out.kept.trans (dK.of_below a4 HI.out.at_.lt));have az:=η ((a4.block _ bc).trans HQ.out);have a8:=η HI.out.ok;have bw:Hid (blk ≠ wr.heap.size):=η (by omega);clear a1 aw a4 HI HQ aa;by_cases hw:(dO I t).name=⟨#[]⟩
    ·obtain ⟨aD,ag⟩:=Pv a8.out HC.out hw
     have hw':=zl;replace J:=η (fun h=>(J.out h).trans (if_pos hw));rw [hw];have hn:=aq.out aD;have hi:=List.idxOf_lt_length_of_mem hn;have bi:=hv.few;have hlen:=a8.out.lt hn ag;have bx:sn=((vars.idxOf t.name:Nat):Int):=by rw [← bf.out]; unfold kK; simp [aD]
     have bz:=η (a8.out.snoc hn ag ae bv.out);have a3:=U.out.bind hv a8.out hn ag (v:=fw);subst bx;clear aD ag bf hw HC aq hn;generalize t.name=nm at *;generalize vars.idxOf nm=j at *;have bA:=U.out.bd I.length (by omega);obtain ⟨zb,aE,_⟩:=bA;have x0:=U.out.wd j (by omega);have x1:=U.out.fz j (by omega);have x2:=U.out.ct;have x3:=U.out.fz 24 (by omega);have x4:=U.out.fz (12+I.length) (by omega);rw [← Nat.add_assoc] at x4;have ca:(0:Int)≤(j:Int):=by omega
     have cb:(j:Int) < 12:=by omega
     have cc:(0:Int)≤(I.length:Int):=by omega
     have cd:(I.length:Int) < 12:=by omega
     have p1:=D.kM w2 blk (o+j) (.string fw) x0;have p2:=D.kM (w2.setCell ⟨blk,o+j,none⟩ (.string fw)) blk (o+12+I.length) (.int .i64 (j:Nat)) (u:=.int .i64 zb) (by rw [p1,if_neg (by omega)]; exact aE);have bj:blk ≠ wr.heap.size:=bw.out;have bB:blk ≠ w.heap.size+1:=by omega
     have z1:(w2.setCell ⟨blk,o+j,none⟩ (.string fw)).drew.cell? ⟨wr.heap.size,0,none⟩=some (.int .i64 (j:Nat)):=(World.cell?_setCell_far _ _ _ _ bj).trans z0;have c1:(w2.setCell ⟨blk,o+j,none⟩ (.string fw)).drew.cell? ⟨blk,o+24,none⟩=some (.int .i64 I.length):=((p1 _).trans (if_neg (by omega))).trans x2;have d1:(w2.setCell ⟨blk,o+j,none⟩ (.string fw)).drew.cell? ⟨blk,o+12+I.length,none⟩=some (.int .i64 zb):=((p1 _).trans (if_neg (by omega))).trans aE;have c2:((w2.setCell ⟨blk,o+j,none⟩ (.string fw)).drew.setCell ⟨blk,o+12+I.length,none⟩ (.int .i64 (j:Nat))).drew.cell? ⟨blk,o+24,none⟩=some (.int .i64 I.length):=((p2 _).trans (if_neg (by omega))).trans c1;have g1:(w2.setCell ⟨blk,o+j,none⟩ (.string fw)).drew.frozen? ⟨blk,o+12+I.length,none⟩=false:=(World.frozen?_setCell _ _ _ _).trans x4
     have g2:((w2.setCell ⟨blk,o+j,none⟩ (.string fw)).drew.setCell ⟨blk,o+12+I.length,none⟩ (.int .i64 (j:Nat))).drew.frozen? ⟨blk,o+24,none⟩=false:=(World.frozen?_setCell _ _ _ _).trans ((World.frozen?_setCell _ _ _ _).trans x3)
     have a5:iM vars (I ++ [(nm,fw)]) blk o (((w2.setCell ⟨blk,o+j,none⟩ (.string fw)).drew.setCell ⟨blk,o+12+I.length,none⟩ (.int .i64 (j:Nat))).drew.setCell ⟨blk,o+24,none⟩ (.int .i64 ((I.length:Int)+1))):=by
      have e:(((I ++ [(nm,fw)]).length:Nat):Int)=(I.length:Int)+1:=by simp
      rw [e] at a3;exact a3.keep rfl
     have bl:dK blk o w (((w2.setCell ⟨blk,o+j,none⟩ (.string fw)).drew.setCell ⟨blk,o+12+I.length,none⟩ (.int .i64 (j:Nat))).drew.setCell ⟨blk,o+24,none⟩ (.int .i64 ((I.length:Int)+1))):=by
      have k1:=af.out.trans (dK.put w2 j (by omega) (.string fw));have k2:=k1.trans (dK.of_below (ϑ.drew) (κ a0 k1.grow.size));have k3:=k2.trans (by have:=dK.put (blk:=blk) (o:=o) (w2.setCell ⟨blk,o+j,none⟩ (.string fw)).drew (12+I.length) (by omega) (.int .i64 (j:Nat)); rw [← Nat.add_assoc] at this; exact this);have k4:=k3.trans (dK.of_below (ϑ.drew) (κ a0 k3.grow.size));exact k4.trans (dK.put _ 24 (by omega) _)
     have bn:(((w2.setCell ⟨blk,o+j,none⟩ (.string fw)).drew.setCell ⟨blk,o+12+I.length,none⟩ (.int .i64 (j:Nat))).drew.setCell ⟨blk,o+24,none⟩ (.int .i64 ((I.length:Int)+1))).heap[w.heap.size+1]? = some (.cells #[.string an,.slice (some ⟨aR,b3,none⟩) y.length cf] 33 (0,0)):=by
      rw [π _ _ _ _ (by show w.heap.size+1 ≠ blk; omega)];show (World.setCell _ _ _).heap[_]? = _;rw [π _ _ _ _ (by show w.heap.size+1 ≠ blk; omega)];show (World.setCell _ _ _).heap[_]? = _;rw [π _ _ _ _ (by show w.heap.size+1 ≠ blk; omega)];exact az.out
     have bE:=η a5;have bL:=η bl;have bO:=η bn;clear a3 a5 p1 p2 hi hlen bi bj bB bl bn af az U;go_wp2;go_region;generalize (w2.setCell ⟨blk,o+j,none⟩ (.string fw)).drew=S1 at *;clear x0 x1 x2 x3 x4 aE z0;go_wp2;go_region;generalize (S1.setCell ⟨blk,o+12+I.length,none⟩ (.int .i64 (j:Nat))).drew=S2 at *;clear c1 d1 z1 g1;go_wp2;go_roundw
     case rel=>exact ⟨k+1,_,ac.out,by go_num,J.out,bh.out,⟨bE.out,bz.out,bL.out⟩,bO.out⟩
     case measure=>have:=ac.out; simp [intOf]; omega
    ·have hw':=zk hw
     by_cases he:(dO I t).name=fw
     ·replace J:=η (fun h=>(J.out h).trans ((if_neg hw).trans (if_pos he)))
      rw [he] at *;go_wp2;go_roundw
      case rel=>exact ⟨k+1,I,ac.out,by go_num,J.out,bh.out,⟨U.out,a8.out,af.out⟩,az.out⟩
      case measure=>have:=ac.out; simp [intOf]; omega
     ·have bR:=Vy he
      have cg:((dO I t).name.toList == fw.toList)=false:=by simpa using bR
      replace J:=η (fun h=>(J.out h).trans ((if_neg hw).trans (if_neg he)));have HP:=η (kE.mk U.out a8.out af.out);go_wp2;go_ret;exact Ns.no HP.out J.out
   ·have he:k=y.length:=by omega
    have bu:¬ (k:Int) < (y.length:Int):=by omega
    rw [List.drop_of_length_le (by omega),List.drop_of_length_le (by omega)] at a6
    have bo:FM y:=fun t ht=>by
     obtain ⟨j,hj,rfl⟩:=List.getElem_of_mem ht;exact ab j hj (by omega)
    have e9:cZ args y b=(I,true):=by rw [a6 bo]; rfl
    have HP:=η hI;rw [e9];clear hI hq a6 ab;go_wp2;go_ret;exact ⟨I,true,rfl,HP.out,fun _=>rfl,fun h=>absurd bo h⟩
theorem FN (vars:List ByteArray) (hv:kC vars) (b:Bd) (y:jZ vars b) (a f:A) (I J:Option Addr) (U cf:Nat) (b1 b2:List Nat) (blk o:Nat) (w:World) (hb:iM vars b blk o w) (h:kV vars w [.slice I a.args.length U] a.args b1)
  (hf:gG w [.slice J f.args.length cf] f.args b2) (hin:∀ t ∈ a.args,t.var=true→t.name ∈ vars) (hc:∀ t ∈ a.args,t.var=false→t.name ≠ ⟨#[]⟩) (hg:∀ t ∈ f.args,t.var=false∧t.name ≠ ⟨#[]⟩) (h1:blk ∉ b1) (h2:blk ∉ b2) (a0:a.args.length≤1000000):
  Calls Tryz.prog 154 #[.pointer (some ⟨blk,o,none⟩),.agg #[.string a.name,.slice I a.args.length U],.agg #[.string f.name,.slice J f.args.length cf]] w fun e w'=>e=.returned (.bool (aG a f b).2)∧kE vars blk o w (aG a f b).1 w':=
 (PO vars hv b y a f I J U cf b1 b2 blk o w hb h hf hin hc h1 h2 a0).mono fun e w' ⟨bo,r,h3,h4,h5,_⟩=>by
  rw [h5 hg];exact ⟨h3,h4⟩
theorem XF:(Tryz.prog.info? 91).map (fun i=>(i.zero,i.size,i.bytes))=some (some (.agg #[.bool false,.string ⟨#[]⟩]),2,24):=by kernel_rfl
theorem Nu (vars:List ByteArray) (hv:kC vars) (b:Bd) (a6:jZ vars b) (a:A) (U:Option Addr) (ce:Nat) (b1:List Nat) (blk o:Nat) (w:World) (hb:iM vars b blk o w) (a1:a.name.size≤maxLen) (h:kV vars w [.slice U a.args.length ce] a.args b1) (hin:∀ t ∈ a.args,t.var=true→t.name ∈ vars) (aw:a.args.length≤1000000):
  Calls Tryz.prog 117 #[.pointer (some ⟨blk,o,none⟩),.agg #[.string a.name,.slice U a.args.length ce]] w fun e w'=>∃ v bs,e=.returned (.agg #[.string a.name,v])∧Below w.heap.size w w'∧aJ w' [.string a.name,v] (cO a b) bs∧New w.heap.size w' bs:=by
 obtain ⟨i0,hi,az,aD,aE⟩:=info_parts XF;obtain ⟨nm,args⟩:=a;dsimp only at h hin aw a1 ⊢;have aL:=η hin;have aM:=η a1;have HT:=η h;have a7:=η hb;have aR:=η a6;clear h hin a1 hb a6;have hA:Below w.heap.size w (((w.alloc (.cells #[.string nm,.slice U args.length ce] 168)).alloc (.cells #[.string ⟨#[]⟩,.slice none 0 0] 33)).alloc (.cells #[.string nm,.slice none 0 0] 33)):=((ζ).alloc (by simp) _).alloc (by simp; omega) _
 have a8:(((w.alloc (.cells #[.string nm,.slice U args.length ce] 168)).alloc (.cells #[.string ⟨#[]⟩,.slice none 0 0] 33)).alloc (.cells #[.string nm,.slice none 0 0] 33)).heap[w.heap.size+1]? = some (.cells #[.string ⟨#[]⟩,.slice none 0 0] 33 (0,0)):=by
  rw [Below.heap_alloc _ _ _ (by simp)];have:=ω (w.alloc (.cells #[.string nm,.slice U args.length ce] 168)) (.cells #[.string ⟨#[]⟩,.slice none 0 0] 33);simpa using this
 have a9:(((w.alloc (.cells #[.string nm,.slice U args.length ce] 168)).alloc (.cells #[.string ⟨#[]⟩,.slice none 0 0] 33)).alloc (.cells #[.string nm,.slice none 0 0] 33)).heap[w.heap.size+2]? = some (.cells #[.string nm,.slice none 0 0] 33 (0,0)):=by
  have:=ω ((w.alloc (.cells #[.string nm,.slice U args.length ce] 168)).alloc (.cells #[.string ⟨#[]⟩,.slice none 0 0] 33)) (.cells #[.string nm,.slice none 0 0] 33);simpa using this
 have aa:Hid (yS 2 kD 91 33 w (w.heap.size+1) (w.heap.size+2) (w.heap.size+3) nm (.slice none 0 0) [] ([]:List T) (((w.alloc (.cells #[.string nm,.slice U args.length ce] 168)).alloc (.cells #[.string ⟨#[]⟩,.slice none 0 0] 33)).alloc (.cells #[.string nm,.slice none 0 0] 33))):=
  η ⟨a8,a9,by omega,by omega,by omega,aX.nil _,hA,by simp⟩
 clear hA a8 a9
 go_enter Tryz.func117,Tryz.ntmps117
 go_wp2;generalize (((w.alloc (.cells #[.string nm,.slice U args.length ce] 168)).alloc (.cells #[.string ⟨#[]⟩,.slice none 0 0] 33)).alloc (.cells #[.string nm,.slice none 0 0] 33))=W at *
 go_loopw [14] (fun i wr=>∃ (k:Nat) (Av:Option Addr) (cv:Nat) (L:List Value),k≤args.length∧i=.int .i64 k∧yS 2 kD 91 33 w (w.heap.size+1) (w.heap.size+2) (w.heap.size+3) nm (.slice Av k cv) L ((args.take k).map (dO b)) wr) (fun i _=>args.length - (intOf i).toNat)
 case atStart=>exact ⟨0,none,0,[],ε,rfl,aa.out⟩
 case round=>
  obtain ⟨k,Av,cv,L,hk,rfl,y⟩:=hrel;clear aa;by_cases I:k < args.length
  ·obtain ⟨bq,oq,rfl,_,f0,f1,ab⟩:=yQ ((dw vars).below HT.out y.bel) I
   have bh:(0:Int)≤(k:Int):=by omega
   have b2:(k:Int) < (args.length:Int):=by omega
   have ac:=η I;have b3:Hid ((args.take (k+1)).map (dO b)=(args.take k).map (dO b) ++ [dO b args[k]]):=η (by rw [ρ I,List.map_append]; rfl);have a2:Below wr.heap.size wr (wr.alloc (.cells #[.int .i64 (kK vars args[k]),.string (kL args[k])] 244)):=ζ;have J:=y.later bD a2;have ae:=η J;have af:iM vars b blk o (wr.alloc (.cells #[.int .i64 (kK vars args[k]),.string (kL args[k])] 244)).drew:=a7.out.keep ((y.bel.trans (a2.mono y.bel.size)).block _ a7.out.lt);have HW:=η (xP vars hv b args[k] (aL.out _ (δ I)) blk o _ af);have b4:Hid ((dO b args[k]).name.size≤maxLen):=η (aR.out.Sj (fun hv=>(show kL args[k]=args[k].name by unfold kL; simp [hv]) ▸ ab));have HR:Hid (∀ w,kD w [.bool false,.string (dO b args[k]).name] (dO b args[k]) []):=η fun w=>⟨rfl,b4.out,rfl⟩
   have b5:Hid (((args.take k).map (dO b)).length=k):=η (by simp; omega);have b6:Hid (k+1≤maxLen):=η (by unfold maxLen; omega);have b7:Hid ((k+1) * 24≤140737488355328):=η (by omega);have y0:(wr.alloc (.cells #[.int .i64 (kK vars args[k]),.string (kL args[k])] 244)).cell? ⟨wr.heap.size,0,none⟩=some (.int .i64 (kK vars args[k])):=by go_simp
   have y1:(wr.alloc (.cells #[.int .i64 (kK vars args[k]),.string (kL args[k])] 244)).cell? ⟨wr.heap.size,1,none⟩=some (.string (kL args[k])):=by go_simp
   have q1:=ai J.r1 (o:=1);have q2:=ax J.r1 (o:=1);have q3:=ψ J.r1;clear y a2 J af ab hk;generalize kK vars args[k]=sn at *;generalize kL args[k]=ss at *;generalize args[k]=t at *;clear I;go_wp2;generalize wr.alloc (.cells #[.int .i64 sn,.string ss] 244)=W1 at *
   go_region_law
    (first
     | (go_simp; go_at_call 178; refine HW.out.mono ?_; rintro e w2 ⟨rfl,ag⟩; have a0:=η ((Below.refl W1.heap.size W1).drew.trans ag); have a3:=η (ae.out.later bD a0.out); have HL:=η (a3.out.lit bD lF HR.out); replace q1:=ξ a0.out q1; replace q3:=κ q3 a0.out.size; clear ag)
     | (refine aV (by rfl) (.tmp 19) (.tmp 24) _ (by rfl) (w.heap.size+3) 91 i0 (.agg #[.bool false,.string ⟨#[]⟩]) 2 24 Tryz.underlying31 hi az aD aE rfl (Θ 1) bD (.slice Av k cv) k L _ [] (by rfl) HL.out.1 b5.out (some ⟨w2.heap.size,0,none⟩) 1 1 _ [dO b t] _ (by rfl) HL.out.2.1 rfl HL.out.2.2.1 (fun b hb=>by simp at hb) b6.out b7.out w2 (w.heap.size+3) HL.out.2.2.2.1 ν HL.out.2.2.2.2 ?_; intro A5 c5 w5 am ao b8 bc; have HZ:=η (a3.out.app bD am ao); replace q1:=HZ.out.1; replace q2:=HZ.out.2.1; clear am ao b8 bc))
   all_goals
    have bf:=η HZ.out.2.2.1;clear ae HL HZ a3 a0 HW q1 q2 q3 y0 y1;go_wp2;go_roundw
    case rel=>exact ⟨k+1,A5,c5,_,ac.out,by go_num,by rw [b3.out]; exact bf.out⟩
    case measure=>have:=ac.out; simp [intOf]; omega
  ·have he:k=args.length:=by omega
   have b2:¬ (k:Int) < (args.length:Int):=by omega
   obtain ⟨W9,aq,ar,a4,b9,a5,av⟩:=y.done bD;have y0:wr.cell? ⟨w.heap.size+2,0,none⟩=some (.string nm):=ai y.r1;have y1:wr.cell? ⟨w.heap.size+2,1,none⟩=some (.slice Av k cv):=ai y.r1;have f0:wr.frozen? ⟨w.heap.size+1,0,none⟩=false:=ax y.r0;have f1:wr.frozen? ⟨w.heap.size+1,1,none⟩=false:=ax y.r0;have z0:wr.cell? ⟨w.heap.size+1,0,none⟩=some (.string ⟨#[]⟩):=ai y.r0;have z1:wr.cell? ⟨w.heap.size+1,1,none⟩=some (.slice none 0 0):=ai y.r0;have u0:W9.cell? ⟨w.heap.size+1,0,none⟩=some (.string nm):=ai a4;have u1:W9.cell? ⟨w.heap.size+1,1,none⟩=some (.slice Av k cv):=ai a4
   have HD:Hid (Below w.heap.size w W9∧aJ W9 [.string nm,.slice Av k cv] (cO ⟨nm,args⟩ b) b9∧New w.heap.size W9 b9):=
    η ⟨ar,⟨_,rfl,aM.out,by unfold cO; dsimp only; rw [ϕ (Nat.le_of_eq he.symm)] at a5; exact a5⟩,av.mono (by omega)⟩
   have bg:=η aq;have HU:=η (ι u0 u1);clear y ar a4 a5 av aq he u0 u1;go_wp2;rw [← bg.out];refine bodyPost_ret (v:=.agg #[.string nm,.slice Av k cv]) (by simp [results,Tryz.results117,go_sem,HU.out.1,HU.out.2]) rfl (by exact ⟨_,rfl,HD.out.1,_,HD.out.2⟩)
def D.Gt (list:List A) (r:Ru) (out:List A):List A:=(allB list r.body).foldl (fun o b=>eG o (cO r.head b)) out
def D.jo (list:List A) (level:Nat) (rl:List (Ru × Nat)):List A:=rl.foldl (fun out p=>if p.2=level then Gt list p.1 out else out) []
theorem D.Vz {list:List A} (y:list.length≤300) (body:List Pt):(yG list body).length≤300 ^ body.length:=by
 have h:∀ k,k≤body.length→(yG list (body.take k)).length≤300 ^ k:=by
  intro k
  induction k with
  | zero=>intro _; simp [yG]
  | succ k ih=>
   intro I;rw [vT list body k (by omega)];exact RH y (ih (by omega))
 have:=h body.length ν
 rwa [ϕ ν] at this
theorem D.Nv {list:List A} (y:list.length≤300) {body:List Pt} (hb:body.length≤4):(allB list body).length≤8100000000:=
 τ (List.length_filter_le _ _) (τ (Vz y body) (τ (Nat.pow_le_pow_right (by omega) hb) (by decide)))
theorem D.JJ (xs:List A) (a:A):(eG xs a).length≤xs.length+1:=by
 unfold eG
 split <;> simp <;> omega
theorem D.FO (list:List A) (level:Nat) (rl:List (Ru × Nat)) (k:Nat) (h:k < rl.length):jo list level (rl.take (k+1))=(if rl[k].2=level then Gt list rl[k].1 (jo list level (rl.take k)) else jo list level (rl.take k)):=by
 unfold jo;rw [ρ h,List.foldl_append];rfl
theorem D.XG (list:List A) (r:Ru) (out:List A) (k:Nat) (h:k < (allB list r.body).length):((allB list r.body).take (k+1)).foldl (fun o b=>eG o (cO r.head b)) out=eG (((allB list r.body).take k).foldl (fun o b=>eG o (cO r.head b)) out) (cO r.head (allB list r.body)[k]):=by
 rw [ρ h,List.foldl_append];rfl
theorem D.IG {bb bs:List Nat} {xs X:List A} {v:Value} {y w':World} {e:Ending} (h:Jy bb xs X v y.heap.size y e w') (ha:aC y [v] xs bs) (U:∀ c ∈ bs,c ∈ bb):
  Below y.heap.size y w'∧∃ A cap I,e=.returned (.slice A X.length cap)∧aC w' [.slice A X.length cap] X I∧∀ c ∈ I,c ∈ bb∨y.heap.size≤c:=by
 obtain ⟨hb,v',bs',rfl,h3,h4⟩:=h;refine ⟨hb,?_⟩
 rcases h4 with ⟨rfl,rfl⟩ | ⟨L,b9,hC,h9⟩
 ·obtain ⟨A,cap,rfl,_⟩:=aj ha
  exact ⟨A,cap,bs,rfl,au.below ha hb,fun c hc=>.inl (U c hc)⟩
 ·obtain ⟨b2,J,h6⟩:=hC.slice
  obtain ⟨A,cap,rfl,_⟩:=aj J;exact ⟨A,cap,b2,rfl,J,fun c hc=>(h6 c hc).elim .inr fun h=>.inl (h9 c h)⟩
theorem VA (rs:List Ru) (lv:List Nat) (level:Nat) (list:List A) (v0 v1 v3:Value) (b0 b1 b3:List Nat) (w:World) (hr:dW w [v0] rs b0) (hv:jT w [v1] lv b1) (hl:aC w [v3] list b3)
  (hlen:lv.length=rs.length) (aa:gm list=true) (hn:list.length≤300) (hm:rs.length≤8) (hb:∀ r ∈ rs,r.body.length≤4∧r.head.args.length≤1000∧∀ p ∈ r.body,p.atom.args.length≤1000):
  Calls Tryz.prog 110 #[v0,v1,.int .i64 level,v3] w fun e w'=>Below w.heap.size w w'∧∃ v bs,e=.returned v∧aC w' [v] (jo list level (rs.zip lv)) bs∧∀ c ∈ bs,w.heap.size≤c:=by
 obtain ⟨Ar,pr,rfl,bc,bf⟩:=aj hr;obtain ⟨Av,pv,rfl,bg,bh⟩:=aj hv;obtain ⟨Al,pl,rfl,bi,bj⟩:=aj hl;have HR:=η hr;have HV:=η hv;have HL:=η hl;have HB:=η hb;have ac:=η hlen;have hE:aC (w.alloc (.cells #[] 33)) [.slice (some ⟨w.heap.size,0,none⟩) 0 0] [] []:=uw;have hA:Below w.heap.size w (w.alloc (.cells #[] 33)):=ζ;clear hr hv hl bc bf bg bh bi bj hb hlen
 go_enter Tryz.func110,Tryz.ntmps110
 go_wp2_with fail
 generalize w.alloc (.cells #[] 33)=w0 at *
 go_loopw [9,10,11,12] (fun o i _ _ wr=>∃ (k:Nat) (out:List A) (bo:List Nat),k≤rs.length∧i=.int .i64 k∧Hid (out=jo list level ((rs.zip lv).take k))∧out.length≤k * 8100000000∧gm out=true∧Hid (aC wr [o] out bo)∧Hid (∀ c ∈ bo,w.heap.size≤c)∧Hid (Below w.heap.size w wr)) (fun _ i _ _ _=>rs.length - (intOf i).toNat)
 case atStart=>exact ⟨0,[],[],ε,rfl,η rfl,ε,rfl,η hE,η (fun c hc=>by cases hc),η hA⟩
 case round=>
  obtain ⟨k,out,bo,hk,rfl,ho,bl,ae,hO,a5,I⟩:=hrel;clear hE hA;by_cases a0:k < rs.length
  ·have c7:(0:Int)≤(k:Int):=by omega
   have bn:(k:Int) < (rs.length:Int):=by omega
   have bp:k < lv.length:=by have:=ac.out; omega
   have af:k < (rs.zip lv).length:=by rw [List.length_zip]; omega
   have c8:(k:Int) < (lv.length:Int):=by omega
   obtain ⟨vb,vo,rfl,_,ev⟩:=qP (dS.below HV.out I.out) bp;obtain ⟨rb,ro,Ah,ch,Ab,cb,br,rfl,_,e0,e1,e2,ag,_⟩:=iI (aS.below HR.out I.out) a0;have J:=η (FO list level (rs.zip lv) k af);rw [List.getElem_zip] at J;dsimp only at J;have a1:=η (HB.out _ (δ a0));have am:=η ag;generalize wr=wo at *;generalize rs[k]=r at *;generalize lv[k]=l at *;clear ag af;by_cases a2:l=level
   ·have bt:(l:Int)=(level:Int):=by omega
    have HE:Hid (Gt list r out=jo list level ((rs.zip lv).take (k+1))):=η (by rw [J.out,← ho.out,if_pos a2])
    obtain ⟨bu,bq,bv⟩:Hid (∃ b1,aJ wo [.string r.head.name,.slice Ah r.head.args.length ch] r.head b1)∧∃ bq,Hid (jd wo [.slice Ab r.body.length cb] r.body bq):=by
     obtain ⟨s,t,b1,b2,aq,bw,_,ht,hp⟩:=am.out;simp only [List.cons.injEq,true_and,and_true] at aq;obtain ⟨rfl,rfl⟩:=aq;exact ⟨η ⟨b1,_,rfl,bw,ht⟩,b2,η hp⟩
    have q5:=XA list r.body _ _ b3 bq wo (au.below HL.out I.out) bv.out aa hn a1.out.1 a1.out.2.2;have a6:=η (Nv hn a1.out.1);clear J ho am a2
    go_wp2_with fail
    refine q5.mono ?_;rintro e w5 ⟨a3,v5,b5,rfl,h5⟩;obtain ⟨A5,p5,rfl,bx,bz⟩:=aj h5;have H5:=η h5;have B5:=η (I.out.trans (a3.mono I.out.size));have C5:=η a3;have ar:=η (au.below hO.out a3);clear q5 h5 a3 bx bz hO
    go_wp2_with fail
    go_loopw [9,12] (fun o i wr=>∃ (q:Nat) (ys:List A) (av:List Nat),q≤(allB list r.body).length∧i=.int .i64 q∧Hid (ys=((allB list r.body).take q).foldl (fun o b=>eG o (cO r.head b)) out)∧Hid (ys.length≤out.length+q)∧gm ys=true∧Hid (aC wr [o] ys av)∧Hid (∀ c ∈ av,w.heap.size≤c)∧Hid (Below w5.heap.size w5 wr)) (fun _ i _=>(allB list r.body).length - (intOf i).toNat)
    case atStart=>exact ⟨0,out,bo,ε,rfl,η rfl,η ν,ae,ar,a5,η ϑ⟩
    case round=>
     obtain ⟨q,ys,aw,hq,rfl,a4,U,a7,hY,az,y⟩:=hrel;clear ar;by_cases a8:q < (allB list r.body).length
     ·have c9:(0:Int)≤(q:Int):=by omega
      have bA:(q:Int) < ((allB list r.body).length:Int):=by omega
      have ca:q≤8100000000:=by have:=a6.out; omega
      obtain ⟨ab,ao,A1,p1,A2,p2,bk,rfl,_,d0,d1,aD,_⟩:=y8 (nN.below H5.out y.out) a8;have g0:=ξ y.out (ξ C5.out e0);have g1:=ξ y.out (ξ C5.out e1);have aE:=η (XG list r out q a8)
      have aL:ys.length≤100000000000:=by
       have h1:=U.out;have h2:=a6.out;have h3:k * 8100000000≤8 * 8100000000:=Nat.mul_le_mul_right _ (by omega);omega
      generalize (allB list r.body)[q]=b0 at *;have hD:Below wr.heap.size wr wr.drew:=Below.drew ϑ;have Q1:=η fun w' (hb:Below wr.heap.size wr w')=>bu.out.elim fun b1 h1=>MG r.head b0 _ _ _ _ b1 bk w' (ak.below h1 (C5.out.trans ((y.out.mono C5.out.size).trans (hb.mono (τ C5.out.size y.out.size))))) (dm.below aD hb) (τ a1.out.2.1 (by omega))
      have Q2:=η fun w' (hb:Below wr.heap.size wr w') c0 c1 b6 (h6:aJ w' [c0,c1] (cO r.head b0) b6)=>Bz ys (cO r.head b0) _ c0 c1 aw b6 w' (au.below hY.out hb) h6 a7 aL
      have a9:=η hD;clear aD hD
      go_wp2_with fail
      go_region_held3 (fun w'=>w'.cell? ⟨rb,ro+k * 3,none⟩=some (.string r.head.name)∧w'.cell? ⟨rb,ro+k * 3+1,none⟩=some (.slice Ah r.head.args.length ch)∧w'.cell? ⟨ab,ao+q * 2,none⟩=some (.slice A1 b0.length p1)∧w'.cell? ⟨ab,ao+q * 2+1,none⟩=some (.slice A2 b0.length p2))
       (first | go_keep | exact aM | exact aR)
       (first
        | (go_at_call 172; refine (Q1.out _ a9.out).mono ?_; rintro e w6 ⟨b4,x0,x1,b6,rfl,h6,bB⟩; have B6:=a9.out.trans (b4.mono a9.out.size); have aM:=ι (ξ B6 g0) (ι (ξ B6 g1) (ι (ξ B6 d0) (ξ B6 d1))))
        | (go_at_call 49; refine (Q2.out _ B6 _ _ _ h6).mono ?_; rintro e w7 bE; obtain ⟨b8,A7,p7,b7,rfl,h7,bL⟩:=IG bE (au.below hY.out B6) (fun c hc=>Ξ _ hc); have B7:=B6.trans (b8.mono B6.size); have aR:=ι (ξ B7 g0) (ι (ξ B7 g1) (ι (ξ B7 d0) (ξ B7 d1)))))
      have bO:=η (y.out.trans (B7.mono y.out.size));have bR:Hid (eG ys (cO r.head b0)=((allB list r.body).take (q+1)).foldl (fun o b=>eG o (cO r.head b)) out):=η (by rw [aE.out,a4.out]);have bX:=η (τ (JJ ys (cO r.head b0)) (Nat.succ_le_succ U.out));have b9:=yj a7 (cO r.head b0);have H7:=η h7
      have c3:Hid (∀ c ∈ b7,w.heap.size≤c):=η fun c hc=>by
       have s1:=I.out.size;have s2:=C5.out.size;have s3:=y.out.size;have s4:=B6.size
       rcases bL c hc with h | h
       ·rcases μ.1 h with h | h
        ·exact az.out c h
        ·have:=bB c h
         have e9:wr.drew.heap.size=wr.heap.size:=rfl;omega
       ·omega
      clear Q1 Q2 aM aR h6 b4 b8 h7 B6 B7 g0 g1 d0 d1 aE a4 U aL;go_wp2;go_roundw
      case rel=>exact ⟨q+1,_,_,a8,by go_num,bR,bX,b9,H7,c3,bO⟩
      case measure=>simp [intOf]; omega
     ·have he:q=(allB list r.body).length:=by omega
      have bA:¬ (q:Int) < ((allB list r.body).length:Int):=by omega
      have c4:Hid (ys=jo list level ((rs.zip lv).take (k+1))):=η (by
       rw [← HE.out,a4.out,he,ϕ ν]
       rfl)
      have c5:Hid (ys.length≤(k+1) * 8100000000):=η (by
       have h1:=U.out;have h2:=a6.out;rw [Nat.add_mul]
       omega)
      have c6:=η (B5.out.trans (y.out.mono B5.out.size));clear he a4 U;go_wp2;go_roundw
      case rel=>exact ⟨k+1,ys,aw,a0,by go_num,c4,c5.out,a7,hY,az,c6⟩
      case measure=>simp [intOf]; omega
   ·have bt:¬ (l:Int)=(level:Int):=by omega
    have HE:Hid (out=jo list level ((rs.zip lv).take (k+1))):=η (by rw [J.out,← ho.out,if_neg a2]);clear J a2;go_wp2;go_roundw
    case rel=>exact ⟨k+1,out,bo,a0,by go_num,HE,τ bl (Nat.mul_le_mul_right _ (Nat.le_succ k)),ae,hO,a5,I⟩
    case measure=>simp [intOf]; omega
  ·have he:k=rs.length:=by omega
   have bn:¬ (k:Int) < (rs.length:Int):=by omega
   have HE:Hid (out=jo list level (rs.zip lv)):=η (by rw [ho.out,he,ϕ (by rw [List.length_zip]; omega)]);clear he ho;go_wp2;go_ret;exact ⟨I.out,_,rfl,bo,by rw [← HE.out]; exact hO.out,a5.out⟩
end Go.Proofs.YtkjinanbccloeaaGreatDoor
