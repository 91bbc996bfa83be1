/- Of the proof of FnExactDelta: QryI, MatI, FctI. -/
import Derived.Test.YtiidmgchadagbaaGreatDoorM25
set_option linter.unusedVariables false
set_option maxHeartbeats 4000000
set_option maxRecDepth 100000
namespace Go.Proofs.YtiidmgchadagbaaGreatDoor
open Go.RowKit D
attribute [local go_sem ↓] Go.wp_at_zero Go.wp_at_succ
theorem Vg:(Tryz.prog.info? 199).map (fun i=>(i.zero,i.size,i.bytes))=some (some (.agg #[.string ⟨#[]⟩,.slice none 0 0]),2,40):=by kernel_rfl
theorem D.yt (ps:List Pt):sK (aG ps):=lX ps sN
theorem D.J4 {ps:List Pt}:∀ p ∈ ps,∀ t ∈ p.atom.args,t.var=true→t.name ∈ aG ps:=fun p hp t ht htv=>(iq ps [] _).2 (.inr ⟨p,hp,t,ht,htv,rfl⟩)
theorem D.Vh {ps:List Pt} (h:ps.length≤1000) (hs:∀ p ∈ ps,p.atom.args.length≤1000):bI (fun p:Pt=>p.atom.args.length) ps≤1000000:=by
 have:∀ (l:List Pt),(∀ p ∈ l,p.atom.args.length≤1000)→bI (fun p:Pt=>p.atom.args.length) l≤l.length * 1000:=by
  intro l
  induction l with
  | nil=>intro _; exact Nat.zero_le _
  | cons p l ih=>
   intro hl;have h1:=ih fun q hq=>hl q (List.mem_cons_of_mem _ hq)
   have h2:=hl p (List.mem_cons_self ..);have h3:bI (fun p:Pt=>p.atom.args.length) (p :: l)=p.atom.args.length+bI (fun p:Pt=>p.atom.args.length) l:=by simp [bI]
   rw [h3,List.length_cons,Nat.add_mul];omega
 have:=this ps hs;omega
theorem D.uS.done {vars:List ByteArray} {w:World} {hz hb B:Nat} {vv:Value} {b3:List Nat} {v1:Value} {L1:List Value} {xs1:List A} {bs1:List Nat} {v2:Value} {L2:List Value} {xs2:List A} {bs2:List Nat} {wr:World}
  (h:uS vars w hz hb B vv b3 v1 L1 xs1 bs1 v2 L2 xs2 bs2 wr):
  ∃ W9,W9=((wr.setCell ⟨hz,0,none⟩ v1).setCell ⟨hz,1,none⟩ v2).setCell ⟨hz,2,none⟩ vv∧Below w.heap.size w W9∧W9.heap[hz]? = some (.cells #[v1,v2,vv] 195 (0,0))∧
   ∃ b1 b2,tC vars W9 [v1] xs1 b1∧tC vars W9 [v2] xs2 b2∧jL W9 [vv] vars b3∧∀ b ∈ b1 ++ b2 ++ b3,w.heap.size≤b:=by
 obtain ⟨b1,hs1,hb1⟩:=h.c1.slice;obtain ⟨b2,hs2,hb2⟩:=h.c2.slice;have h0:=h.h0;have h1:=h.h1;have hB:=h.hB;have g1:∀ b ∈ b1,B≤b:=fun b hb=>(hb1 b hb).elim id (h.k1 b)
 have g2:∀ b ∈ b2,B≤b:=fun b hb=>(hb2 b hb).elim id (h.k2 b)
 have keep:∀ b,b ≠ hz→(((wr.setCell ⟨hz,0,none⟩ v1).setCell ⟨hz,1,none⟩ v2).setCell ⟨hz,2,none⟩ vv).heap[b]? = wr.heap[b]?:=fun b hb'=>by
  rw [Below.heap_setCell _ _ _ _ hb',Below.heap_setCell _ _ _ _ hb',Below.heap_setCell _ _ _ _ hb']
 refine ⟨_,rfl,((h.bel.setCell (p:=⟨hz,0,none⟩) h0 _).setCell (p:=⟨hz,1,none⟩) h0 _).setCell (p:=⟨hz,2,none⟩) h0 _,?_,b1,b2,?_,?_,?_,?_⟩
 ·have:=bZ (o:=2) (u:=vv) (bZ (o:=1) (u:=v2) (bZ (o:=0) (u:=v1) h.r0))
  simpa using this
 ·exact (dS _).keep hs1 fun b hb'=>keep b (fun e=>by have:=g1 b hb'; omega)
 ·exact (dS _).keep hs2 fun b hb'=>keep b (fun e=>by have:=g2 b hb'; omega)
 ·exact cZ.keep h.vs fun b hb'=>keep b (h.kv b hb').2.2
 ·intro b hb'
  rcases List.mem_append.1 hb' with hb' | hb'
  ·rcases List.mem_append.1 hb' with hb' | hb'
   ·have:=g1 b hb'; omega
   ·have:=g2 b hb'; omega
  ·exact (h.kv b hb').1
theorem J5 (ps : List Pt) (v : Value) (bs : List Nat) (w : World) (h : gm w [v] ps bs) (hl4 : ps.length ≤ 1000) (hs : ∀ p ∈ ps, p.atom.args.length ≤ 1000) :
    Calls Tryz.prog 139 #[v] w fun e w' => ∃ A1 n1 q1 A2 n2 q2 A3 q3 bs', e = .returned (.agg #[.slice A1 n1 q1, .slice A2 n2 q2, .slice A3 (aG ps).length q3]) ∧ Below w.heap.size w w' ∧
      WW w' [.slice A1 n1 q1, .slice A2 n2 q2, .slice A3 (aG ps).length q3] ps bs' ∧ ∀ b ∈ bs', w.heap.size ≤ b := by
  obtain ⟨Ad, cap, rfl, hl, hm⟩ := af h;obtain ⟨i0, hi, hz0, hz1, hz2⟩ := info_parts Vg;have hlm := au (Nat.le_trans hl hm);have hsum : bI (fun p : Pt => p.atom.args.length) ps ≤ 1000000 := Vh hl4 hs;have HBV := Lib.hid (fun w' hb => G8 ps _ bs w' (aY.below h hb) hsum);have HVL : Hid (sK (aG ps) ∧ (aG ps).length ≤ 1000000) := Lib.hid ⟨yt ps, Nat.le_trans (by have := nZ ps []; simp only [List.length_nil] at this; show (fD ps []).length ≤ _; omega) hsum⟩;have HVI := Lib.hid (fun p hp t ht htv => J4 (ps := ps) p hp t ht htv);have HH := Lib.hid h;have HS := Lib.hid hs;clear hl hm hs hsum h;generalize hvars : aG ps = vars at *;have HBE := Lib.hid hvars.symm;clear hvars;have hA0 : Below w.heap.size w (w.alloc (.cells #[.slice none 0 0, .slice none 0 0, .slice none 0 0] 195)) := (Below.refl _ _).alloc (Nat.le_refl _) _;have HA0 := Lib.hid hA0;have HZ0 := Lib.hid (heap_alloc_new w (.cells #[.slice none 0 0, .slice none 0 0, .slice none 0 0] 195));have hbv := HBV.out _ hA0;clear hA0 HBV
  go_enter Tryz.func139, Tryz.ntmps139
  go_wp2_with fail
  refine hbv.mono ?_;rintro e w1 ⟨hb1, v3, b3, rfl, hk3, hn3⟩;obtain ⟨A3, q3, rfl, _⟩ := af hk3;have hs1 := hb1.size;have e1 : (w.alloc (.cells #[.slice none 0 0, .slice none 0 0, .slice none 0 0] 195)).heap.size = w.heap.size + 1 := by simp
  have hA1 : Below w1.heap.size w1 (w1.alloc (.cells #[.slice none 0 0, .slice none 0 0, .slice A3 vars.length q3] 195)) := (Below.refl _ _).alloc (Nat.le_refl _) _
  have HI0 : Hid (uS vars w w.heap.size w1.heap.size (w1.heap.size + 1) (.slice A3 vars.length q3) b3 (.slice none 0 0) [] [] [] (.slice none 0 0) [] [] [] (w1.alloc (.cells #[.slice none 0 0, .slice none 0 0, .slice A3 vars.length q3] 195))) := Lib.hid
    ⟨(hA1.block _ (by omega)).trans ((hb1.block _ (by omega)).trans HZ0.out), heap_alloc_new _ _, Nat.le_refl _, by omega, by omega, cO.nil _, cO.nil _, fun b hb => by simp at hb, fun b hb => by simp at hb, fun b hb => by simp [Value.ownBlock] at hb, fun b hb => by simp [Value.ownBlock] at hb,
      cZ.below hk3 hA1, fun b hb => ⟨by have := (hn3.own b hb).1; omega, hn3.lt hb, by have := (hn3.own b hb).1; omega⟩, (HA0.out.trans (hb1.mono (by omega))).trans (hA1.mono (by omega)), by simp⟩
  clear hbv hb1 hk3 hn3 hs1 e1 hA1 HZ0 HA0;go_wp2;generalize w1.alloc (.cells #[.slice none 0 0, .slice none 0 0, .slice A3 vars.length q3] 195) = W at *
  go_loopw [11] (fun i wr => ∃ (k : Nat) (A1 : Option Addr) (q1 : Nat) (L1 : List Value) (bs1 : List Nat) (A2 : Option Addr) (q2 : Nat) (L2 : List Value) (bs2 : List Nat), k ≤ ps.length ∧ i = .int .i64 k ∧ (gZ (ps.take k)).length ≤ k ∧ (dX (ps.take k)).length ≤ k ∧
    uS vars w w.heap.size w1.heap.size (w1.heap.size + 1) (.slice A3 vars.length q3) b3 (.slice A1 (gZ (ps.take k)).length q1) L1 (gZ (ps.take k)) bs1 (.slice A2 (dX (ps.take k)).length q2) L2 (dX (ps.take k)) bs2 wr) (fun i _ => ps.length - (intOf i).toNat)
  case atStart => exact ⟨0, none, 0, [], [], none, 0, [], [], Nat.zero_le _, rfl, Nat.le_refl _, Nat.le_refl _, HI0.out⟩
  case round =>
    obtain ⟨k, A1, q1, L1, bs1, A2, q2, L2, bs2, hk, rfl, hkp, hkn, hI⟩ := hrel;clear HI0;by_cases hlt : k < ps.length
    · obtain ⟨b, o, Ae, ce, bk, rfl, _, d0, d1, d2, hel, _⟩ := gJ (aY.below HH.out hI.bel) hlt
      have hk0 : (0 : Int) ≤ (k : Int) := by omega
      have hk1 : (k : Int) < (ps.length : Int) := by omega
      have HLT := Lib.hid hlt;have HPS := Lib.hid (PV ps k hlt);have HNS := Lib.hid (PW ps k hlt);have H63p : Hid ((gZ (ps.take k)).length + 1 ≤ maxLen ∧ ((gZ (ps.take k)).length + 1) * 40 ≤ 140737488355328) := Lib.hid (by unfold maxLen; omega);have H63n : Hid ((dX (ps.take k)).length + 1 ≤ maxLen ∧ ((dX (ps.take k)).length + 1) * 40 ≤ 140737488355328) := Lib.hid (by unfold maxLen; omega);have hA2 : Below wr.heap.size wr (wr.alloc (.cells #[.bool ps[k].no, .string ps[k].atom.name, .slice Ae ps[k].atom.args.length ce] 111)) := (Below.refl _ _).alloc (Nat.le_refl _) _;have hI1 := hI.later hA2;have HI1 := Lib.hid hI1;have q0 := ak hI1.r1 (o := 0);have q1x := ak hI1.r1 (o := 1);have q2x := ak hI1.r1 (o := 2);have hq4 := fun o => aB hI1.r1 (o := o)
      have q3x : w1.heap.size < (wr.alloc (.cells #[.bool ps[k].no, .string ps[k].atom.name, .slice Ae ps[k].atom.args.length ce] 111)).heap.size := lt_of_block hI1.r1;have hcall := zO vars ps[k].atom A1 A2 (gZ (ps.take k)).length q1 (dX (ps.take k)).length q2 (.slice A3 vars.length q3) _ _ b3 bk (wr.alloc (.cells #[.bool ps[k].no, .string ps[k].atom.name, .slice Ae ps[k].atom.args.length ce] 111)).drew (cZ.below hI1.vs ((Below.refl _ _).drew)) HVL.out.1 HVL.out.2 (aj.below (gK hel) (hA2.trans ((Below.refl _ _).drew.mono hA2.size))) (HVI.out _ (List.getElem_mem hlt)) (Nat.le_trans (HS.out _ (List.getElem_mem hlt)) (by omega));have HPC := Lib.hid hcall;have y0 : (wr.alloc (.cells #[.bool ps[k].no, .string ps[k].atom.name, .slice Ae ps[k].atom.args.length ce] 111)).cell? ⟨wr.heap.size, 0, none⟩ = some (.bool ps[k].no) := by go_simp
      have y1 : (wr.alloc (.cells #[.bool ps[k].no, .string ps[k].atom.name, .slice Ae ps[k].atom.args.length ce] 111)).cell? ⟨wr.heap.size, 1, none⟩ = some (.string ps[k].atom.name) := by go_simp
      have y2 : (wr.alloc (.cells #[.bool ps[k].no, .string ps[k].atom.name, .slice Ae ps[k].atom.args.length ce] 111)).cell? ⟨wr.heap.size, 2, none⟩ = some (.slice Ae ps[k].atom.args.length ce) := by go_simp
      clear hI hI1 hel hA2 hcall hk;generalize ps[k] = p at *;clear hlt;obtain ⟨no, nm, args⟩ := p;dsimp only at *;cases no
      · have q4x := hq4 0
        have ENp : Hid (gZ (ps.take (k + 1)) = gZ (ps.take k) ++ [⟨nm, args⟩]) := Lib.hid (by rw [HPS.out]; rfl);have ENn : Hid (dX (ps.take (k + 1)) = dX (ps.take k)) := Lib.hid (by rw [HNS.out]; simp);clear hq4 HPS HNS;go_wp2;generalize wr.alloc (.cells #[.bool false, .string nm, .slice Ae args.length ce] 111) = W1 at *
        go_region_law
          (first
            | (go_simp; go_at_call 140; refine HPC.out.mono ?_; rintro e w2 ⟨v9, b9, rfl, hb9, hnm9, hs9, hn9⟩; obtain ⟨A9, c9, rfl, _⟩ := af hs9; have HK2 := Lib.hid ((Below.refl W1.heap.size W1).drew.trans hb9); have HP9 := Lib.hid (And.intro hnm9 (And.intro hs9 hn9)); have HL := Lib.hid (uS.lit (a := ⟨nm, args⟩) HK2.out HI1.out.pX HI1.out.c1.own HP9.out.1 HP9.out.2.1 rfl); replace q0 := cell_later HK2.out q0; replace q1x := cell_later HK2.out q1x; replace q2x := cell_later HK2.out q2x; replace q3x := Nat.lt_of_lt_of_le q3x HK2.out.size; clear hb9 hnm9 hs9 hn9)
            | (refine iC (by rfl) (.tmp 27) (.tmp 32) _ (by rfl) (w1.heap.size + 1) 199 i0 (.agg #[.string ⟨#[]⟩, .slice none 0 0]) 2 40 Tryz.underlying193 hi hz0 hz1 hz2 rfl (Nat.zero_lt_succ 1) (.slice A1 (gZ (ps.take k)).length q1) (gZ (ps.take k)).length L1 (by rfl) HL.out.1 (some ⟨w2.heap.size, 0, none⟩) 1 1 _ (by rfl) rfl HL.out.2.1 HL.out.2.2.1 H63p.out.1 H63p.out.2 HL.out.2.2.2 ?_; intro A5 c5 w5 h5 g5 l5; have HZ := Lib.hid (HI1.out.app1 HK2.out HP9.out.1 HP9.out.2.1 HP9.out.2.2 rfl h5 g5 l5); replace q0 := HZ.out.1; replace q1x := HZ.out.2.1; replace q2x := HZ.out.2.2.1; replace q4x := HZ.out.2.2.2.1; clear h5 g5 l5))
        all_goals
          have HI9 := Lib.hid HZ.out.2.2.2.2;clear HI1 HL HZ HK2 HP9 HPC q0 q1x q2x q3x q4x;go_wp2;go_roundw
          case rel => exact ⟨k + 1, A5, c5, _, _, A2, q2, L2, bs2, HLT.out, by go_num, by rw [ENp.out]; simpa using hkp, by rw [ENn.out]; omega, by rw [ENp.out, ENn.out, List.length_append]; exact HI9.out⟩
          case measure => have := HLT.out; simp [intOf]; omega
      · have q4x := hq4 1
        have ENp : Hid (gZ (ps.take (k + 1)) = gZ (ps.take k)) := Lib.hid (by rw [HPS.out]; simp);have ENn : Hid (dX (ps.take (k + 1)) = dX (ps.take k) ++ [⟨nm, args⟩]) := Lib.hid (by rw [HNS.out]; rfl);clear hq4 HPS HNS;go_wp2;generalize wr.alloc (.cells #[.bool true, .string nm, .slice Ae args.length ce] 111) = W1 at *
        go_region_law
          (first
            | (go_simp; go_at_call 140; refine HPC.out.mono ?_; rintro e w2 ⟨v9, b9, rfl, hb9, hnm9, hs9, hn9⟩; obtain ⟨A9, c9, rfl, _⟩ := af hs9; have HK2 := Lib.hid ((Below.refl W1.heap.size W1).drew.trans hb9); have HP9 := Lib.hid (And.intro hnm9 (And.intro hs9 hn9)); have HL := Lib.hid (uS.lit (a := ⟨nm, args⟩) HK2.out HI1.out.pX HI1.out.c2.own HP9.out.1 HP9.out.2.1 rfl); replace q0 := cell_later HK2.out q0; replace q1x := cell_later HK2.out q1x; replace q2x := cell_later HK2.out q2x; replace q3x := Nat.lt_of_lt_of_le q3x HK2.out.size; clear hb9 hnm9 hs9 hn9)
            | (refine iC (by rfl) (.tmp 18) (.tmp 23) _ (by rfl) (w1.heap.size + 1) 199 i0 (.agg #[.string ⟨#[]⟩, .slice none 0 0]) 2 40 Tryz.underlying193 hi hz0 hz1 hz2 rfl (Nat.zero_lt_succ 1) (.slice A2 (dX (ps.take k)).length q2) (dX (ps.take k)).length L2 (by rfl) HL.out.1 (some ⟨w2.heap.size, 0, none⟩) 1 1 _ (by rfl) rfl HL.out.2.1 HL.out.2.2.1 H63n.out.1 H63n.out.2 HL.out.2.2.2 ?_; intro A5 c5 w5 h5 g5 l5; have HZ := Lib.hid (HI1.out.WX HK2.out HP9.out.1 HP9.out.2.1 HP9.out.2.2 rfl h5 g5 l5); replace q0 := HZ.out.1; replace q1x := HZ.out.2.1; replace q2x := HZ.out.2.2.1; replace q4x := HZ.out.2.2.2.1; clear h5 g5 l5))
        all_goals
          have HI9 := Lib.hid HZ.out.2.2.2.2;clear HI1 HL HZ HK2 HP9 HPC q0 q1x q2x q3x q4x;go_wp2;go_roundw
          case rel => exact ⟨k + 1, A1, q1, L1, bs1, A5, c5, _, _, HLT.out, by go_num, by rw [ENp.out]; omega, by rw [ENn.out]; simpa using hkn, by rw [ENp.out, ENn.out, List.length_append]; exact HI9.out⟩
          case measure => have := HLT.out; simp [intOf]; omega
    · have he : k = ps.length := by omega
      subst he;have hk1 : ¬ (ps.length : Int) < (ps.length : Int) := by omega
      rw [List.take_of_length_le (Nat.le_refl _)] at hI;obtain ⟨W9, hW9, hB9, hb9, b1, b2, hs1, hs2, hs3, hn9⟩ := hI.done;have y0 := ak hI.r1 (o := 0);have y1 := ak hI.r1 (o := 1);have y2 := ak hI.r1 (o := 2);have f0 := aB hI.r0 (o := 0);have f1 := aB hI.r0 (o := 1);have f2 := aB hI.r0 (o := 2);have z0 := ak hI.r0 (o := 0);have z1 := ak hI.r0 (o := 1);have z2 := ak hI.r0 (o := 2);have u0 := ak hb9 (o := 0);have u1 := ak hb9 (o := 1);have u2 := ak hb9 (o := 2);simp at y0 y1 y2 z0 z1 z2 u0 u1 u2;have HVE := Lib.hid (rfl : vars = vars);have HD := Lib.hid (And.intro hB9 (And.intro hs1 (And.intro hs2 (And.intro hs3 hn9))));have HW9 := Lib.hid hW9;have HU := Lib.hid (And.intro u0 (And.intro u1 u2));clear hI hB9 hb9 hs1 hs2 hs3 hn9 hW9 u0 u1 u2;go_wp2;rw [← HW9.out];refine bodyPost_ret (v := .agg #[.slice A1 (gZ ps).length q1, .slice A2 (dX ps).length q2, .slice A3 vars.length q3]) (by simp [results, Tryz.results139, go_sem, HU.out.1, HU.out.2.1, HU.out.2.2]) rfl ?_
      exact ⟨A1, _, q1, A2, _, q2, A3, q3, rfl, HD.out.1, _, ⟨_, _, _, b1, b2, b3, rfl, rfl, HBE.out ▸ HD.out.2.1, HBE.out ▸ HD.out.2.2.1, HBE.out ▸ HD.out.2.2.2.1⟩, HD.out.2.2.2.2⟩
theorem D.Tv {a b:ByteArray} (h:¬ a=b):¬ a.toList=b.toList:=by
 rw [ByteArray.toList_eq,ByteArray.toList_eq];exact fun e=>h (ByteArray.ext (Array.toList_inj.mp e))
theorem D.yu {a:ByteArray} (h:a ≠ ⟨#[]⟩):a.toList.isEmpty=false:=by
 rw [ByteArray.toList_eq,List.isEmpty_eq_false_iff];intro e;apply h;apply ByteArray.ext;exact Array.toList_inj.mp e
theorem D.Dv:(⟨#[]⟩:ByteArray).toList.isEmpty=true:=by rw [ByteArray.toList_eq]; rfl
structure D.lG (vars:List ByteArray) (blk o:Nat) (w:World) (b:Bd) (w':World):Prop where
 at_:iJ vars b blk o w'
 ok:jJ vars b
 kept:dD blk o w w'
theorem Dw (vars:List ByteArray) (hv:jT vars) (b:Bd) (hbo:jJ vars b) (a f:A) (Ae Af:Option Addr) (ce cf:Nat) (b1 b2:List Nat) (blk o:Nat) (w:World) (hb:iJ vars b blk o w) (h:kP vars w [.slice Ae a.args.length ce] a.args b1)
  (hf:eY w [.slice Af f.args.length cf] f.args b2) (hin:∀ t ∈ a.args,t.var=true→t.name ∈ vars) (hc:∀ t ∈ a.args,t.var=false→t.name ≠ ⟨#[]⟩) (hg:∀ t ∈ f.args,t.var=false∧t.name ≠ ⟨#[]⟩) (h1:blk ∉ b1) (h2:blk ∉ b2) (hal:a.args.length≤1000000):
  Calls Tryz.prog 200 #[.pointer (some ⟨blk,o,none⟩),.agg #[.string a.name,.slice Ae a.args.length ce],.agg #[.string f.name,.slice Af f.args.length cf]] w fun e w'=>e=.returned (.bool (aK a f b).2)∧lG vars blk o w (aK a f b).1 w':=by
 obtain ⟨an,args⟩:=a;obtain ⟨fn,fargs⟩:=f;dsimp only at *;have hA:Below w.heap.size w ((w.alloc (.cells #[.string an,.slice Ae args.length ce] 199)).alloc (.cells #[.string fn,.slice Af fargs.length cf] 68)):=((Below.refl _ _).alloc (Nat.le_refl _) _).alloc (by simp) _;have HA:=η hA;have hblk:=hb.lt;by_cases hnl:an=fn∧args.length=fargs.length
 rotate_left
 ·have e0:aK ⟨an,args⟩ ⟨fn,fargs⟩ b=(b,false):=by unfold aK; rw [if_neg hnl]
  rw [e0];have HP:Hid (lG vars blk o w b ((w.alloc (.cells #[.string an,.slice Ae args.length ce] 199)).alloc (.cells #[.string fn,.slice Af fargs.length cf] 68))):=η ⟨hb.keep (hA.block _ hblk),hbo,dD.of_below hA hblk⟩;clear hA hb hf h e0;by_cases hn:an=fn
  ·have hl:¬ ((args.length:Nat):Int)=((fargs.length:Nat):Int):=fun e=>hnl ⟨hn,by omega⟩
   subst hn
   go_enter Tryz.func200,Tryz.ntmps200
   go_wp2;go_ret;exact ⟨rfl,HP.out⟩
  ·have hn':=Tv hn
   go_enter Tryz.func200,Tryz.ntmps200
   go_wp2;go_ret;exact ⟨rfl,HP.out⟩
 ·obtain ⟨rfl,hl⟩:=hnl
  have e0:aK ⟨an,args⟩ ⟨an,fargs⟩ b=cu args fargs b:=by unfold aK; rw [if_pos ⟨rfl,hl⟩]
  rw [e0,hl];rw [hl] at h hA HA hal;have hm0:(w.alloc (.cells #[.string an,.slice Ae fargs.length ce] 199)).heap.size=w.heap.size+1:=by simp
  have hq0:((w.alloc (.cells #[.string an,.slice Ae fargs.length ce] 199)).alloc (.cells #[.string an,.slice Af fargs.length cf] 68)).heap[w.heap.size+1]? = some (.cells #[.string an,.slice Af fargs.length cf] 68 (0,0)):=by
   have:=heap_alloc_new (w.alloc (.cells #[.string an,.slice Ae fargs.length ce] 199)) (.cells #[.string an,.slice Af fargs.length cf] 68);simpa using this
  have HX:=η (And.intro h (And.intro hf (And.intro hin (And.intro hc hg))))
  have HI0:Hid (cu args fargs b=cu (args.drop 0) (fargs.drop 0) b∧lG vars blk o w b ((w.alloc (.cells #[.string an,.slice Ae fargs.length ce] 199)).alloc (.cells #[.string an,.slice Af fargs.length cf] 68))∧((w.alloc (.cells #[.string an,.slice Ae fargs.length ce] 199)).alloc (.cells #[.string an,.slice Af fargs.length cf] 68)).heap[w.heap.size+1]? = some (.cells #[.string an,.slice Af fargs.length cf] 68 (0,0))):=
   η ⟨rfl,⟨hb.keep (hA.block _ hblk),hbo,dD.of_below hA hblk⟩,hq0⟩
  clear hA hb hf h e0 hin hc hg hbo HA hq0 hm0
  go_enter Tryz.func200,Tryz.ntmps200
  go_wp2;generalize (w.alloc (.cells #[.string an,.slice Ae fargs.length ce] 199)).alloc (.cells #[.string an,.slice Af fargs.length cf] 68)=W at *
  go_loopw [28] (fun i wr=>∃ (k:Nat) (bk:Bd),k≤fargs.length∧i=.int .i64 k∧cu args fargs b=cu (args.drop k) (fargs.drop k) bk∧lG vars blk o w bk wr∧wr.heap[w.heap.size+1]? = some (.cells #[.string an,.slice Af fargs.length cf] 68 (0,0))) (fun i _=>fargs.length - (intOf i).toNat)
  case atStart=>exact ⟨0,b,Nat.zero_le _,rfl,HI0.out⟩
  case round=>
   obtain ⟨k,bk,hk,rfl,hmt,hI,hq⟩:=hrel;clear HI0;by_cases hltf:k < fargs.length
   ·have hlt:k < args.length:=by omega
    have hws:=hI.kept.grow.size;obtain ⟨bq,oq,rfl,hbq1,f0,f1,hsz⟩:=xP (hI.kept.keep (dm vars) HX.out.1 h1) hlt;obtain ⟨bq2,oq2,rfl,hbq2,g0,g1,gsz⟩:=dV (hI.kept.keep aH HX.out.2.1 h2) hltf;have HIN:=η (HX.out.2.2.1 _ (List.getElem_mem hlt));have HC:=η (HX.out.2.2.2.1 _ (List.getElem_mem hlt));obtain ⟨hgv,hgn⟩:=HX.out.2.2.2.2 _ (List.getElem_mem hltf);have hd1:args.drop k=args[k] :: args.drop (k+1):=List.drop_eq_getElem_cons hlt;have hd2:fargs.drop k=fargs[k] :: fargs.drop (k+1):=List.drop_eq_getElem_cons hltf;rw [hd1,hd2,JJ hI.ok _ _ _ _ HC.out] at hmt;have hA2:Below wr.heap.size wr (wr.alloc (.cells #[.int .i64 (jR vars args[k]),.string (jS args[k])] 246)):=(Below.refl _ _).alloc (Nat.le_refl _) _;have hbd:=hI.at_.keep (hA2.block _ hI.at_.lt);have hcall:=wI vars hv bk args[k] HIN.out blk o _ hbd;have g0':=cell_later hA2 g0;have g1':=cell_later hA2 g1;have hq1:wr.cell? ⟨w.heap.size+1,1,none⟩=some (.slice (some ⟨bq2,oq2,none⟩) fargs.length cf):=ak hq;replace hq1:=cell_later hA2 hq1
    have hqlt:=lt_of_block hq;have hk0:(0:Int)≤(k:Int):=by omega
    have hk1:(k:Int) < (fargs.length:Int):=by omega
    have hgn':=yu hgn;have HMT:=η hmt;have HI:=η hI;have HA2:=η hA2;have HQ:=η hq;have HLT:=η hltf;have HGS:=η gsz;clear g0 g1;clear hI hA2 hbd hmt hd1 hd2 hq hsz gsz hk;generalize hsn:jR vars args[k]=sn at *;generalize hss:jS args[k]=ss at *;generalize args[k]=t at *;generalize fargs[k]=f at *;obtain ⟨fv,fw⟩:=f;dsimp only at *;subst hgv;have HSN:=η hsn;clear hlt hltf hsn hss
    go_wp2_with fail
    refine hcall.mono ?_;rintro e w2 ⟨rfl,hb2⟩;have hb2':=HA2.out.trans (hb2.mono HA2.out.size);have z0:w2.cell? ⟨wr.heap.size,0,none⟩=some (.int .i64 sn):=cell_later hb2 (by go_simp);have hz2:wr.heap.size < w2.heap.size:=lt_of_cell z0;have BD2:=η (HI.out.at_.keep (hb2'.block _ HI.out.at_.lt));have KP2:=η (HI.out.kept.trans (dD.of_below hb2' HI.out.at_.lt));have HQ2:=η ((hb2'.block _ hqlt).trans HQ.out);have HOK:=η HI.out.ok;have HNE:Hid (blk ≠ wr.heap.size):=η (by omega);clear hcall hb2 hb2' HI HQ HA2;by_cases hw:(dH bk t).name=⟨#[]⟩
    ·obtain ⟨htv,hun⟩:=Nr HOK.out HC.out hw
     have hw':=Dv;rw [if_pos hw] at HMT;rw [hw];have hn:=HIN.out htv;have hi:=List.idxOf_lt_length_of_mem hn;have hfew:=hv.few;have hlen:=HOK.out.lt hn hun;have hsj:sn=((vars.idxOf t.name:Nat):Int):=by rw [← HSN.out]; unfold jR; simp [htv]
     have HNX:=η (HOK.out.snoc hn hun hgn HGS.out);have hbind:=BD2.out.bind hv HOK.out hn hun (v:=fw);subst hsj;clear htv hun HSN hw HC HIN hn;generalize t.name=nm at *;generalize vars.idxOf nm=j at *;have hz9:=BD2.out.bd bk.length (by omega);obtain ⟨zb,hzb,_⟩:=hz9;have x0:=BD2.out.wd j (by omega);have x1:=BD2.out.fz j (by omega);have x2:=BD2.out.ct;have x3:=BD2.out.fz 24 (by omega);have x4:=BD2.out.fz (12+bk.length) (by omega);rw [← Nat.add_assoc] at x4;have hj0:(0:Int)≤(j:Int):=by omega
     have hj1:(j:Int) < 12:=by omega
     have hl0:(0:Int)≤(bk.length:Int):=by omega
     have hl1:(bk.length:Int) < 12:=by omega
     have p1:=D.jU w2 blk (o+j) (.string fw) x0;have p2:=D.jU (w2.setCell ⟨blk,o+j,none⟩ (.string fw)) blk (o+12+bk.length) (.int .i64 (j:Nat)) (u:=.int .i64 zb) (by rw [p1,if_neg (by omega)]; exact hzb);have hbz:blk ≠ wr.heap.size:=HNE.out;have hb9:blk ≠ w.heap.size+1:=by omega
     have z1:(w2.setCell ⟨blk,o+j,none⟩ (.string fw)).drew.cell? ⟨wr.heap.size,0,none⟩=some (.int .i64 (j:Nat)):=(World.cell?_setCell_far _ _ _ _ hbz).trans z0;have c1:(w2.setCell ⟨blk,o+j,none⟩ (.string fw)).drew.cell? ⟨blk,o+24,none⟩=some (.int .i64 bk.length):=((p1 _).trans (if_neg (by omega))).trans x2;have d1:(w2.setCell ⟨blk,o+j,none⟩ (.string fw)).drew.cell? ⟨blk,o+12+bk.length,none⟩=some (.int .i64 zb):=((p1 _).trans (if_neg (by omega))).trans hzb;have c2:((w2.setCell ⟨blk,o+j,none⟩ (.string fw)).drew.setCell ⟨blk,o+12+bk.length,none⟩ (.int .i64 (j:Nat))).drew.cell? ⟨blk,o+24,none⟩=some (.int .i64 bk.length):=((p2 _).trans (if_neg (by omega))).trans c1;have g1:(w2.setCell ⟨blk,o+j,none⟩ (.string fw)).drew.frozen? ⟨blk,o+12+bk.length,none⟩=false:=(World.frozen?_setCell _ _ _ _).trans x4
     have g2:((w2.setCell ⟨blk,o+j,none⟩ (.string fw)).drew.setCell ⟨blk,o+12+bk.length,none⟩ (.int .i64 (j:Nat))).drew.frozen? ⟨blk,o+24,none⟩=false:=(World.frozen?_setCell _ _ _ _).trans ((World.frozen?_setCell _ _ _ _).trans x3)
     have hbind':iJ vars (bk ++ [(nm,fw)]) blk o (((w2.setCell ⟨blk,o+j,none⟩ (.string fw)).drew.setCell ⟨blk,o+12+bk.length,none⟩ (.int .i64 (j:Nat))).drew.setCell ⟨blk,o+24,none⟩ (.int .i64 ((bk.length:Int)+1))):=by
      have e:(((bk ++ [(nm,fw)]).length:Nat):Int)=(bk.length:Int)+1:=by simp
      rw [e] at hbind;exact hbind.keep rfl
     have hkp:dD blk o w (((w2.setCell ⟨blk,o+j,none⟩ (.string fw)).drew.setCell ⟨blk,o+12+bk.length,none⟩ (.int .i64 (j:Nat))).drew.setCell ⟨blk,o+24,none⟩ (.int .i64 ((bk.length:Int)+1))):=by
      have k1:=KP2.out.trans (dD.put w2 j (by omega) (.string fw));have k2:=k1.trans (dD.of_below ((Below.refl _ _).drew) (Nat.lt_of_lt_of_le hblk k1.grow.size));have k3:=k2.trans (by have:=dD.put (blk:=blk) (o:=o) (w2.setCell ⟨blk,o+j,none⟩ (.string fw)).drew (12+bk.length) (by omega) (.int .i64 (j:Nat)); rw [← Nat.add_assoc] at this; exact this);have k4:=k3.trans (dD.of_below ((Below.refl _ _).drew) (Nat.lt_of_lt_of_le hblk k3.grow.size));exact k4.trans (dD.put _ 24 (by omega) _)
     have hq9:(((w2.setCell ⟨blk,o+j,none⟩ (.string fw)).drew.setCell ⟨blk,o+12+bk.length,none⟩ (.int .i64 (j:Nat))).drew.setCell ⟨blk,o+24,none⟩ (.int .i64 ((bk.length:Int)+1))).heap[w.heap.size+1]? = some (.cells #[.string an,.slice (some ⟨bq2,oq2,none⟩) fargs.length cf] 68 (0,0)):=by
      rw [Below.heap_setCell _ _ _ _ (by show w.heap.size+1 ≠ blk; omega)];show (World.setCell _ _ _).heap[_]? = _;rw [Below.heap_setCell _ _ _ _ (by show w.heap.size+1 ≠ blk; omega)];show (World.setCell _ _ _).heap[_]? = _;rw [Below.heap_setCell _ _ _ _ (by show w.heap.size+1 ≠ blk; omega)];exact HQ2.out
     have HBI:=η hbind';have HKP:=η hkp;have HQ9:=η hq9;clear hbind hbind' p1 p2 hi hlen hfew hbz hb9 hkp hq9 KP2 HQ2 BD2;go_wp2;go_region;generalize (w2.setCell ⟨blk,o+j,none⟩ (.string fw)).drew=S1 at *;clear x0 x1 x2 x3 x4 hzb z0;go_wp2;go_region;generalize (S1.setCell ⟨blk,o+12+bk.length,none⟩ (.int .i64 (j:Nat))).drew=S2 at *;clear c1 d1 z1 g1;go_wp2;go_roundw
     case rel=>exact ⟨k+1,_,HLT.out,by go_num,HMT.out,⟨HBI.out,HNX.out,HKP.out⟩,HQ9.out⟩
     case measure=>have:=HLT.out; simp [intOf]; omega
    ·have hw':=yu hw
     by_cases he:(dH bk t).name=fw
     ·rw [if_neg hw,if_pos he] at HMT
      rw [he] at *;go_wp2;go_roundw
      case rel=>exact ⟨k+1,bk,HLT.out,by go_num,HMT.out,⟨BD2.out,HOK.out,KP2.out⟩,HQ2.out⟩
      case measure=>have:=HLT.out; simp [intOf]; omega
     ·have he':=Tv he
      have he2:((dH bk t).name.toList == fw.toList)=false:=by simpa using he'
      rw [if_neg hw,if_neg he] at HMT;have HP:=η (lG.mk BD2.out HOK.out KP2.out);go_wp2;go_ret;rw [HMT.out];exact ⟨rfl,HP.out⟩
   ·have he:k=fargs.length:=by omega
    have hk1:¬ (k:Int) < (fargs.length:Int):=by omega
    rw [List.drop_of_length_le (by omega),List.drop_of_length_le (by omega)] at hmt;have e9:cu args fargs b=(bk,true):=by rw [hmt]; rfl
    have HP:=η hI;rw [e9];clear hI hq hmt;go_wp2;go_ret;exact ⟨rfl,HP.out⟩
theorem Vj:(Tryz.prog.info? 109).map (fun i=>(i.zero,i.size,i.bytes))=some (some (.agg #[.bool false,.string ⟨#[]⟩]),2,24):=by kernel_rfl
theorem J6 (vars:List ByteArray) (hv:jT vars) (b:Bd) (hbo:jJ vars b) (a:A) (Ae:Option Addr) (ce:Nat) (b1:List Nat) (blk o:Nat) (w:World) (hb:iJ vars b blk o w) (hnm:a.name.size≤maxLen) (h:kP vars w [.slice Ae a.args.length ce] a.args b1) (hin:∀ t ∈ a.args,t.var=true→t.name ∈ vars) (hal:a.args.length≤1000000):
  Calls Tryz.prog 143 #[.pointer (some ⟨blk,o,none⟩),.agg #[.string a.name,.slice Ae a.args.length ce]] w fun e w'=>∃ v bs,e=.returned (.agg #[.string a.name,v])∧Below w.heap.size w w'∧aU w' [.string a.name,v] (bY a b) bs∧New w.heap.size w' bs:=by
 obtain ⟨i0,hi,hz0,hz1,hz2⟩:=info_parts Vj;obtain ⟨nm,args⟩:=a;dsimp only at h hin hal hnm ⊢;have HIN:=η hin;have HNM:=η hnm;have HT:=η h;have HB0:=η hb;have HBO:=η hbo;clear h hin hnm hb hbo;have hA:Below w.heap.size w (((w.alloc (.cells #[.string nm,.slice Ae args.length ce] 199)).alloc (.cells #[.string ⟨#[]⟩,.slice none 0 0] 68)).alloc (.cells #[.string nm,.slice none 0 0] 68)):=(((Below.refl _ _).alloc (Nat.le_refl _) _).alloc (by simp) _).alloc (by simp; omega) _
 have hr0:(((w.alloc (.cells #[.string nm,.slice Ae args.length ce] 199)).alloc (.cells #[.string ⟨#[]⟩,.slice none 0 0] 68)).alloc (.cells #[.string nm,.slice none 0 0] 68)).heap[w.heap.size+1]? = some (.cells #[.string ⟨#[]⟩,.slice none 0 0] 68 (0,0)):=by
  rw [Below.heap_alloc _ _ _ (by simp)];have:=heap_alloc_new (w.alloc (.cells #[.string nm,.slice Ae args.length ce] 199)) (.cells #[.string ⟨#[]⟩,.slice none 0 0] 68);simpa using this
 have hr1:(((w.alloc (.cells #[.string nm,.slice Ae args.length ce] 199)).alloc (.cells #[.string ⟨#[]⟩,.slice none 0 0] 68)).alloc (.cells #[.string nm,.slice none 0 0] 68)).heap[w.heap.size+2]? = some (.cells #[.string nm,.slice none 0 0] 68 (0,0)):=by
  have:=heap_alloc_new ((w.alloc (.cells #[.string nm,.slice Ae args.length ce] 199)).alloc (.cells #[.string ⟨#[]⟩,.slice none 0 0] 68)) (.cells #[.string nm,.slice none 0 0] 68);simpa using this
 have HI0:Hid (xR 2 nD 109 68 w (w.heap.size+1) (w.heap.size+2) (w.heap.size+3) nm (.slice none 0 0) [] ([]:List T) (((w.alloc (.cells #[.string nm,.slice Ae args.length ce] 199)).alloc (.cells #[.string ⟨#[]⟩,.slice none 0 0] 68)).alloc (.cells #[.string nm,.slice none 0 0] 68))):=
  η ⟨hr0,hr1,by omega,by omega,by omega,cO.nil _,hA,by simp⟩
 clear hA hr0 hr1
 go_enter Tryz.func143,Tryz.ntmps143
 go_wp2;generalize (((w.alloc (.cells #[.string nm,.slice Ae args.length ce] 199)).alloc (.cells #[.string ⟨#[]⟩,.slice none 0 0] 68)).alloc (.cells #[.string nm,.slice none 0 0] 68))=W at *
 go_loopw [14] (fun i wr=>∃ (k:Nat) (Av:Option Addr) (cv:Nat) (L:List Value),k≤args.length∧i=.int .i64 k∧xR 2 nD 109 68 w (w.heap.size+1) (w.heap.size+2) (w.heap.size+3) nm (.slice Av k cv) L ((args.take k).map (dH b)) wr) (fun i _=>args.length - (intOf i).toNat)
 case atStart=>exact ⟨0,none,0,[],Nat.zero_le _,rfl,HI0.out⟩
 case round=>
  obtain ⟨k,Av,cv,L,hk,rfl,hI⟩:=hrel;clear HI0;by_cases hlt:k < args.length
  ·obtain ⟨bq,oq,rfl,_,f0,f1,hsz⟩:=xP ((dm vars).below HT.out hI.bel) hlt
   have hk0:(0:Int)≤(k:Int):=by omega
   have hk1:(k:Int) < (args.length:Int):=by omega
   have HLT:=η hlt;have HTK:Hid ((args.take (k+1)).map (dH b)=(args.take k).map (dH b) ++ [dH b args[k]]):=η (by rw [List.take_succ_eq_append_getElem hlt,List.map_append]; rfl);have hA2:Below wr.heap.size wr (wr.alloc (.cells #[.int .i64 (jR vars args[k]),.string (jS args[k])] 246)):=(Below.refl _ _).alloc (Nat.le_refl _) _;have hI1:=hI.later eP hA2;have HI1:=η hI1;have hbd:iJ vars b blk o (wr.alloc (.cells #[.int .i64 (jR vars args[k]),.string (jS args[k])] 246)).drew:=HB0.out.keep ((hI.bel.trans (hA2.mono hI.bel.size)).block _ HB0.out.lt);have HW:=η (wI vars hv b args[k] (HIN.out _ (List.getElem_mem hlt)) blk o _ hbd);have HSZ:Hid ((dH b args[k]).name.size≤maxLen):=η (HBO.out.PX (fun hv=>(show jS args[k]=args[k].name by unfold jS; simp [hv]) ▸ hsz));have HR:Hid (∀ w,nD w [.bool false,.string (dH b args[k]).name] (dH b args[k]) []):=η fun w=>⟨rfl,HSZ.out,rfl⟩
   have HLK:Hid (((args.take k).map (dH b)).length=k):=η (by simp; omega);have H63:Hid (k+1≤maxLen):=η (by unfold maxLen; omega);have HBY:Hid ((k+1) * 24≤140737488355328):=η (by omega);have y0:(wr.alloc (.cells #[.int .i64 (jR vars args[k]),.string (jS args[k])] 246)).cell? ⟨wr.heap.size,0,none⟩=some (.int .i64 (jR vars args[k])):=by go_simp
   have y1:(wr.alloc (.cells #[.int .i64 (jR vars args[k]),.string (jS args[k])] 246)).cell? ⟨wr.heap.size,1,none⟩=some (.string (jS args[k])):=by go_simp
   have q1:=ak hI1.r1 (o:=1);have q2:=aB hI1.r1 (o:=1);have q3:=lt_of_block hI1.r1;clear hI hA2 hI1 hbd hsz hk;generalize jR vars args[k]=sn at *;generalize jS args[k]=ss at *;generalize args[k]=t at *;clear hlt;go_wp2;generalize wr.alloc (.cells #[.int .i64 sn,.string ss] 246)=W1 at *
   go_region_law
    (first
     | (go_simp; go_at_call 178; refine HW.out.mono ?_; rintro e w2 ⟨rfl,hb2⟩; have HK2:=η ((Below.refl W1.heap.size W1).drew.trans hb2); have HI2:=η (HI1.out.later eP HK2.out); have HL:=η (HI2.out.lit eP qI HR.out); replace q1:=cell_later HK2.out q1; replace q3:=Nat.lt_of_lt_of_le q3 HK2.out.size; clear hb2)
     | (refine aN (by rfl) (.tmp 19) (.tmp 24) _ (by rfl) (w.heap.size+3) 109 i0 (.agg #[.bool false,.string ⟨#[]⟩]) 2 24 Tryz.underlying66 hi hz0 hz1 hz2 rfl (Nat.zero_lt_succ 1) eP (.slice Av k cv) k L _ [] (by rfl) HL.out.1 HLK.out (some ⟨w2.heap.size,0,none⟩) 1 1 _ [dH b t] _ (by rfl) HL.out.2.1 rfl HL.out.2.2.1 (fun b hb=>by simp at hb) H63.out HBY.out w2 (w.heap.size+3) HL.out.2.2.2.1 (Nat.le_refl _) HL.out.2.2.2.2 ?_; intro A5 c5 w5 hC5 hB5 hS5 hG5; have HZ:=η (HI2.out.app eP hC5 hB5); replace q1:=HZ.out.1; replace q2:=HZ.out.2.1; clear hC5 hB5 hS5 hG5))
   all_goals
    have HI9:=η HZ.out.2.2.1;clear HI1 HL HZ HI2 HK2 HW q1 q2 q3 y0 y1;go_wp2;go_roundw
    case rel=>exact ⟨k+1,A5,c5,_,HLT.out,by go_num,by rw [HTK.out]; exact HI9.out⟩
    case measure=>have:=HLT.out; simp [intOf]; omega
  ·have he:k=args.length:=by omega
   have hk1:¬ (k:Int) < (args.length:Int):=by omega
   obtain ⟨W9,hW9,hB9,hb9,b9,hs9,hn9⟩:=hI.done eP;have y0:wr.cell? ⟨w.heap.size+2,0,none⟩=some (.string nm):=ak hI.r1;have y1:wr.cell? ⟨w.heap.size+2,1,none⟩=some (.slice Av k cv):=ak hI.r1;have f0:wr.frozen? ⟨w.heap.size+1,0,none⟩=false:=aB hI.r0;have f1:wr.frozen? ⟨w.heap.size+1,1,none⟩=false:=aB hI.r0;have z0:wr.cell? ⟨w.heap.size+1,0,none⟩=some (.string ⟨#[]⟩):=ak hI.r0;have z1:wr.cell? ⟨w.heap.size+1,1,none⟩=some (.slice none 0 0):=ak hI.r0;have u0:W9.cell? ⟨w.heap.size+1,0,none⟩=some (.string nm):=ak hb9;have u1:W9.cell? ⟨w.heap.size+1,1,none⟩=some (.slice Av k cv):=ak hb9
   have HD:Hid (Below w.heap.size w W9∧aU W9 [.string nm,.slice Av k cv] (bY ⟨nm,args⟩ b) b9∧New w.heap.size W9 b9):=
    η ⟨hB9,⟨_,rfl,HNM.out,by unfold bY; dsimp only; rw [List.take_of_length_le (Nat.le_of_eq he.symm)] at hs9; exact hs9⟩,hn9.mono (by omega)⟩
   have HW9:=η hW9;have HU:=η (And.intro u0 u1);clear hI hB9 hb9 hs9 hn9 hW9 he u0 u1;go_wp2;rw [← HW9.out];refine bodyPost_ret (v:=.agg #[.string nm,.slice Av k cv]) (by simp [results,Tryz.results143,go_sem,HU.out.1,HU.out.2]) rfl (by exact ⟨_,rfl,HD.out.1,_,HD.out.2⟩)
end Go.Proofs.YtiidmgchadagbaaGreatDoor
