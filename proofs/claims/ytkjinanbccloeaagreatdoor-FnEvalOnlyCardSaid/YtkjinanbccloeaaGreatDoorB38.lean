/- Of the proof of FnEvalOnly: RunI, ColI. -/
import Derived.Test.YtkjinanbccloeaaGreatDoorB36
set_option linter.unusedVariables false
set_option maxHeartbeats 8000000
set_option maxRecDepth 100000
namespace Go.Proofs.YtkjinanbccloeaaGreatDoor
section
open Go.RowKit D
attribute [local go_sem ↓] Go.wp_at_zero Go.wp_at_succ
section
variable (vars:List ByteArray) (fs:List A) (rn:List Nat) (bs:List Nat) (ps ns:List A) (head:A) (sk sb:Nat) (Ap:Option Addr) (cp:Nat) (An:Option Addr) (cn:Nat) (bp bn:List Nat) (wt:Nat→Bool) (ah:Int) (c5 c7:Addr) (K:Nat→Prop) (T:Bool→World→List A→Prop) (go:List A→Bool)
theorem run_stop (E:qp vars fs ps ns head wt) (hK:∀ k,K k→k ≠ sk) (hT:uZ vars head sk K c5 c7 T go) (left:Nat) (b:Bd) (told:List A) (w:World)
  (S:oW vars fs rn bs ps ns sk sb (.slice Ap ps.length cp) (.slice An ns.length cn) bp bn wt ah (.func (.func 116) #[] #[.pointer (some c5),.pointer (some c7)]) K b w)
  (a0:T true w told) (hS:setB vars b wt=true) (hH:xq fs ns b=true):
  Calls Tryz.prog 179 #[.pointer (some ⟨sk,0,none⟩),.int .i64 left] w (rU vars fs ps ns head K sk T go b left told w):=by
 have I:=(rQ E.hv S.ok E.want E.hin E.nin).1 hS;have J:=rM vars b sk sb _ _ wt false ah _ w S.sea S.at_;rw [hS] at J;have U:=fun w1 (y:Below w.heap.size w w1)=>ql vars E.hv b S.ok fs rn bs ns An cn bn sk sb _ wt false ah _ w1 (S.below y).sea (S.below y).at_ (S.below y).oK (S.below y).pns E.nin (fun n hn=>(sS (E.nok n hn) S.wds (I.2 n hn)).ok) E.nl
 rw [hH] at U
 have a1:Hid (∀ w2,Below w.heap.size w w2→iL vars fs ps ns head K sk T go b left told false true w w2):=η fun w2 hb=>⟨[],bP.of_below S.sea.lt hb,S.at_.keep (hb.block _ S.sea.lt),
  by rw [List.append_nil]; exact hT.keep _ _ _ a0 (cZ.of_below hb S.sea.lt),fun t ht=>by simp at ht,fun _ σ hσ=>absurd hσ (Ue E S.wds I.2 hH σ),fun h=>by simp at h,fun h=>by simp at h⟩
 have a2:=η U;clear U S I a0 hT
 go_enter Tryz.func179,Tryz.ntmps179
 go_wp2_with fail
 refine J.mono ?_;rintro e w1 ⟨rfl,y⟩;have hh:=a2.out w1 y
 go_wp2_with fail
 refine hh.mono ?_;rintro e w2 ⟨rfl,a3⟩;have HD:=η (a1.out w2 (y.trans (a3.mono y.size)));clear J hh y a3 a1 a2;go_wp2;go_ret2;exact HD.out.ret
theorem Uo (E:qp vars fs ps ns head wt) (hK:∀ k,K k→k ≠ sk) (hT:uZ vars head sk K c5 c7 T go) (b:Bd) (told:List A) (w:World)
  (S:oW vars fs rn bs ps ns sk sb (.slice Ap ps.length cp) (.slice An ns.length cn) bp bn wt ah (.func (.func 116) #[] #[.pointer (some c5),.pointer (some c7)]) K b w)
  (a0:∀ p ∈ ps,wF b p.args) (a1:T true w told) (hH:xq fs ns b=false):
  Calls Tryz.prog 179 #[.pointer (some ⟨sk,0,none⟩),.int .i64 ((0:Nat):Int)] w (rU vars fs ps ns head K sk T go b 0 told w):=by
 have hcv:=E.tight b a0;have hS:=(rQ E.hv S.ok E.want E.hin E.nin).2 hcv;have I:=rM vars b sk sb _ _ wt false ah _ w S.sea S.at_;rw [hS] at I;have J:=fun w1 (y:Below w.heap.size w w1)=>ql vars E.hv b S.ok fs rn bs ns An cn bn sk sb _ wt false ah _ w1 (S.below y).sea (S.below y).at_ (S.below y).oK (S.below y).pns E.nin (fun n hn=>(sS (E.nok n hn) S.wds (hcv.2 n hn)).ok) E.nl
 rw [hH] at J;have a2:=fun w2 (hb:Below w.heap.size w w2)=>hT.call w2.drew b told S.ok S.wds hcv.1 (S.at_.keep ((hb.block _ S.sea.lt))) (hT.keep _ _ _ a1 (cZ.of_below hb.drew S.sea.lt))
 have a3:Hid (∀ w2 w3:World,Below w.heap.size w w2→T (go (told ++ [bQ head b])) w3 (told ++ [bQ head b])→bP K sk w2.drew w3→w3.heap[sk]? = w2.drew.heap[sk]?→iL vars fs ps ns head K sk T go b 0 told true (go (told ++ [bQ head b])) w w3):=η fun w2 w3 hb h1 h2 h3=>
  ⟨[bQ head b],(bP.of_below S.sea.lt hb.drew).trans h2,(S.at_.keep (hb.block _ S.sea.lt)).keep h3,h1,fun t ht=>by
   rw [List.mem_singleton.1 ht]
   exact ⟨iU b,⟨Hl b,fun j _ hj=>by simp at hj,fun n hn=>by rw [← wG]; exact Uf E S.wds hcv.2 hH n hn⟩,(wG _ _).symm⟩,
   fun _ σ hσ=>by rw [← jO hcv.1 hσ.1]; exact List.mem_singleton_self _,fun _=>by simp,fun h=>h⟩
 have a4:=η J;have a5:=η a2;have U:=η S.sea;clear J a2 S hcv a1 hT a0
 go_enter Tryz.func179,Tryz.ntmps179
 go_wp2_with fail
 refine I.mono ?_;rintro e w1 ⟨rfl,y⟩;have hh:=a4.out w1 y
 go_wp2_with fail
 refine hh.mono ?_;rintro e w2 ⟨rfl,a6⟩;have HB:=η (y.trans (a6.mono y.size));have a7:=η (a5.out w2 HB.out);have s0:=(U.out.keep (HB.out.block _ U.out.lt)).tl;clear I hh y a6 a4 a5;go_wp2
 go_region_law
  (first
   | (go_simp; go_at_call 116; refine a7.out.mono ?_; rintro e w3 ⟨rfl,a8,a9,aa⟩; have HD:=η (a3.out w2 w3 HB.out a8 a9 aa); clear a8 a9 aa))
 all_goals
  clear s0 a7 a3 U;go_wp2;go_ret2;exact HD.out.ret
theorem La (E : qp vars fs ps ns head wt) (hK : ∀ k, K k → k ≠ sk) (hT : uZ vars head sk K c5 c7 T go) (left : Nat) (bX : left < 2 ^ ps.length) (cA : left ≠ 0)
    (IH : ∀ ap, ap < left → ∀ (b : Bd) (told : List A) (w : World), oW vars fs rn bs ps ns sk sb (.slice Ap ps.length cp) (.slice An ns.length cn) bp bn wt ah (.func (.func 116) #[] #[.pointer (some c5), .pointer (some c7)]) K b w →
      (∀ j (h : j < ps.length), ap.testBit j = false → wF b ps[j].args) → T true w told → Calls Tryz.prog 179 #[.pointer (some ⟨sk, 0, none⟩), .int .i64 ap] w (rU vars fs ps ns head K sk T go b ap told w))
    (b : Bd) (told : List A) (w : World)
    (S : oW vars fs rn bs ps ns sk sb (.slice Ap ps.length cp) (.slice An ns.length cn) bp bn wt ah (.func (.func 116) #[] #[.pointer (some c5), .pointer (some c7)]) K b w)
    (c3 : ∀ j (h : j < ps.length), left.testBit j = false → wF b ps[j].args) (cu : T true w told) (hH : setB vars b wt = true → xq fs ns b = false) :
    Calls Tryz.prog 179 #[.pointer (some ⟨sk, 0, none⟩), .int .i64 left] w (rU vars fs ps ns head K sk T go b left told w) := by
  have hl : left < 16 := Nat.lt_of_lt_of_le bX (Nat.pow_le_pow_right (by omega) E.p4 : 2 ^ ps.length ≤ 2 ^ 4);have c4 := rM vars b sk sb _ _ wt false ah _ w S.sea S.at_;have c6 := fun w1 (a4 : Below w.heap.size w w1) => NK vars E.hv b fs rn bs ps Ap cp bp sk sb _ wt ah _ left w1 (S.below a4).sea (S.below a4).at_ (S.below a4).oK (S.below a4).pps E.pin (fun p hp => by have := mQ (E.pok p hp); omega) E.p4 hl E.fl (Ub left ps.length bX E.p4 cA)
  have c8 := fun (hs : setB vars b wt = true) w1 (a4 : Below w.heap.size w w1) => ql vars E.hv b S.ok fs rn bs ns An cn bn sk sb _ wt false ah _ w1 (S.below a4).sea (S.below a4).at_ (S.below a4).oK (S.below a4).pns E.nin (fun n hn => (sS (E.nok n hn) S.wds (((rQ E.hv S.ok E.want E.hin E.nin).1 hs).2 n hn)).ok) E.nl
  have ca := Lib.hid c8;have bR := Lib.hid c6;have U := Lib.hid S;have cv := Lib.hid c3;have cw := Lib.hid cu;have cx := Lib.hid IH;have a7 := Lib.hid hT;have cb := Lib.hid hH;have cQ : ¬ (left : Int) = 0 := by omega
  clear c8 c6 S c3 cu IH hT hH;generalize hsb : setB vars b wt = s at *;have cB := Lib.hid hsb
  go_enter Tryz.func179, Tryz.ntmps179
  go_wp2_with fail
  refine c4.mono ?_;rintro e w1 ⟨rfl, a4⟩;clear c4 hsb;cases s
  · have aD := Lib.hid a4
    have b6 := bR.out w1 a4;clear a4;clear bR ca cb
    go_wp2_with fail
    refine b6.mono ?_;rintro e w3 ⟨m, A9, c9, y, bx, rfl, hC, b9⟩;have aq := Lib.hid (aD.out.trans (b9.mono aD.out.size));have HC := Lib.hid hC;have bc : Hid (gU w [.slice A9 (idxs fs y).length c9] (idxs fs y) bx) := Lib.hid (aW.keep hC.row fun x hx => (aq.out.block x (U.out.oK.lt x (hC.sub x hx))).symm);have hlen : (idxs fs y).length ≤ 1000000 := Nat.le_trans (lW _ _) E.fl;have a8 := hC.lt;have cc := E.p4
    have bh : Hid (fQ vars fs ps ns head K sk T go b left m (idxs fs y) told [] false true 0 w w3) := Lib.hid ⟨bP.of_below U.out.sea.lt aq.out, U.out.at_.keep (aq.out.block _ U.out.sea.lt),
      by rw [List.append_nil]; exact a7.out.keep _ _ _ cw.out (cZ.of_below aq.out U.out.sea.lt), fun t ht => by simp at ht, fun _ i hi => absurd hi (by omega), fun h => absurd h (by decide), fun h => absurd h (by decide)⟩
    clear b6 hC b9 aD;go_wp2
    go_loopw [9, 40] (fun held i wr => ∃ (k : Nat) (ts : List A) (hd : Bool), k ≤ (idxs fs y).length ∧ i = .int .i64 k ∧ held = .bool hd ∧ fQ vars fs ps ns head K sk T go b left m (idxs fs y) told ts hd true k w wr) (fun _ i _ => (idxs fs y).length - (intOf i).toNat)
    case atStart => exact ⟨0, [], false, Nat.zero_le _, rfl, rfl, bh.out⟩
    case round =>
      obtain ⟨k, ts, hd, hk, rfl, rfl, hI⟩ := hrel;clear bh;by_cases a9 : k < (idxs fs y).length
      · obtain ⟨b8, o8, rfl, cd, e0⟩ := nK (hI.kept.keep aW bc.out fun x hx => U.out.kbs x (HC.out.sub x hx)) a9
        obtain ⟨ac, _⟩ := Dt.1 (List.getElem_mem a9);have ci := (U.out.sea.run hI.kept).io;have cD : (0 : Int) ≤ (k : Int) := by omega
        have cE : (k : Int) < ((idxs fs y).length : Int) := by omega
        have HI := Lib.hid hI;have ar := Lib.hid a9;clear hI hk cd;go_wp2
        go_quiet (fail)
        have hI : fQ vars fs ps ns head K sk T go b left m (idxs fs y) told ts hd true k w (wr.drewN nq) := HI.out.drewN a7.out U.out.sea.lt;clear HI ci e0;generalize wr.drewN nq = wr at *;have S1 := U.out.kept hI.kept hI.at_ U.out.ok U.out.wds;obtain ⟨⟨Af, cf, Ar, cr, mu, mp, bf, br, Lu, Lp, g1, g2, _, _, _, _, _, _, _, _, aR, _⟩, _, _⟩ := S1.oK;obtain ⟨bq, oq, Ae, ce, bk, rfl, bi, f0, f1, ⟨vv, bj, cj, bl⟩, aE⟩ := wJ S1.pps a8;simp only [List.cons.injEq, and_true, true_and] at bj;subst bj;obtain ⟨b7, o7, Ag, cg, bg, rfl, bo, d0, d1, bt, ae⟩ := dJ g2 ac;have aa := E.fok _ (List.getElem_mem ac)
        have a0 := DC vars E.hv b U.out.ok ps[m] fs[(idxs fs y)[k]] Ae Ag ce cg bk bg sk 18 wr.drew (S1.at_.keep rfl) ((cO vars).keep bl fun _ _ => rfl) (aN.keep (dm bt) fun _ _ => rfl) (E.pin _ (List.getElem_mem a8)) (F8 (E.pok _ (List.getElem_mem a8)))
          (fun t ht => ⟨(aa.names t ht).1, rP (aa.names t ht).2⟩) (fun h => hK _ (S1.kbp _ (aE _ h)) rfl) (fun h => hK _ (S1.kbs _ (aR _ (ae _ h))) rfl) (by have := mQ (E.pok _ (List.getElem_mem a8)); omega)
        have ck := Lib.hid (DL (a := ps[m]) U.out.wds fun t ht => (aa.names t ht).2);have b1 := Lib.hid (fun (w5 : World) (hok : jq vars (aC ps[m] fs[(idxs fs y)[k]] b).1) (cl : gJ vars (aC ps[m] fs[(idxs fs y)[k]] b).1 sk 18 w5) => KF vars E.hv (aC ps[m] fs[(idxs fs y)[k]] b).1 hok b.length (tY _ _ _) sk 18 w5 cl);have bu := Lib.hid (uX ps[m] fs[(idxs fs y)[k]] b);have bv : Hid (∀ w6, (aC ps[m] fs[(idxs fs y)[k]] b).2 = false → bP K sk wr w6 → gJ vars b sk 18 w6 → T true w6 (told ++ ts) → fQ vars fs ps ns head K sk T go b left m (idxs fs y) told ts hd true (k + 1) w w6) := Lib.hid fun w6 h1 h2 h3 h4 => hI.skip a9 ac a8 h1 h2 h3 h4
        have bw : Hid (∀ (w4 w5 w6 : World) (J I : Bool), (aC ps[m] fs[(idxs fs y)[k]] b).2 = true → iL vars fs ps ns head K sk T go (aC ps[m] fs[(idxs fs y)[k]] b).1 (left - 2 ^ m) (told ++ ts) J I w4 w5 → bP K sk wr w4 → bP K sk w5 w6 → gJ vars b sk 18 w6 → (∀ b2, T I w5 b2 → T I w6 b2) → ∃ af, fQ vars fs ps ns head K sk T go b left m (idxs fs y) told af (hd || J) I (k + 1) w w6) :=
          Lib.hid fun w4 w5 w6 J I h1 h2 h3 h4 h5 h6 => hI.took hl cc a9 ac aa.gr a8 HC.out.bit h1 h2 h3 h4 h5 h6
        have aL : Hid (∀ w4 : World, (aC ps[m] fs[(idxs fs y)[k]] b).2 = true → bP K sk wr w4 → gJ vars (aC ps[m] fs[(idxs fs y)[k]] b).1 sk 18 w4 → jq vars (aC ps[m] fs[(idxs fs y)[k]] b).1 → T true w4 (told ++ ts) →
            Calls Tryz.prog 179 #[.pointer (some ⟨sk, 0, none⟩), .int .i64 ((left - 2 ^ m : Nat) : Int)] w4 (rU vars fs ps ns head K sk T go (aC ps[m] fs[(idxs fs y)[k]] b).1 (left - 2 ^ m) (told ++ ts) w4)) :=
          Lib.hid fun w4 h1 h2 h3 h4 h5 => cx.out (left - 2 ^ m) (OC left m hl (by omega) HC.out.bit) _ _ _ (S1.kept h2 h3 h4 ck.out) (fun j hj bz => by
            by_cases e : j = m
            · subst e; exact (lS aa.gr h1).1
            · rw [xw left m j hl (by omega) (by omega) HC.out.bit] at bz
              have : left.testBit j = false := by simpa [e] using bz
              exact (mZ _ _ _).Xu (cv.out j hj this)) h5
        have s0 := S1.sea.st;have s1 := S1.sea.p1;have bA : wr.cell? ⟨sk, 42, none⟩ = some (.int .i64 b.length) := S1.at_.ct;have ag : wr.cell? ⟨sb, 0, none⟩ = some (.slice (some ⟨b7, o7, none⟩) fs.length cf) := ai g1;have cG : (0 : Int) ≤ (m : Int) := by omega
        have cI : (m : Int) < (ps.length : Int) := by omega
        have cJ : (0 : Int) ≤ (((idxs fs y)[k] : Nat) : Int) := by omega
        have cK : (((idxs fs y)[k] : Nat) : Int) < (fs.length : Int) := by omega
        have cL := F7 left m hl (by omega) HC.out.bit;have bB : ∀ x ∈ bp, x < wr.heap.size ∧ x ≠ sk := fun x hx => ⟨(dI vars).lt S1.pps x hx, hK x (S1.kbp x hx)⟩
        have b3 : ∀ x ∈ bs, x < wr.heap.size ∧ x ≠ sk := fun x hx => ⟨S1.oK.lt x hx, hK x (S1.kbs x hx)⟩
        have n1 := bB bq bi;have n2 := b3 b7 (aR b7 bo);have n3 := b3 sb S1.oK.own;have HN := Lib.hid (And.intro n1 (And.intro n2 (And.intro n3 S1.sea.lt)));clear bB b3 n1 n2 n3;have bE := Lib.hid hI.st;have cP := Lib.hid U.out.sea.lt;have av := Lib.hid S1.sea.lt;clear hI S1 g1 g2 aR aE ae bt cj bl bi bo;generalize (idxs fs y)[k] = j at *;generalize fs[j] = f at *;generalize ps[m] = p at *;obtain ⟨pn, a1⟩ := p;obtain ⟨fn, a2⟩ := f;dsimp only at *;clear a9 ac a8 aa
        have aw : Hid (∀ w4 : World, cZ sk 18 wr.drew w4 → w4.cell? ⟨sk, 0, none⟩ = some (.pointer (some ⟨sb, 0, none⟩)) ∧ w4.cell? ⟨sk, 1, none⟩ = some (.slice (some ⟨bq, oq, none⟩) ps.length cp) ∧ w4.cell? ⟨bq, oq + m * 2, none⟩ = some (.string pn) ∧ w4.cell? ⟨bq, oq + m * 2 + 1, none⟩ = some (.slice Ae a1.length ce) ∧ w4.cell? ⟨sb, 0, none⟩ = some (.slice (some ⟨b7, o7, none⟩) fs.length cf) ∧ w4.cell? ⟨b7, o7 + j * 2, none⟩ = some (.string fn) ∧ w4.cell? ⟨b7, o7 + j * 2 + 1, none⟩ = some (.slice Ag a2.length cg)) := Lib.hid fun w4 cm => by
          have h4 : cZ sk 18 wr w4 := (cZ.of_below ((Below.refl wr.heap.size wr).drew) HN.out.2.2.2).trans cm
          exact ⟨(h4.rest _ (by omega)).trans s0, (h4.rest _ (by omega)).trans s1, (World.cell?_of_block (h4.block (b := bq) HN.out.1.1 HN.out.1.2)).trans f0, (World.cell?_of_block (h4.block (b := bq) HN.out.1.1 HN.out.1.2)).trans f1,
            (World.cell?_of_block (h4.block (b := sb) HN.out.2.2.1.1 HN.out.2.2.1.2)).trans ag, (World.cell?_of_block (h4.block (b := b7) HN.out.2.1.1 HN.out.2.1.2)).trans d0, (World.cell?_of_block (h4.block (b := b7) HN.out.2.1.1 HN.out.2.1.2)).trans d1⟩
        generalize hM : aC ⟨pn, a1⟩ ⟨fn, a2⟩ b = M at *;obtain ⟨b', r⟩ := M;dsimp only at *;clear hM;cases r
        · go_wp2
          go_region_held3 (fun w' => w'.cell? ⟨sk, 0, none⟩ = some (.pointer (some ⟨sb, 0, none⟩)) ∧ w'.cell? ⟨sk, 1, none⟩ = some (.slice (some ⟨bq, oq, none⟩) ps.length cp) ∧ w'.cell? ⟨bq, oq + m * 2, none⟩ = some (.string pn) ∧ w'.cell? ⟨bq, oq + m * 2 + 1, none⟩ = some (.slice Ae a1.length ce) ∧ w'.cell? ⟨sb, 0, none⟩ = some (.slice (some ⟨b7, o7, none⟩) fs.length cf) ∧ w'.cell? ⟨b7, o7 + j * 2, none⟩ = some (.string fn) ∧ w'.cell? ⟨b7, o7 + j * 2 + 1, none⟩ = some (.slice Ag a2.length cg))
            (first | exact ⟨s0, s1, f0, f1, ag, d0, d1⟩ | exact am)
            (first | (go_at_call 154; refine a0.mono ?_; rintro e w4 ⟨rfl, a3⟩; have am := aw.out w4 a3.kept))
          all_goals
            have a5 := Lib.hid a3;have ab := b1.out w4 a3.ok a3.at_;clear a3 am aw;have az := Lib.hid ((bP.of_below (K := K) av.out ((Below.refl wr.heap.size wr).drew)).trans (bP.zA hK a5.out.kept));have b4 := Lib.hid (a7.out.keep _ _ _ (a7.out.keep wr wr.drew _ bE.out (cZ.of_below ((Below.refl wr.heap.size wr).drew) av.out)) a5.out.kept);clear s0 s1 bA ag f0 f1 d0 d1 a0
            go_wp2_with fail
            refine ab.mono ?_;rintro e w6 ⟨rfl, a6⟩;rw [bu.out] at a6;have ao := Lib.hid (bv.out w6 (by trivial) (az.out.trans (bP.zA hK a6.kept)) a6.at_ (a7.out.keep _ _ _ b4.out a6.kept));clear a6 ab;cases hd
            all_goals
              go_wp2;go_roundw
              case rel => exact ⟨k + 1, ts, _, ar.out, by go_num, rfl, ao.out⟩
              case measure => have := ar.out; simp [intOf]; omega
        · go_wp2
          go_region_held3 (fun w' => w'.cell? ⟨sk, 0, none⟩ = some (.pointer (some ⟨sb, 0, none⟩)) ∧ w'.cell? ⟨sk, 1, none⟩ = some (.slice (some ⟨bq, oq, none⟩) ps.length cp) ∧ w'.cell? ⟨bq, oq + m * 2, none⟩ = some (.string pn) ∧ w'.cell? ⟨bq, oq + m * 2 + 1, none⟩ = some (.slice Ae a1.length ce) ∧ w'.cell? ⟨sb, 0, none⟩ = some (.slice (some ⟨b7, o7, none⟩) fs.length cf) ∧ w'.cell? ⟨b7, o7 + j * 2, none⟩ = some (.string fn) ∧ w'.cell? ⟨b7, o7 + j * 2 + 1, none⟩ = some (.slice Ag a2.length cg))
            (first | exact ⟨s0, s1, f0, f1, ag, d0, d1⟩ | exact am)
            (first | (go_at_call 154; refine a0.mono ?_; rintro e w4 ⟨rfl, a3⟩; have am := aw.out w4 a3.kept))
          all_goals
            have a5 := Lib.hid a3;clear a3 am aw;have az := Lib.hid ((bP.of_below (K := K) av.out ((Below.refl wr.heap.size wr).drew)).trans (bP.zA hK a5.out.kept));have b4 := Lib.hid (a7.out.keep _ _ _ (a7.out.keep wr wr.drew _ bE.out (cZ.of_below ((Below.refl wr.heap.size wr).drew) av.out)) a5.out.kept);have aM := aL.out w4 (by trivial) az.out a5.out.at_ a5.out.ok b4.out;clear s0 s1 bA ag f0 f1 d0 d1 a0
            go_wp2_with fail
            refine aM.mono ?_;rintro e w5 ⟨J, I, rfl, b5⟩;have ab := b1.out w5 a5.out.ok (iL.bd b5);have bL := Lib.hid b5;clear aM b5;have co : Hid (∀ w6, jA vars sk 18 w5 b w6 → ∃ af, fQ vars fs ps ns head K sk T go b left m (idxs fs y) told af (hd || J) I (k + 1) w w6) := Lib.hid fun w6 h6 => bw.out w4 w5 w6 J I (by trivial) bL.out az.out (bP.zA hK h6.kept) h6.at_ fun b2 cq => a7.out.keep _ _ _ cq h6.kept
            rw [bu.out] at ab;clear bw aL b1 bv bL
            cases hd <;> cases J <;> cases I
            all_goals
              go_wp2_with fail
              refine ab.mono ?_;rintro e w6 ⟨rfl, a6⟩;obtain ⟨af, bO⟩ := co.out w6 a6;have ao := Lib.hid bO;clear a6 ab bO;go_wp2
              first
                | (go_ret2; exact ao.out.off.ret)
                | (go_roundw
                   case rel => exact ⟨k + 1, af, _, ar.out, by go_num, rfl, ao.out⟩
                   case measure => have := ar.out; simp [intOf]; omega)
      · have he : ¬ (k : Int) < ((idxs fs y).length : Int) := by omega
        have HF := Lib.hid (hI.fin E HC.out rfl (by omega));clear hI;go_wp2;go_ret2;exact HF.out.ret
  · have hh := ca.out rfl w1 a4
    rw [cb.out rfl] at hh;have cy := Lib.hid ((rQ E.hv U.out.ok E.want E.hin E.nin).1 cB.out).1
    go_wp2_with fail
    refine hh.mono ?_;rintro e w2 ⟨rfl, cz⟩;have aD := Lib.hid (a4.trans (cz.mono a4.size));have b6 := bR.out w2 aD.out;clear a4 cz hh;clear bR ca cb
    go_wp2_with fail
    refine b6.mono ?_;rintro e w3 ⟨m, A9, c9, y, bx, rfl, hC, b9⟩;have aq := Lib.hid (aD.out.trans (b9.mono aD.out.size));have HC := Lib.hid hC;have bc : Hid (gU w [.slice A9 (idxs fs y).length c9] (idxs fs y) bx) := Lib.hid (aW.keep hC.row fun x hx => (aq.out.block x (U.out.oK.lt x (hC.sub x hx))).symm);have hlen : (idxs fs y).length ≤ 1000000 := Nat.le_trans (lW _ _) E.fl;have a8 := hC.lt;have cc := E.p4
    have bh : Hid (fQ vars fs ps ns head K sk T go b left m (idxs fs y) told [] false true 0 w w3) := Lib.hid ⟨bP.of_below U.out.sea.lt aq.out, U.out.at_.keep (aq.out.block _ U.out.sea.lt),
      by rw [List.append_nil]; exact a7.out.keep _ _ _ cw.out (cZ.of_below aq.out U.out.sea.lt), fun t ht => by simp at ht, fun _ i hi => absurd hi (by omega), fun h => absurd h (by decide), fun h => absurd h (by decide)⟩
    clear b6 hC b9 aD;go_wp2
    go_loopw [9, 40] (fun held i wr => ∃ (k : Nat) (ts : List A), k ≤ (idxs fs y).length ∧ i = .int .i64 k ∧ held = .bool false ∧ fQ vars fs ps ns head K sk T go b left m (idxs fs y) told ts false true k w wr) (fun _ i _ => (idxs fs y).length - (intOf i).toNat)
    case atStart => exact ⟨0, [], Nat.zero_le _, rfl, rfl, bh.out⟩
    case round =>
      obtain ⟨k, ts, hk, rfl, rfl, hI⟩ := hrel;clear bh;by_cases a9 : k < (idxs fs y).length
      · obtain ⟨b8, o8, rfl, cd, e0⟩ := nK (hI.kept.keep aW bc.out fun x hx => U.out.kbs x (HC.out.sub x hx)) a9
        obtain ⟨ac, _⟩ := Dt.1 (List.getElem_mem a9);have ci := (U.out.sea.run hI.kept).io;have cD : (0 : Int) ≤ (k : Int) := by omega
        have cE : (k : Int) < ((idxs fs y).length : Int) := by omega
        have HI := Lib.hid hI;have ar := Lib.hid a9;clear hI hk cd;go_wp2
        go_quiet (fail)
        have hI : fQ vars fs ps ns head K sk T go b left m (idxs fs y) told ts false true k w (wr.drewN nq) := HI.out.drewN a7.out U.out.sea.lt;clear HI ci e0;generalize wr.drewN nq = wr at *;have S1 := U.out.kept hI.kept hI.at_ U.out.ok U.out.wds;obtain ⟨⟨Af, cf, Ar, cr, mu, mp, bf, br, Lu, Lp, g1, g2, _, _, _, _, _, _, _, _, aR, _⟩, _, _⟩ := S1.oK;obtain ⟨bq, oq, Ae, ce, bk, rfl, bi, f0, f1, ⟨vv, bj, cj, bl⟩, aE⟩ := wJ S1.pps a8;simp only [List.cons.injEq, and_true, true_and] at bj;subst bj;obtain ⟨b7, o7, Ag, cg, bg, rfl, bo, d0, d1, bt, ae⟩ := dJ g2 ac;have aa := E.fok _ (List.getElem_mem ac)
        have a0 := DC vars E.hv b U.out.ok ps[m] fs[(idxs fs y)[k]] Ae Ag ce cg bk bg sk 18 wr.drew (S1.at_.keep rfl) ((cO vars).keep bl fun _ _ => rfl) (aN.keep (dm bt) fun _ _ => rfl) (E.pin _ (List.getElem_mem a8)) (F8 (E.pok _ (List.getElem_mem a8)))
          (fun t ht => ⟨(aa.names t ht).1, rP (aa.names t ht).2⟩) (fun h => hK _ (S1.kbp _ (aE _ h)) rfl) (fun h => hK _ (S1.kbs _ (aR _ (ae _ h))) rfl) (by have := mQ (E.pok _ (List.getElem_mem a8)); omega)
        have ck := Lib.hid (DL (a := ps[m]) U.out.wds fun t ht => (aa.names t ht).2);have b1 := Lib.hid (fun (w5 : World) (hok : jq vars (aC ps[m] fs[(idxs fs y)[k]] b).1) (cl : gJ vars (aC ps[m] fs[(idxs fs y)[k]] b).1 sk 18 w5) => KF vars E.hv (aC ps[m] fs[(idxs fs y)[k]] b).1 hok b.length (tY _ _ _) sk 18 w5 cl);have bu := Lib.hid (uX ps[m] fs[(idxs fs y)[k]] b);have bv : Hid (∀ w6, (aC ps[m] fs[(idxs fs y)[k]] b).2 = false → bP K sk wr w6 → gJ vars b sk 18 w6 → T true w6 (told ++ ts) → fQ vars fs ps ns head K sk T go b left m (idxs fs y) told ts false true (k + 1) w w6) := Lib.hid fun w6 h1 h2 h3 h4 => hI.skip a9 ac a8 h1 h2 h3 h4
        have bw : Hid (∀ (w4 w5 w6 : World) (J I : Bool), (aC ps[m] fs[(idxs fs y)[k]] b).2 = true → iL vars fs ps ns head K sk T go (aC ps[m] fs[(idxs fs y)[k]] b).1 (left - 2 ^ m) (told ++ ts) J I w4 w5 → bP K sk wr w4 → bP K sk w5 w6 → gJ vars b sk 18 w6 → (∀ b2, T I w5 b2 → T I w6 b2) → ∃ af, fQ vars fs ps ns head K sk T go b left m (idxs fs y) told af (false || J) I (k + 1) w w6) :=
          Lib.hid fun w4 w5 w6 J I h1 h2 h3 h4 h5 h6 => hI.took hl cc a9 ac aa.gr a8 HC.out.bit h1 h2 h3 h4 h5 h6
        have aL : Hid (∀ w4 : World, (aC ps[m] fs[(idxs fs y)[k]] b).2 = true → bP K sk wr w4 → gJ vars (aC ps[m] fs[(idxs fs y)[k]] b).1 sk 18 w4 → jq vars (aC ps[m] fs[(idxs fs y)[k]] b).1 → T true w4 (told ++ ts) →
            Calls Tryz.prog 179 #[.pointer (some ⟨sk, 0, none⟩), .int .i64 ((left - 2 ^ m : Nat) : Int)] w4 (rU vars fs ps ns head K sk T go (aC ps[m] fs[(idxs fs y)[k]] b).1 (left - 2 ^ m) (told ++ ts) w4)) :=
          Lib.hid fun w4 h1 h2 h3 h4 h5 => cx.out (left - 2 ^ m) (OC left m hl (by omega) HC.out.bit) _ _ _ (S1.kept h2 h3 h4 ck.out) (fun j hj bz => by
            by_cases e : j = m
            · subst e; exact (lS aa.gr h1).1
            · rw [xw left m j hl (by omega) (by omega) HC.out.bit] at bz
              have : left.testBit j = false := by simpa [e] using bz
              exact (mZ _ _ _).Xu (cv.out j hj this)) h5
        have s0 := S1.sea.st;have s1 := S1.sea.p1;have bA : wr.cell? ⟨sk, 42, none⟩ = some (.int .i64 b.length) := S1.at_.ct;have ag : wr.cell? ⟨sb, 0, none⟩ = some (.slice (some ⟨b7, o7, none⟩) fs.length cf) := ai g1;have cG : (0 : Int) ≤ (m : Int) := by omega
        have cI : (m : Int) < (ps.length : Int) := by omega
        have cJ : (0 : Int) ≤ (((idxs fs y)[k] : Nat) : Int) := by omega
        have cK : (((idxs fs y)[k] : Nat) : Int) < (fs.length : Int) := by omega
        have cL := F7 left m hl (by omega) HC.out.bit;have bB : ∀ x ∈ bp, x < wr.heap.size ∧ x ≠ sk := fun x hx => ⟨(dI vars).lt S1.pps x hx, hK x (S1.kbp x hx)⟩
        have b3 : ∀ x ∈ bs, x < wr.heap.size ∧ x ≠ sk := fun x hx => ⟨S1.oK.lt x hx, hK x (S1.kbs x hx)⟩
        have n1 := bB bq bi;have n2 := b3 b7 (aR b7 bo);have n3 := b3 sb S1.oK.own;have HN := Lib.hid (And.intro n1 (And.intro n2 (And.intro n3 S1.sea.lt)));clear bB b3 n1 n2 n3;have bE := Lib.hid hI.st;have cP := Lib.hid U.out.sea.lt;have av := Lib.hid S1.sea.lt;clear hI S1 g1 g2 aR aE ae bt cj bl bi bo;generalize (idxs fs y)[k] = j at *;generalize fs[j] = f at *;generalize ps[m] = p at *;obtain ⟨pn, a1⟩ := p;obtain ⟨fn, a2⟩ := f;dsimp only at *;clear a9 ac a8 aa
        have aw : Hid (∀ w4 : World, cZ sk 18 wr.drew w4 → w4.cell? ⟨sk, 0, none⟩ = some (.pointer (some ⟨sb, 0, none⟩)) ∧ w4.cell? ⟨sk, 1, none⟩ = some (.slice (some ⟨bq, oq, none⟩) ps.length cp) ∧ w4.cell? ⟨bq, oq + m * 2, none⟩ = some (.string pn) ∧ w4.cell? ⟨bq, oq + m * 2 + 1, none⟩ = some (.slice Ae a1.length ce) ∧ w4.cell? ⟨sb, 0, none⟩ = some (.slice (some ⟨b7, o7, none⟩) fs.length cf) ∧ w4.cell? ⟨b7, o7 + j * 2, none⟩ = some (.string fn) ∧ w4.cell? ⟨b7, o7 + j * 2 + 1, none⟩ = some (.slice Ag a2.length cg)) := Lib.hid fun w4 cm => by
          have h4 : cZ sk 18 wr w4 := (cZ.of_below ((Below.refl wr.heap.size wr).drew) HN.out.2.2.2).trans cm
          exact ⟨(h4.rest _ (by omega)).trans s0, (h4.rest _ (by omega)).trans s1, (World.cell?_of_block (h4.block (b := bq) HN.out.1.1 HN.out.1.2)).trans f0, (World.cell?_of_block (h4.block (b := bq) HN.out.1.1 HN.out.1.2)).trans f1,
            (World.cell?_of_block (h4.block (b := sb) HN.out.2.2.1.1 HN.out.2.2.1.2)).trans ag, (World.cell?_of_block (h4.block (b := b7) HN.out.2.1.1 HN.out.2.1.2)).trans d0, (World.cell?_of_block (h4.block (b := b7) HN.out.2.1.1 HN.out.2.1.2)).trans d1⟩
        generalize hM : aC ⟨pn, a1⟩ ⟨fn, a2⟩ b = M at *;obtain ⟨b', r⟩ := M;dsimp only at *;clear hM;cases r
        · go_wp2
          go_region_held3 (fun w' => w'.cell? ⟨sk, 0, none⟩ = some (.pointer (some ⟨sb, 0, none⟩)) ∧ w'.cell? ⟨sk, 1, none⟩ = some (.slice (some ⟨bq, oq, none⟩) ps.length cp) ∧ w'.cell? ⟨bq, oq + m * 2, none⟩ = some (.string pn) ∧ w'.cell? ⟨bq, oq + m * 2 + 1, none⟩ = some (.slice Ae a1.length ce) ∧ w'.cell? ⟨sb, 0, none⟩ = some (.slice (some ⟨b7, o7, none⟩) fs.length cf) ∧ w'.cell? ⟨b7, o7 + j * 2, none⟩ = some (.string fn) ∧ w'.cell? ⟨b7, o7 + j * 2 + 1, none⟩ = some (.slice Ag a2.length cg))
            (first | exact ⟨s0, s1, f0, f1, ag, d0, d1⟩ | exact am)
            (first | (go_at_call 154; refine a0.mono ?_; rintro e w4 ⟨rfl, a3⟩; have am := aw.out w4 a3.kept))
          all_goals
            have a5 := Lib.hid a3;have ab := b1.out w4 a3.ok a3.at_;clear a3 am aw;have az := Lib.hid ((bP.of_below (K := K) av.out ((Below.refl wr.heap.size wr).drew)).trans (bP.zA hK a5.out.kept));have b4 := Lib.hid (a7.out.keep _ _ _ (a7.out.keep wr wr.drew _ bE.out (cZ.of_below ((Below.refl wr.heap.size wr).drew) av.out)) a5.out.kept);clear s0 s1 bA ag f0 f1 d0 d1 a0
            go_wp2_with fail
            refine ab.mono ?_;rintro e w6 ⟨rfl, a6⟩;rw [bu.out] at a6;have ao := Lib.hid (bv.out w6 (by trivial) (az.out.trans (bP.zA hK a6.kept)) a6.at_ (a7.out.keep _ _ _ b4.out a6.kept));clear a6 ab;go_wp2;go_roundw
            case rel => exact ⟨k + 1, ts, ar.out, by go_num, rfl, ao.out⟩
            case measure => have := ar.out; simp [intOf]; omega
        · go_wp2
          go_region_held3 (fun w' => w'.cell? ⟨sk, 0, none⟩ = some (.pointer (some ⟨sb, 0, none⟩)) ∧ w'.cell? ⟨sk, 1, none⟩ = some (.slice (some ⟨bq, oq, none⟩) ps.length cp) ∧ w'.cell? ⟨bq, oq + m * 2, none⟩ = some (.string pn) ∧ w'.cell? ⟨bq, oq + m * 2 + 1, none⟩ = some (.slice Ae a1.length ce) ∧ w'.cell? ⟨sb, 0, none⟩ = some (.slice (some ⟨b7, o7, none⟩) fs.length cf) ∧ w'.cell? ⟨b7, o7 + j * 2, none⟩ = some (.string fn) ∧ w'.cell? ⟨b7, o7 + j * 2 + 1, none⟩ = some (.slice Ag a2.length cg))
            (first | exact ⟨s0, s1, f0, f1, ag, d0, d1⟩ | exact am)
            (first | (go_at_call 154; refine a0.mono ?_; rintro e w4 ⟨rfl, a3⟩; have am := aw.out w4 a3.kept))
          all_goals
            have a5 := Lib.hid a3;clear a3 am aw;have az := Lib.hid ((bP.of_below (K := K) av.out ((Below.refl wr.heap.size wr).drew)).trans (bP.zA hK a5.out.kept));have b4 := Lib.hid (a7.out.keep _ _ _ (a7.out.keep wr wr.drew _ bE.out (cZ.of_below ((Below.refl wr.heap.size wr).drew) av.out)) a5.out.kept);have aM := aL.out w4 (by trivial) az.out a5.out.at_ a5.out.ok b4.out;clear s0 s1 bA ag f0 f1 d0 d1 a0
            go_wp2_with fail
            refine aM.mono ?_;rintro e w5 ⟨J, I, rfl, b5⟩;have ab := b1.out w5 a5.out.ok (iL.bd b5);have bL := Lib.hid b5;clear aM b5;have co : Hid (∀ w6, jA vars sk 18 w5 b w6 → ∃ af, fQ vars fs ps ns head K sk T go b left m (idxs fs y) told af (false || J) I (k + 1) w w6) := Lib.hid fun w6 h6 => bw.out w4 w5 w6 J I (by trivial) bL.out az.out (bP.zA hK h6.kept) h6.at_ fun b2 cq => a7.out.keep _ _ _ cq h6.kept
            rw [bu.out] at ab;clear bw aL b1 bv bL
            cases J <;> cases I
            all_goals
              go_wp2_with fail
              refine ab.mono ?_;rintro e w6 ⟨rfl, a6⟩;obtain ⟨af, bO⟩ := co.out w6 a6;have ao := Lib.hid bO;clear a6 ab bO;go_wp2
              first
                | (go_ret2; exact ao.out.off.ret)
                | (go_roundw
                   case rel => exact ⟨k + 1, af, ar.out, by go_num, rfl, ao.out⟩
                   case measure => have := ar.out; simp [intOf]; omega)
                | (go_ret2; exact (ao.out.brk cy.out).ret)
      · have he : ¬ (k : Int) < ((idxs fs y).length : Int) := by omega
        have HF := Lib.hid (hI.fin E HC.out rfl (by omega));clear hI;go_wp2;go_ret2;exact HF.out.ret
end
end
section
open Go.RowKit D
attribute [local go_sem] Oper.semAt_some
theorem Qq:(Tryz.prog.info? 33).map (fun i=>(i.zero,i.size,i.bytes))=some (some (.agg #[.string ⟨#[]⟩,.slice none 0 0]),2,40):=by kernel_rfl
def D.xE {E:List Fe} {w0:World} (xs:List (vg E w0)):List Value:=xs.flatMap fun x=>[.string x.1.t.name,x.1.c1]
theorem D.NU {E:List Fe} {w0:World} (xs:List (vg E w0)) (x:vg E w0):xE (xs ++ [x])=xE xs ++ [.string x.1.t.name,x.1.c1]:=by simp [xE]
theorem D.cell_two_new (w:World) (x y:Value) (t:TypeId):∀ j u,[x,y][j]? = some u→(w.alloc (.cells #[x,y] t)).cell? ((⟨w.heap.size,0,none⟩:Addr).add j)=some u:=by
 intro j u I;have J:=fun o=>ai (o:=o) (ω w (.cells #[x,y] t))
 match j,I with
 | 0,I=>simp at I; subst I; exact J 0
 | 1,I=>simp at I; subst I; exact J 1
 | j+2,I=>simp at I
def D.XD (Bx:Nat) (cs:Array Value) (W:World):Prop:=W.heap[Bx]? = some (.cells cs 33 (0,0))
theorem values_stops (F:Fence) (n:Nat) (hf:F.fn 123) (I:F.round=none) (hn:1≤n) (y b:Nat) (E:List Fe) (w0:World) (Lf:List (Value × Value)) (w:World)
  (hm:w.cell? ⟨y,0,none⟩=some (.map (some b))) (U:gm isStr b Lf w) (hT:iT b w) (hE:∀ p ∈ Lf,∃ x:vg E w0,p=(.string (bU x.1.t),x.1.val)) (hN:Lf.length≤maxLen):
  SeqStopsK F n Tryz.prog 123 #[.pointer (some ⟨y,0,none⟩)] (fun x:vg E w0=>#[x.1.val]) KeepsWalks (sU Lf) (fun _=>True) Lf.length w:=fun l J Jx W hW hJ _ hY h0=>
 values1_in F n hf I hn l y b E w0 Lf J Jx hY W hJ ((hW.cell (p:=⟨y,0,none⟩) (lt_of_cell hm)).trans hm) (U.below hW U.lt) (hT.same (hW.block b U.lt)) hE hN h0
theorem appendSeq_in (F:Fence) (n:Nat) (h7:F.fn 181) (hf:F.fn 123) (a3:F.round=none) (hn:3≤n) (Bm b:Nat) (E:List Fe) (w0:World) (Lf:List (Value × Value)) (w:World)
  (hm:w.cell? ⟨Bm,0,none⟩=some (.map (some b))) (hL:gm isStr b Lf w) (hT:iT b w) (hE:∀ p ∈ Lf,∃ x:vg E w0,p=(.string (bU x.1.t),x.1.val)) (hN:Lf.length≤maxLen) (aw:Lf.length * 40≤140737488355328):
  CallsIn F n Tryz.prog 181 #[.slice none 0 0,.func (.func 123) #[] #[.pointer (some ⟨Bm,0,none⟩)]] w fun e W'=>
   ∃ (xs:List (vg E w0)) (v:Value),e=.returned v∧sU Lf xs∧W'.ownsRow w.heap.size 33 2 v xs.length (xE xs)∧Below w.heap.size w W':=by
 have h1:1≤n:=by omega
 obtain ⟨i0,hi,ac,ae,af⟩:=info_parts Qq;refine callsIn_of_wp_marks Tryz.func181 rfl h7 ?_ a3;simp only [Tryz.ntmps181,List.size_toArray,List.length_cons,List.length_nil,Nat.reduceAdd,Nat.reduceSub,Array.replicate_succ,Array.replicate_zero,List.push_toArray,List.append_toArray,List.nil_append,List.cons_append]
 gi_wp2
 have bO:=Boxed.new w 24 (.slice none 0 0);have a1:Below w.heap.size w (w.alloc (.cells #[.slice none 0 0] 24)):=(Below.refl _ w).alloc ν _
 refine wpIn_rangeFunc_ownH a3 h1 (gf:=123) (lb:=#[.pointer (some ⟨Bm,0,none⟩)]) rfl hf (enters_of Tryz.func123 (by kernel_rfl) rfl)
  (values_stops F (n - 1) hf a3 (by omega) Bm b E w0 Lf (w.alloc (.cells #[.slice none 0 0] 24)) ((a1.cell (p:=⟨Bm,0,none⟩) (lt_of_cell hm)).trans hm) (hL.below a1 hL.lt) (hT.same (a1.block b hL.lt)) hE hN) walksK_t walksK_b ϑ (fun _=>rfl)
  (fun I W=>(∃ v,Boxed W w.heap.size 24 v∧W.ownsRow w.heap.size 33 2 v I.length (xE I)∧True)∧Below w.heap.size w W)
  (fun _ _ _=>False)
  (OwnFrom.and (Own.from (holdsRow_own w.heap.size w.heap.size 24 33 2 (fun I:List (vg E w0)=>I.length) (fun I=>xE I) (fun I v=>True)) _) (ownFrom_below ν (by simp)))
  (fun _ _ _ _ _ hs _ _=>hs)
  ⟨⟨_,bO,World.ownsRow_nil _ _ _ _,trivial⟩,a1⟩
  (fun x a' W=>∃ Bx,w.heap.size < Bx∧XD Bx #[.string x.1.t.name,x.1.c1] W∧a'={ tmps:=#[.slice none 0 0,.func (.func 123) #[] #[.pointer (some ⟨Bm,0,none⟩)],.pointer (some ⟨w.heap.size,0,none⟩),undef,.slice none 0 0,.pointer (some ⟨Bx,0,none⟩),.func (.func 123) #[] #[.pointer (some ⟨Bm,0,none⟩)],x.1.val,undef,undef,undef,undef,undef],defers:=[] })
  (fun x a' s W W' row hs hg hr=>by
   obtain ⟨Bx,g1,g2,g3⟩:=hs;refine ⟨Bx,g1,(hg.block Bx (ψ g2) fun e=>?_).trans g2,g3⟩;obtain ⟨_,o,ho,hc⟩:=hr Bx e.symm;rw [show W.heap[Bx]? = _ from g2] at ho;cases ho
   cases hc) ?assign ?body ?done ?stop
 case assign=>
  rintro l I ⟨⟨t,c1,ba⟩,a4,a5,J⟩ W K hI hK;obtain ⟨Ae,ce,_,a2⟩:=aY J;have U:c1=.slice Ae t.args.length ce:=a2;subst U;have a9:=hI.2.size;have aa:=hI.1;obtain ⟨v,hv,y,_⟩:=hI.1;have HK:=η hK;have HI:=η hI;have ag:=η hv.lt;clear hK hI a9 aa hv y;dsimp only [Fe.val]
  gi_wp2
  refine HK.out _ _ ((KeepsOthers.alloc _ _).from _) (KeepsWalks.alloc _ _) ?_ ⟨W.heap.size,ag.out,World.alloc_heap_new W _,rfl⟩;obtain ⟨⟨v,hv,y,_⟩,hB⟩:=HI.out;exact ⟨⟨v,hv.alloc _,y.alloc _,trivial⟩,hB.alloc hB.size _⟩
 case body=>
  rintro l I ⟨⟨t,c1,ba⟩,a4,a5,J⟩ a' W hl _ ⟨⟨v,hv,y,_⟩,hB⟩ ⟨Bx,az,a6,rfl⟩ a9;obtain ⟨Ae,ce,_,a2⟩:=aY J;have U:c1=.slice Ae t.args.length ce:=a2;subst U;have hc:=hv.cell;have am:=ai a6 (o:=0);have ao:=ai a6 (o:=1);dsimp only [Fe.val] at am ao ⊢;have HP:=η (ι a4 (ι a5 J));have HB:=η hB;have HE:=η (NU (E:=E) (w0:=w0) I ⟨⟨t,.slice Ae t.args.length ce,ba⟩,a4,a5,J⟩);clear a6
  gi_wp2_with (gi_at_builtin; refine wpListIn_append_own _ rfl _ _ 24 rfl w.heap.size 33 i0 (.agg #[.string ⟨#[]⟩,.slice none 0 0]) 2 40 Tryz.underlying24 hi ac ae af rfl (by decide) _ _ _ rfl (y.alloc _) ⟨W.heap.size,0,none⟩ 1 1 [.string t.name,.slice Ae t.args.length ce] rfl rfl (cell_two_new _ _ _ _) (by simp [Value.oneCell']) (by omega) (by omega) (by have:=HB.out.size; simp; omega) ?_; intro v' w1 a0 a7 _; obtain ⟨g',av,rfl⟩:=ownsRow_succ a0; obtain ⟨ab,ap,aq,a8,ar⟩:=hv.appended (by decide) y HB.out.size ν a0 a7; have a2:=ab.cell; have aD:=ab.frozen)
  exact ⟨a8.from _,⟨a8.size,fun k o h hw=>a8.same k o h (Obj.not_cells_of_walk hw)⟩,⟨_,ap,by rw [HE.out]; simpa using aq⟩,HB.out.trans ar⟩
 case done=>
  rintro D xs W hD hS ⟨⟨v,hv,y,_⟩,hB⟩ hK;have hc:=hv.cell
  gi_wp2
  refine ⟨by simp,.inl ⟨_,_,rfl,run_takeDeferred hK,?_⟩⟩;exact ⟨_,results_tmp rfl _ _ _,xs,v,rfl,hS,ownsRow_putObj y _ hK rfl,hB.trans (belowK_b (w:=w) ν W D _ _ (by simp at hD; omega) hK rfl rfl)⟩
 case stop=>
  rintro D c I W _ _ h _;exact h.elim
end
end Go.Proofs.YtkjinanbccloeaaGreatDoor
