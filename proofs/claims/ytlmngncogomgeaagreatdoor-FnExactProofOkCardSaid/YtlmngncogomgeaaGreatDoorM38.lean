/- Of the proof of FnExactProofOk: RunI. -/
import Derived.Test.YtlmngncogomgeaaGreatDoorM37
set_option linter.unusedVariables false
set_option maxHeartbeats 8000000
set_option maxRecDepth 100000
namespace Go.Proofs.YtlmngncogomgeaaGreatDoor
open Go.RowKit D
attribute [local go_sem ↓] Go.wp_at_zero Go.wp_at_succ
section
variable (vars:List ByteArray) (fs:List A) (rn:List Nat) (bs:List Nat) (ps ns:List A) (head:A) (sk sb:Nat) (Ap:Option Addr) (cp:Nat) (An:Option Addr) (cn:Nat) (bp bn:List Nat) (wt:Nat→Bool) (ah:Int) (c5 c7:Addr) (K:Nat→Prop) (T:Bool→World→List A→Prop) (go:List A→Bool)
theorem run_stop (E:qA vars fs ps ns head wt) (hK:∀ k,K k→k ≠ sk) (hT:vS vars head sk K c5 c7 T go) (left:Nat) (b:Bd) (told:List A) (w:World)
  (S:oW vars fs rn bs ps ns sk sb (.slice Ap ps.length cp) (.slice An ns.length cn) bp bn wt ah (.func (.func 208) #[] #[.pointer (some c5),.pointer (some c7)]) K b w)
  (a0:T true w told) (hS:setB vars b wt=true) (hH:xO fs ns b=true):
  Calls Tryz.prog 237 #[.pointer (some ⟨sk,0,none⟩),.int .i64 left] w (rU vars fs ps ns head K sk T go b left told w):=by
 have I:=(rQ E.hv S.ok E.want E.hin E.nin).1 hS;have J:=rO vars b sk sb _ _ wt false ah _ w S.sea S.at_;rw [hS] at J;have U:=fun w1 (y:Below w.heap.size w w1)=>qw vars E.hv b S.ok fs rn bs ns An cn bn sk sb _ wt false ah _ w1 (S.below y).sea (S.below y).at_ (S.below y).qM (S.below y).pns E.nin (fun n hn=>(sO (E.nok n hn) S.wds (I.2 n hn)).ok) E.nl
 rw [hH] at U
 have a1:Hid (∀ w2,Below w.heap.size w w2→iO vars fs ps ns head K sk T go b left told false true w w2):=η fun w2 hb=>⟨[],bQ.of_below S.sea.lt hb,S.at_.keep (hb.block _ S.sea.lt),
  by rw [List.append_nil]; exact hT.keep _ _ _ a0 (cO.of_below hb S.sea.lt),fun t ht=>by simp at ht,fun _ σ hσ=>absurd hσ (Si E S.wds I.2 hH σ),fun h=>by simp at h,fun h=>by simp at h⟩
 have a2:=η U;clear U S I a0 hT
 go_enter Tryz.func237,Tryz.ntmps237
 go_wp2_with fail
 refine J.mono ?_;rintro e w1 ⟨rfl,y⟩;have hh:=a2.out w1 y
 go_wp2_with fail
 refine hh.mono ?_;rintro e w2 ⟨rfl,a3⟩;have HD:=η (a1.out w2 (y.trans (a3.mono y.size)));clear J hh y a3 a1 a2;go_wp2;go_ret2;exact HD.out.ret
theorem SH (E:qA vars fs ps ns head wt) (hK:∀ k,K k→k ≠ sk) (hT:vS vars head sk K c5 c7 T go) (b:Bd) (told:List A) (w:World)
  (S:oW vars fs rn bs ps ns sk sb (.slice Ap ps.length cp) (.slice An ns.length cn) bp bn wt ah (.func (.func 208) #[] #[.pointer (some c5),.pointer (some c7)]) K b w)
  (a0:∀ p ∈ ps,wZ b p.args) (a1:T true w told) (hH:xO fs ns b=false):
  Calls Tryz.prog 237 #[.pointer (some ⟨sk,0,none⟩),.int .i64 ((0:Nat):Int)] w (rU vars fs ps ns head K sk T go b 0 told w):=by
 have hcv:=E.tight b a0;have hS:=(rQ E.hv S.ok E.want E.hin E.nin).2 hcv;have I:=rO vars b sk sb _ _ wt false ah _ w S.sea S.at_;rw [hS] at I;have J:=fun w1 (y:Below w.heap.size w w1)=>qw vars E.hv b S.ok fs rn bs ns An cn bn sk sb _ wt false ah _ w1 (S.below y).sea (S.below y).at_ (S.below y).qM (S.below y).pns E.nin (fun n hn=>(sO (E.nok n hn) S.wds (hcv.2 n hn)).ok) E.nl
 rw [hH] at J;have a2:=fun w2 (hb:Below w.heap.size w w2)=>hT.call w2.drew b told S.ok S.wds hcv.1 (S.at_.keep ((hb.block _ S.sea.lt))) (hT.keep _ _ _ a1 (cO.of_below hb.drew S.sea.lt))
 have a3:Hid (∀ w2 w3:World,Below w.heap.size w w2→T (go (told ++ [aY head b])) w3 (told ++ [aY head b])→bQ K sk w2.drew w3→w3.heap[sk]? = w2.drew.heap[sk]?→iO vars fs ps ns head K sk T go b 0 told true (go (told ++ [aY head b])) w w3):=η fun w2 w3 hb h1 h2 h3=>
  ⟨[aY head b],(bQ.of_below S.sea.lt hb.drew).trans h2,(S.at_.keep (hb.block _ S.sea.lt)).keep h3,h1,fun t ht=>by
   rw [ώ.1 ht]
   exact ⟨iR b,⟨F8 b,fun j _ hj=>by simp at hj,fun n hn=>by rw [← xg]; exact Sj E S.wds hcv.2 hH n hn⟩,(xg _ _).symm⟩,
   fun _ σ hσ=>by rw [← jK hcv.1 hσ.1]; exact List.mem_singleton_self _,fun _=>by simp,fun h=>h⟩
 have a4:=η J;have a5:=η a2;have U:=η S.sea;clear J a2 S hcv a1 hT a0
 go_enter Tryz.func237,Tryz.ntmps237
 go_wp2_with fail
 refine I.mono ?_;rintro e w1 ⟨rfl,y⟩;have hh:=a4.out w1 y
 go_wp2_with fail
 refine hh.mono ?_;rintro e w2 ⟨rfl,a6⟩;have HB:=η (y.trans (a6.mono y.size));have a7:=η (a5.out w2 HB.out);have s0:=(U.out.keep (HB.out.block _ U.out.lt)).tl;clear I hh y a6 a4 a5;go_wp2
 go_region_law
  (first
   | (go_simp; go_at_call 208; refine a7.out.mono ?_; rintro e w3 ⟨rfl,a8,a9,aa⟩; have HD:=η (a3.out w2 w3 HB.out a8 a9 aa); clear a8 a9 aa))
 all_goals
  clear s0 a7 a3 U;go_wp2;go_ret2;exact HD.out.ret
theorem JQ (E : qA vars fs ps ns head wt) (hK : ∀ k, K k → k ≠ sk) (hT : vS vars head sk K c5 c7 T go) (left : Nat) (c0 : left < 2 ^ ps.length) (cB : left ≠ 0)
    (IH : ∀ ap, ap < left → ∀ (b : Bd) (told : List A) (w : World), oW vars fs rn bs ps ns sk sb (.slice Ap ps.length cp) (.slice An ns.length cn) bp bn wt ah (.func (.func 208) #[] #[.pointer (some c5), .pointer (some c7)]) K b w →
      (∀ j (h : j < ps.length), ap.testBit j = false → wZ b ps[j].args) → T true w told → Calls Tryz.prog 237 #[.pointer (some ⟨sk, 0, none⟩), .int .i64 ap] w (rU vars fs ps ns head K sk T go b ap told w))
    (b : Bd) (told : List A) (w : World)
    (S : oW vars fs rn bs ps ns sk sb (.slice Ap ps.length cp) (.slice An ns.length cn) bp bn wt ah (.func (.func 208) #[] #[.pointer (some c5), .pointer (some c7)]) K b w)
    (c3 : ∀ j (h : j < ps.length), left.testBit j = false → wZ b ps[j].args) (cv : T true w told) (hH : setB vars b wt = true → xO fs ns b = false) :
    Calls Tryz.prog 237 #[.pointer (some ⟨sk, 0, none⟩), .int .i64 left] w (rU vars fs ps ns head K sk T go b left told w) := by
  have hl : left < 16 := Nat.lt_of_lt_of_le c0 (Nat.pow_le_pow_right (by omega) E.p4 : 2 ^ ps.length ≤ 2 ^ 4);have c4 := rO vars b sk sb _ _ wt false ah _ w S.sea S.at_;have c6 := fun w1 (a4 : Below w.heap.size w w1) => ML vars E.hv b fs rn bs ps Ap cp bp sk sb _ wt ah _ left w1 (S.below a4).sea (S.below a4).at_ (S.below a4).qM (S.below a4).pps E.pin (fun p hp => by have := jo (E.pok p hp); omega) E.p4 hl E.fl (RZ left ps.length c0 E.p4 cB)
  have c8 := fun (hs : setB vars b wt = true) w1 (a4 : Below w.heap.size w w1) => qw vars E.hv b S.ok fs rn bs ns An cn bn sk sb _ wt false ah _ w1 (S.below a4).sea (S.below a4).at_ (S.below a4).qM (S.below a4).pns E.nin (fun n hn => (sO (E.nok n hn) S.wds (((rQ E.hv S.ok E.want E.hin E.nin).1 hs).2 n hn)).ok) E.nl
  have ca := Lib.hid c8;have bX := Lib.hid c6;have U := Lib.hid S;have cw := Lib.hid c3;have cx := Lib.hid cv;have cy := Lib.hid IH;have a7 := Lib.hid hT;have cb := Lib.hid hH;have cT : ¬ (left : Int) = 0 := by omega
  clear c8 c6 S c3 cv IH hT hH;generalize hsb : setB vars b wt = s at *;have cD := Lib.hid hsb
  go_enter Tryz.func237, Tryz.ntmps237
  go_wp2_with fail
  refine c4.mono ?_;rintro e w1 ⟨rfl, a4⟩;clear c4 hsb;cases s
  · have aD := Lib.hid a4
    have b9 := bX.out w1 a4;clear a4;clear bX ca cb
    go_wp2_with fail
    refine b9.mono ?_;rintro e w3 ⟨m, A9, c9, y, bx, rfl, hC, bc⟩;have aq := Lib.hid (aD.out.trans (bc.mono aD.out.size));have HC := Lib.hid hC;have bh : Hid (jf w [.slice A9 (idxs fs y).length c9] (idxs fs y) bx) := Lib.hid (dG.keep hC.row fun x hx => (aq.out.block x (U.out.qM.lt x (hC.sub x hx))).symm);have hlen : (idxs fs y).length ≤ 1000000 := Nat.le_trans (lK _ _) E.fl;have a8 := hC.lt;have cc := E.p4
    have bi : Hid (fU vars fs ps ns head K sk T go b left m (idxs fs y) told [] false true 0 w w3) := Lib.hid ⟨bQ.of_below U.out.sea.lt aq.out, U.out.at_.keep (aq.out.block _ U.out.sea.lt),
      by rw [List.append_nil]; exact a7.out.keep _ _ _ cx.out (cO.of_below aq.out U.out.sea.lt), fun t ht => by simp at ht, fun _ i hi => absurd hi (by omega), fun h => absurd h (by decide), fun h => absurd h (by decide)⟩
    clear b9 hC bc aD;go_wp2
    go_loopw [9, 40] (fun held i wr => ∃ (k : Nat) (ts : List A) (hd : Bool), k ≤ (idxs fs y).length ∧ i = .int .i64 k ∧ held = .bool hd ∧ fU vars fs ps ns head K sk T go b left m (idxs fs y) told ts hd true k w wr) (fun _ i _ => (idxs fs y).length - (intOf i).toNat)
    case atStart => exact ⟨0, [], false, Nat.zero_le _, rfl, rfl, bi.out⟩
    case round =>
      obtain ⟨k, ts, hd, hk, rfl, rfl, hI⟩ := hrel;clear bi;by_cases a9 : k < (idxs fs y).length
      · obtain ⟨b8, o8, rfl, cd, e0⟩ := oQ (hI.kept.keep dG bh.out fun x hx => U.out.kbs x (HC.out.sub x hx)) a9
        obtain ⟨ac, _⟩ := CX.1 (List.getElem_mem a9);have ci := (U.out.sea.run hI.kept).io;have cE : (0 : Int) ≤ (k : Int) := by omega
        have cG : (k : Int) < ((idxs fs y).length : Int) := by omega
        have HI := Lib.hid hI;have ar := Lib.hid a9;clear hI hk cd;go_wp2
        go_quiet (fail)
        have hI : fU vars fs ps ns head K sk T go b left m (idxs fs y) told ts hd true k w (wr.drewN nq) := HI.out.drewN a7.out U.out.sea.lt;clear HI ci e0;generalize wr.drewN nq = wr at *;have S1 := U.out.kept hI.kept hI.at_ U.out.ok U.out.wds;obtain ⟨⟨Af, cf, Ar, cr, mu, mp, bf, br, Lu, Lp, g1, g2, _, _, _, _, _, _, _, _, aR, _⟩, _, _⟩ := S1.qM;obtain ⟨bq, oq, Ae, ce, bk, rfl, bj, f0, f1, ⟨vv, bl, cj, bo⟩, aE⟩ := qj S1.pps a8;simp only [List.cons.injEq, and_true, true_and] at bl;subst bl;obtain ⟨b7, o7, Ag, cg, bg, rfl, bt, d0, d1, bu, ae⟩ := dQ g2 ac;have aa := E.fok _ (List.getElem_mem ac)
        have a0 := Dj vars E.hv b U.out.ok ps[m] fs[(idxs fs y)[k]] Ae Ag ce cg bk bg sk 18 wr.drew (S1.at_.keep rfl) ((bU vars).keep bo fun _ _ => rfl) (aG.keep (dK bu) fun _ _ => rfl) (E.pin _ (List.getElem_mem a8)) (sQ (E.pok _ (List.getElem_mem a8)))
          (fun t ht => ⟨(aa.names t ht).1, nX (aa.names t ht).2⟩) (fun h => hK _ (S1.kbp _ (aE _ h)) rfl) (fun h => hK _ (S1.kbs _ (aR _ (ae _ h))) rfl) (by have := jo (E.pok _ (List.getElem_mem a8)); omega)
        have ck := Lib.hid (Dp (a := ps[m]) U.out.wds fun t ht => (aa.names t ht).2);have b1 := Lib.hid (fun (w5 : World) (hok : iW vars (aC ps[m] fs[(idxs fs y)[k]] b).1) (cl : fQ vars (aC ps[m] fs[(idxs fs y)[k]] b).1 sk 18 w5) => JD vars E.hv (aC ps[m] fs[(idxs fs y)[k]] b).1 hok b.length (tJ _ _ _) sk 18 w5 cl);have bv := Lib.hid (vP ps[m] fs[(idxs fs y)[k]] b);have bw : Hid (∀ w6, (aC ps[m] fs[(idxs fs y)[k]] b).2 = false → bQ K sk wr w6 → fQ vars b sk 18 w6 → T true w6 (told ++ ts) → fU vars fs ps ns head K sk T go b left m (idxs fs y) told ts hd true (k + 1) w w6) := Lib.hid fun w6 h1 h2 h3 h4 => hI.skip a9 ac a8 h1 h2 h3 h4
        have bz : Hid (∀ (w4 w5 w6 : World) (J I : Bool), (aC ps[m] fs[(idxs fs y)[k]] b).2 = true → iO vars fs ps ns head K sk T go (aC ps[m] fs[(idxs fs y)[k]] b).1 (left - 2 ^ m) (told ++ ts) J I w4 w5 → bQ K sk wr w4 → bQ K sk w5 w6 → fQ vars b sk 18 w6 → (∀ b3, T I w5 b3 → T I w6 b3) → ∃ af, fU vars fs ps ns head K sk T go b left m (idxs fs y) told af (hd || J) I (k + 1) w w6) :=
          Lib.hid fun w4 w5 w6 J I h1 h2 h3 h4 h5 h6 => hI.took hl cc a9 ac aa.gr a8 HC.out.bit h1 h2 h3 h4 h5 h6
        have aL : Hid (∀ w4 : World, (aC ps[m] fs[(idxs fs y)[k]] b).2 = true → bQ K sk wr w4 → fQ vars (aC ps[m] fs[(idxs fs y)[k]] b).1 sk 18 w4 → iW vars (aC ps[m] fs[(idxs fs y)[k]] b).1 → T true w4 (told ++ ts) →
            Calls Tryz.prog 237 #[.pointer (some ⟨sk, 0, none⟩), .int .i64 ((left - 2 ^ m : Nat) : Int)] w4 (rU vars fs ps ns head K sk T go (aC ps[m] fs[(idxs fs y)[k]] b).1 (left - 2 ^ m) (told ++ ts) w4)) :=
          Lib.hid fun w4 h1 h2 h3 h4 h5 => cy.out (left - 2 ^ m) (NE left m hl (by omega) HC.out.bit) _ _ _ (S1.kept h2 h3 h4 ck.out) (fun j hj bA => by
            by_cases e : j = m
            · subst e; exact (lF aa.gr h1).1
            · rw [xQ left m j hl (by omega) (by omega) HC.out.bit] at bA
              have : left.testBit j = false := by simpa [e] using bA
              exact (l9 _ _ _).VR (cw.out j hj this)) h5
        have s0 := S1.sea.st;have s1 := S1.sea.p1;have bB : wr.cell? ⟨sk, 42, none⟩ = some (.int .i64 b.length) := S1.at_.ct;have ag : wr.cell? ⟨sb, 0, none⟩ = some (.slice (some ⟨b7, o7, none⟩) fs.length cf) := aj g1;have cI : (0 : Int) ≤ (m : Int) := by omega
        have cJ : (m : Int) < (ps.length : Int) := by omega
        have cK : (0 : Int) ≤ (((idxs fs y)[k] : Nat) : Int) := by omega
        have cL : (((idxs fs y)[k] : Nat) : Int) < (fs.length : Int) := by omega
        have cP := EI left m hl (by omega) HC.out.bit;have bE : ∀ x ∈ bp, x < wr.heap.size ∧ x ≠ sk := fun x hx => ⟨(aX vars).lt S1.pps x hx, hK x (S1.kbp x hx)⟩
        have b4 : ∀ x ∈ bs, x < wr.heap.size ∧ x ≠ sk := fun x hx => ⟨S1.qM.lt x hx, hK x (S1.kbs x hx)⟩
        have n1 := bE bq bj;have n2 := b4 b7 (aR b7 bt);have n3 := b4 sb S1.qM.own;have HN := Lib.hid (And.intro n1 (And.intro n2 (And.intro n3 S1.sea.lt)));clear bE b4 n1 n2 n3;have bL := Lib.hid hI.st;have cQ := Lib.hid U.out.sea.lt;have av := Lib.hid S1.sea.lt;clear hI S1 g1 g2 aR aE ae bu cj bo bj bt;generalize (idxs fs y)[k] = j at *;generalize fs[j] = f at *;generalize ps[m] = p at *;obtain ⟨pn, a1⟩ := p;obtain ⟨fn, a2⟩ := f;dsimp only at *;clear a9 ac a8 aa
        have aw : Hid (∀ w4 : World, cO sk 18 wr.drew w4 → w4.cell? ⟨sk, 0, none⟩ = some (.pointer (some ⟨sb, 0, none⟩)) ∧ w4.cell? ⟨sk, 1, none⟩ = some (.slice (some ⟨bq, oq, none⟩) ps.length cp) ∧ w4.cell? ⟨bq, oq + m * 2, none⟩ = some (.string pn) ∧ w4.cell? ⟨bq, oq + m * 2 + 1, none⟩ = some (.slice Ae a1.length ce) ∧ w4.cell? ⟨sb, 0, none⟩ = some (.slice (some ⟨b7, o7, none⟩) fs.length cf) ∧ w4.cell? ⟨b7, o7 + j * 2, none⟩ = some (.string fn) ∧ w4.cell? ⟨b7, o7 + j * 2 + 1, none⟩ = some (.slice Ag a2.length cg)) := Lib.hid fun w4 cm => by
          have h4 : cO sk 18 wr w4 := (cO.of_below ((Below.refl wr.heap.size wr).drew) HN.out.2.2.2).trans cm
          exact ⟨(h4.rest _ (by omega)).trans s0, (h4.rest _ (by omega)).trans s1, (World.cell?_of_block (h4.block (b := bq) HN.out.1.1 HN.out.1.2)).trans f0, (World.cell?_of_block (h4.block (b := bq) HN.out.1.1 HN.out.1.2)).trans f1,
            (World.cell?_of_block (h4.block (b := sb) HN.out.2.2.1.1 HN.out.2.2.1.2)).trans ag, (World.cell?_of_block (h4.block (b := b7) HN.out.2.1.1 HN.out.2.1.2)).trans d0, (World.cell?_of_block (h4.block (b := b7) HN.out.2.1.1 HN.out.2.1.2)).trans d1⟩
        generalize hM : aC ⟨pn, a1⟩ ⟨fn, a2⟩ b = M at *;obtain ⟨b', r⟩ := M;dsimp only at *;clear hM;cases r
        · go_wp2
          go_region_held3 (fun w' => w'.cell? ⟨sk, 0, none⟩ = some (.pointer (some ⟨sb, 0, none⟩)) ∧ w'.cell? ⟨sk, 1, none⟩ = some (.slice (some ⟨bq, oq, none⟩) ps.length cp) ∧ w'.cell? ⟨bq, oq + m * 2, none⟩ = some (.string pn) ∧ w'.cell? ⟨bq, oq + m * 2 + 1, none⟩ = some (.slice Ae a1.length ce) ∧ w'.cell? ⟨sb, 0, none⟩ = some (.slice (some ⟨b7, o7, none⟩) fs.length cf) ∧ w'.cell? ⟨b7, o7 + j * 2, none⟩ = some (.string fn) ∧ w'.cell? ⟨b7, o7 + j * 2 + 1, none⟩ = some (.slice Ag a2.length cg))
            (first | exact ⟨s0, s1, f0, f1, ag, d0, d1⟩ | exact am)
            (first | (go_at_call 85; refine a0.mono ?_; rintro e w4 ⟨rfl, a3⟩; have am := aw.out w4 a3.kept))
          all_goals
            have a5 := Lib.hid a3;have ab := b1.out w4 a3.ok a3.at_;clear a3 am aw;have az := Lib.hid ((bQ.of_below (K := K) av.out ((Below.refl wr.heap.size wr).drew)).trans (bQ.zM hK a5.out.kept));have b5 := Lib.hid (a7.out.keep _ _ _ (a7.out.keep wr wr.drew _ bL.out (cO.of_below ((Below.refl wr.heap.size wr).drew) av.out)) a5.out.kept);clear s0 s1 bB ag f0 f1 d0 d1 a0
            go_wp2_with fail
            refine ab.mono ?_;rintro e w6 ⟨rfl, a6⟩;rw [bv.out] at a6;have ao := Lib.hid (bw.out w6 (by trivial) (az.out.trans (bQ.zM hK a6.kept)) a6.at_ (a7.out.keep _ _ _ b5.out a6.kept));clear a6 ab;cases hd
            all_goals
              go_wp2;go_roundw
              case rel => exact ⟨k + 1, ts, _, ar.out, by go_num, rfl, ao.out⟩
              case measure => have := ar.out; simp [intOf]; omega
        · go_wp2
          go_region_held3 (fun w' => w'.cell? ⟨sk, 0, none⟩ = some (.pointer (some ⟨sb, 0, none⟩)) ∧ w'.cell? ⟨sk, 1, none⟩ = some (.slice (some ⟨bq, oq, none⟩) ps.length cp) ∧ w'.cell? ⟨bq, oq + m * 2, none⟩ = some (.string pn) ∧ w'.cell? ⟨bq, oq + m * 2 + 1, none⟩ = some (.slice Ae a1.length ce) ∧ w'.cell? ⟨sb, 0, none⟩ = some (.slice (some ⟨b7, o7, none⟩) fs.length cf) ∧ w'.cell? ⟨b7, o7 + j * 2, none⟩ = some (.string fn) ∧ w'.cell? ⟨b7, o7 + j * 2 + 1, none⟩ = some (.slice Ag a2.length cg))
            (first | exact ⟨s0, s1, f0, f1, ag, d0, d1⟩ | exact am)
            (first | (go_at_call 85; refine a0.mono ?_; rintro e w4 ⟨rfl, a3⟩; have am := aw.out w4 a3.kept))
          all_goals
            have a5 := Lib.hid a3;clear a3 am aw;have az := Lib.hid ((bQ.of_below (K := K) av.out ((Below.refl wr.heap.size wr).drew)).trans (bQ.zM hK a5.out.kept));have b5 := Lib.hid (a7.out.keep _ _ _ (a7.out.keep wr wr.drew _ bL.out (cO.of_below ((Below.refl wr.heap.size wr).drew) av.out)) a5.out.kept);have aM := aL.out w4 (by trivial) az.out a5.out.at_ a5.out.ok b5.out;clear s0 s1 bB ag f0 f1 d0 d1 a0
            go_wp2_with fail
            refine aM.mono ?_;rintro e w5 ⟨J, I, rfl, b6⟩;have ab := b1.out w5 a5.out.ok (iO.bd b6);have bO := Lib.hid b6;clear aM b6;have co : Hid (∀ w6, jm vars sk 18 w5 b w6 → ∃ af, fU vars fs ps ns head K sk T go b left m (idxs fs y) told af (hd || J) I (k + 1) w w6) := Lib.hid fun w6 h6 => bz.out w4 w5 w6 J I (by trivial) bO.out az.out (bQ.zM hK h6.kept) h6.at_ fun b3 cq => a7.out.keep _ _ _ cq h6.kept
            rw [bv.out] at ab;clear bz aL b1 bw bO
            cases hd <;> cases J <;> cases I
            all_goals
              go_wp2_with fail
              refine ab.mono ?_;rintro e w6 ⟨rfl, a6⟩;obtain ⟨af, bR⟩ := co.out w6 a6;have ao := Lib.hid bR;clear a6 ab bR;go_wp2
              first
                | (go_ret2; exact ao.out.off.ret)
                | (go_roundw
                   case rel => exact ⟨k + 1, af, _, ar.out, by go_num, rfl, ao.out⟩
                   case measure => have := ar.out; simp [intOf]; omega)
      · have he : ¬ (k : Int) < ((idxs fs y).length : Int) := by omega
        have HF := Lib.hid (hI.fin E HC.out rfl (by omega));clear hI;go_wp2;go_ret2;exact HF.out.ret
  · have hh := ca.out rfl w1 a4
    rw [cb.out rfl] at hh;have cz := Lib.hid ((rQ E.hv U.out.ok E.want E.hin E.nin).1 cD.out).1
    go_wp2_with fail
    refine hh.mono ?_;rintro e w2 ⟨rfl, cA⟩;have aD := Lib.hid (a4.trans (cA.mono a4.size));have b9 := bX.out w2 aD.out;clear a4 cA hh;clear bX ca cb
    go_wp2_with fail
    refine b9.mono ?_;rintro e w3 ⟨m, A9, c9, y, bx, rfl, hC, bc⟩;have aq := Lib.hid (aD.out.trans (bc.mono aD.out.size));have HC := Lib.hid hC;have bh : Hid (jf w [.slice A9 (idxs fs y).length c9] (idxs fs y) bx) := Lib.hid (dG.keep hC.row fun x hx => (aq.out.block x (U.out.qM.lt x (hC.sub x hx))).symm);have hlen : (idxs fs y).length ≤ 1000000 := Nat.le_trans (lK _ _) E.fl;have a8 := hC.lt;have cc := E.p4
    have bi : Hid (fU vars fs ps ns head K sk T go b left m (idxs fs y) told [] false true 0 w w3) := Lib.hid ⟨bQ.of_below U.out.sea.lt aq.out, U.out.at_.keep (aq.out.block _ U.out.sea.lt),
      by rw [List.append_nil]; exact a7.out.keep _ _ _ cx.out (cO.of_below aq.out U.out.sea.lt), fun t ht => by simp at ht, fun _ i hi => absurd hi (by omega), fun h => absurd h (by decide), fun h => absurd h (by decide)⟩
    clear b9 hC bc aD;go_wp2
    go_loopw [9, 40] (fun held i wr => ∃ (k : Nat) (ts : List A), k ≤ (idxs fs y).length ∧ i = .int .i64 k ∧ held = .bool false ∧ fU vars fs ps ns head K sk T go b left m (idxs fs y) told ts false true k w wr) (fun _ i _ => (idxs fs y).length - (intOf i).toNat)
    case atStart => exact ⟨0, [], Nat.zero_le _, rfl, rfl, bi.out⟩
    case round =>
      obtain ⟨k, ts, hk, rfl, rfl, hI⟩ := hrel;clear bi;by_cases a9 : k < (idxs fs y).length
      · obtain ⟨b8, o8, rfl, cd, e0⟩ := oQ (hI.kept.keep dG bh.out fun x hx => U.out.kbs x (HC.out.sub x hx)) a9
        obtain ⟨ac, _⟩ := CX.1 (List.getElem_mem a9);have ci := (U.out.sea.run hI.kept).io;have cE : (0 : Int) ≤ (k : Int) := by omega
        have cG : (k : Int) < ((idxs fs y).length : Int) := by omega
        have HI := Lib.hid hI;have ar := Lib.hid a9;clear hI hk cd;go_wp2
        go_quiet (fail)
        have hI : fU vars fs ps ns head K sk T go b left m (idxs fs y) told ts false true k w (wr.drewN nq) := HI.out.drewN a7.out U.out.sea.lt;clear HI ci e0;generalize wr.drewN nq = wr at *;have S1 := U.out.kept hI.kept hI.at_ U.out.ok U.out.wds;obtain ⟨⟨Af, cf, Ar, cr, mu, mp, bf, br, Lu, Lp, g1, g2, _, _, _, _, _, _, _, _, aR, _⟩, _, _⟩ := S1.qM;obtain ⟨bq, oq, Ae, ce, bk, rfl, bj, f0, f1, ⟨vv, bl, cj, bo⟩, aE⟩ := qj S1.pps a8;simp only [List.cons.injEq, and_true, true_and] at bl;subst bl;obtain ⟨b7, o7, Ag, cg, bg, rfl, bt, d0, d1, bu, ae⟩ := dQ g2 ac;have aa := E.fok _ (List.getElem_mem ac)
        have a0 := Dj vars E.hv b U.out.ok ps[m] fs[(idxs fs y)[k]] Ae Ag ce cg bk bg sk 18 wr.drew (S1.at_.keep rfl) ((bU vars).keep bo fun _ _ => rfl) (aG.keep (dK bu) fun _ _ => rfl) (E.pin _ (List.getElem_mem a8)) (sQ (E.pok _ (List.getElem_mem a8)))
          (fun t ht => ⟨(aa.names t ht).1, nX (aa.names t ht).2⟩) (fun h => hK _ (S1.kbp _ (aE _ h)) rfl) (fun h => hK _ (S1.kbs _ (aR _ (ae _ h))) rfl) (by have := jo (E.pok _ (List.getElem_mem a8)); omega)
        have ck := Lib.hid (Dp (a := ps[m]) U.out.wds fun t ht => (aa.names t ht).2);have b1 := Lib.hid (fun (w5 : World) (hok : iW vars (aC ps[m] fs[(idxs fs y)[k]] b).1) (cl : fQ vars (aC ps[m] fs[(idxs fs y)[k]] b).1 sk 18 w5) => JD vars E.hv (aC ps[m] fs[(idxs fs y)[k]] b).1 hok b.length (tJ _ _ _) sk 18 w5 cl);have bv := Lib.hid (vP ps[m] fs[(idxs fs y)[k]] b);have bw : Hid (∀ w6, (aC ps[m] fs[(idxs fs y)[k]] b).2 = false → bQ K sk wr w6 → fQ vars b sk 18 w6 → T true w6 (told ++ ts) → fU vars fs ps ns head K sk T go b left m (idxs fs y) told ts false true (k + 1) w w6) := Lib.hid fun w6 h1 h2 h3 h4 => hI.skip a9 ac a8 h1 h2 h3 h4
        have bz : Hid (∀ (w4 w5 w6 : World) (J I : Bool), (aC ps[m] fs[(idxs fs y)[k]] b).2 = true → iO vars fs ps ns head K sk T go (aC ps[m] fs[(idxs fs y)[k]] b).1 (left - 2 ^ m) (told ++ ts) J I w4 w5 → bQ K sk wr w4 → bQ K sk w5 w6 → fQ vars b sk 18 w6 → (∀ b3, T I w5 b3 → T I w6 b3) → ∃ af, fU vars fs ps ns head K sk T go b left m (idxs fs y) told af (false || J) I (k + 1) w w6) :=
          Lib.hid fun w4 w5 w6 J I h1 h2 h3 h4 h5 h6 => hI.took hl cc a9 ac aa.gr a8 HC.out.bit h1 h2 h3 h4 h5 h6
        have aL : Hid (∀ w4 : World, (aC ps[m] fs[(idxs fs y)[k]] b).2 = true → bQ K sk wr w4 → fQ vars (aC ps[m] fs[(idxs fs y)[k]] b).1 sk 18 w4 → iW vars (aC ps[m] fs[(idxs fs y)[k]] b).1 → T true w4 (told ++ ts) →
            Calls Tryz.prog 237 #[.pointer (some ⟨sk, 0, none⟩), .int .i64 ((left - 2 ^ m : Nat) : Int)] w4 (rU vars fs ps ns head K sk T go (aC ps[m] fs[(idxs fs y)[k]] b).1 (left - 2 ^ m) (told ++ ts) w4)) :=
          Lib.hid fun w4 h1 h2 h3 h4 h5 => cy.out (left - 2 ^ m) (NE left m hl (by omega) HC.out.bit) _ _ _ (S1.kept h2 h3 h4 ck.out) (fun j hj bA => by
            by_cases e : j = m
            · subst e; exact (lF aa.gr h1).1
            · rw [xQ left m j hl (by omega) (by omega) HC.out.bit] at bA
              have : left.testBit j = false := by simpa [e] using bA
              exact (l9 _ _ _).VR (cw.out j hj this)) h5
        have s0 := S1.sea.st;have s1 := S1.sea.p1;have bB : wr.cell? ⟨sk, 42, none⟩ = some (.int .i64 b.length) := S1.at_.ct;have ag : wr.cell? ⟨sb, 0, none⟩ = some (.slice (some ⟨b7, o7, none⟩) fs.length cf) := aj g1;have cI : (0 : Int) ≤ (m : Int) := by omega
        have cJ : (m : Int) < (ps.length : Int) := by omega
        have cK : (0 : Int) ≤ (((idxs fs y)[k] : Nat) : Int) := by omega
        have cL : (((idxs fs y)[k] : Nat) : Int) < (fs.length : Int) := by omega
        have cP := EI left m hl (by omega) HC.out.bit;have bE : ∀ x ∈ bp, x < wr.heap.size ∧ x ≠ sk := fun x hx => ⟨(aX vars).lt S1.pps x hx, hK x (S1.kbp x hx)⟩
        have b4 : ∀ x ∈ bs, x < wr.heap.size ∧ x ≠ sk := fun x hx => ⟨S1.qM.lt x hx, hK x (S1.kbs x hx)⟩
        have n1 := bE bq bj;have n2 := b4 b7 (aR b7 bt);have n3 := b4 sb S1.qM.own;have HN := Lib.hid (And.intro n1 (And.intro n2 (And.intro n3 S1.sea.lt)));clear bE b4 n1 n2 n3;have bL := Lib.hid hI.st;have cQ := Lib.hid U.out.sea.lt;have av := Lib.hid S1.sea.lt;clear hI S1 g1 g2 aR aE ae bu cj bo bj bt;generalize (idxs fs y)[k] = j at *;generalize fs[j] = f at *;generalize ps[m] = p at *;obtain ⟨pn, a1⟩ := p;obtain ⟨fn, a2⟩ := f;dsimp only at *;clear a9 ac a8 aa
        have aw : Hid (∀ w4 : World, cO sk 18 wr.drew w4 → w4.cell? ⟨sk, 0, none⟩ = some (.pointer (some ⟨sb, 0, none⟩)) ∧ w4.cell? ⟨sk, 1, none⟩ = some (.slice (some ⟨bq, oq, none⟩) ps.length cp) ∧ w4.cell? ⟨bq, oq + m * 2, none⟩ = some (.string pn) ∧ w4.cell? ⟨bq, oq + m * 2 + 1, none⟩ = some (.slice Ae a1.length ce) ∧ w4.cell? ⟨sb, 0, none⟩ = some (.slice (some ⟨b7, o7, none⟩) fs.length cf) ∧ w4.cell? ⟨b7, o7 + j * 2, none⟩ = some (.string fn) ∧ w4.cell? ⟨b7, o7 + j * 2 + 1, none⟩ = some (.slice Ag a2.length cg)) := Lib.hid fun w4 cm => by
          have h4 : cO sk 18 wr w4 := (cO.of_below ((Below.refl wr.heap.size wr).drew) HN.out.2.2.2).trans cm
          exact ⟨(h4.rest _ (by omega)).trans s0, (h4.rest _ (by omega)).trans s1, (World.cell?_of_block (h4.block (b := bq) HN.out.1.1 HN.out.1.2)).trans f0, (World.cell?_of_block (h4.block (b := bq) HN.out.1.1 HN.out.1.2)).trans f1,
            (World.cell?_of_block (h4.block (b := sb) HN.out.2.2.1.1 HN.out.2.2.1.2)).trans ag, (World.cell?_of_block (h4.block (b := b7) HN.out.2.1.1 HN.out.2.1.2)).trans d0, (World.cell?_of_block (h4.block (b := b7) HN.out.2.1.1 HN.out.2.1.2)).trans d1⟩
        generalize hM : aC ⟨pn, a1⟩ ⟨fn, a2⟩ b = M at *;obtain ⟨b', r⟩ := M;dsimp only at *;clear hM;cases r
        · go_wp2
          go_region_held3 (fun w' => w'.cell? ⟨sk, 0, none⟩ = some (.pointer (some ⟨sb, 0, none⟩)) ∧ w'.cell? ⟨sk, 1, none⟩ = some (.slice (some ⟨bq, oq, none⟩) ps.length cp) ∧ w'.cell? ⟨bq, oq + m * 2, none⟩ = some (.string pn) ∧ w'.cell? ⟨bq, oq + m * 2 + 1, none⟩ = some (.slice Ae a1.length ce) ∧ w'.cell? ⟨sb, 0, none⟩ = some (.slice (some ⟨b7, o7, none⟩) fs.length cf) ∧ w'.cell? ⟨b7, o7 + j * 2, none⟩ = some (.string fn) ∧ w'.cell? ⟨b7, o7 + j * 2 + 1, none⟩ = some (.slice Ag a2.length cg))
            (first | exact ⟨s0, s1, f0, f1, ag, d0, d1⟩ | exact am)
            (first | (go_at_call 85; refine a0.mono ?_; rintro e w4 ⟨rfl, a3⟩; have am := aw.out w4 a3.kept))
          all_goals
            have a5 := Lib.hid a3;have ab := b1.out w4 a3.ok a3.at_;clear a3 am aw;have az := Lib.hid ((bQ.of_below (K := K) av.out ((Below.refl wr.heap.size wr).drew)).trans (bQ.zM hK a5.out.kept));have b5 := Lib.hid (a7.out.keep _ _ _ (a7.out.keep wr wr.drew _ bL.out (cO.of_below ((Below.refl wr.heap.size wr).drew) av.out)) a5.out.kept);clear s0 s1 bB ag f0 f1 d0 d1 a0
            go_wp2_with fail
            refine ab.mono ?_;rintro e w6 ⟨rfl, a6⟩;rw [bv.out] at a6;have ao := Lib.hid (bw.out w6 (by trivial) (az.out.trans (bQ.zM hK a6.kept)) a6.at_ (a7.out.keep _ _ _ b5.out a6.kept));clear a6 ab;go_wp2;go_roundw
            case rel => exact ⟨k + 1, ts, ar.out, by go_num, rfl, ao.out⟩
            case measure => have := ar.out; simp [intOf]; omega
        · go_wp2
          go_region_held3 (fun w' => w'.cell? ⟨sk, 0, none⟩ = some (.pointer (some ⟨sb, 0, none⟩)) ∧ w'.cell? ⟨sk, 1, none⟩ = some (.slice (some ⟨bq, oq, none⟩) ps.length cp) ∧ w'.cell? ⟨bq, oq + m * 2, none⟩ = some (.string pn) ∧ w'.cell? ⟨bq, oq + m * 2 + 1, none⟩ = some (.slice Ae a1.length ce) ∧ w'.cell? ⟨sb, 0, none⟩ = some (.slice (some ⟨b7, o7, none⟩) fs.length cf) ∧ w'.cell? ⟨b7, o7 + j * 2, none⟩ = some (.string fn) ∧ w'.cell? ⟨b7, o7 + j * 2 + 1, none⟩ = some (.slice Ag a2.length cg))
            (first | exact ⟨s0, s1, f0, f1, ag, d0, d1⟩ | exact am)
            (first | (go_at_call 85; refine a0.mono ?_; rintro e w4 ⟨rfl, a3⟩; have am := aw.out w4 a3.kept))
          all_goals
            have a5 := Lib.hid a3;clear a3 am aw;have az := Lib.hid ((bQ.of_below (K := K) av.out ((Below.refl wr.heap.size wr).drew)).trans (bQ.zM hK a5.out.kept));have b5 := Lib.hid (a7.out.keep _ _ _ (a7.out.keep wr wr.drew _ bL.out (cO.of_below ((Below.refl wr.heap.size wr).drew) av.out)) a5.out.kept);have aM := aL.out w4 (by trivial) az.out a5.out.at_ a5.out.ok b5.out;clear s0 s1 bB ag f0 f1 d0 d1 a0
            go_wp2_with fail
            refine aM.mono ?_;rintro e w5 ⟨J, I, rfl, b6⟩;have ab := b1.out w5 a5.out.ok (iO.bd b6);have bO := Lib.hid b6;clear aM b6;have co : Hid (∀ w6, jm vars sk 18 w5 b w6 → ∃ af, fU vars fs ps ns head K sk T go b left m (idxs fs y) told af (false || J) I (k + 1) w w6) := Lib.hid fun w6 h6 => bz.out w4 w5 w6 J I (by trivial) bO.out az.out (bQ.zM hK h6.kept) h6.at_ fun b3 cq => a7.out.keep _ _ _ cq h6.kept
            rw [bv.out] at ab;clear bz aL b1 bw bO
            cases J <;> cases I
            all_goals
              go_wp2_with fail
              refine ab.mono ?_;rintro e w6 ⟨rfl, a6⟩;obtain ⟨af, bR⟩ := co.out w6 a6;have ao := Lib.hid bR;clear a6 ab bR;go_wp2
              first
                | (go_ret2; exact ao.out.off.ret)
                | (go_roundw
                   case rel => exact ⟨k + 1, af, ar.out, by go_num, rfl, ao.out⟩
                   case measure => have := ar.out; simp [intOf]; omega)
                | (go_ret2; exact (ao.out.brk cz.out).ret)
      · have he : ¬ (k : Int) < ((idxs fs y).length : Int) := by omega
        have HF := Lib.hid (hI.fin E HC.out rfl (by omega));clear hI;go_wp2;go_ret2;exact HF.out.ret
end
end Go.Proofs.YtlmngncogomgeaaGreatDoor
