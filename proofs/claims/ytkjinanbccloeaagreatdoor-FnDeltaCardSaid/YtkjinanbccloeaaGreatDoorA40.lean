/- Of the proof of FnDelta: RunI. -/
import Derived.Test.YtkjinanbccloeaaGreatDoorA39
set_option linter.unusedVariables false
set_option maxHeartbeats 8000000
set_option maxRecDepth 100000
namespace Go.Proofs.YtkjinanbccloeaaGreatDoor
open Go.RowKit D
attribute [local go_sem ↓] Go.wp_at_zero Go.wp_at_succ
section
variable (vars:List ByteArray) (fs:List A) (rn:List Nat) (bs:List Nat) (ps ns:List A) (head:A) (sk sb:Nat) (Ap:Option Addr) (cp:Nat) (An:Option Addr) (cn:Nat) (bp bn:List Nat) (wt:Nat→Bool) (ah:Int) (c5 c7:Addr) (K:Nat→Prop) (T:Bool→World→List A→Prop) (go:List A→Bool)
theorem run_stop (E:rV vars fs ps ns head wt) (hK:∀ k,K k→k ≠ sk) (hT:xk vars head sk K c5 c7 T go) (left:Nat) (b:Bd) (told:List A) (w:World)
  (S:qH vars fs rn bs ps ns sk sb (.slice Ap ps.length cp) (.slice An ns.length cn) bp bn wt ah (.func (.func 116) #[] #[.pointer (some c5),.pointer (some c7)]) K b w)
  (a0:T true w told) (hS:setB vars b wt=true) (hH:yP fs ns b=true):
  Calls Tryz.prog 179 #[.pointer (some ⟨sk,0,none⟩),.int .i64 left] w (uI vars fs ps ns head K sk T go b left told w):=by
 have I:=(uH E.hv S.ok E.want E.hin E.nin).1 hS;have J:=uD vars b sk sb _ _ wt false ah _ w S.sea S.at_;rw [hS] at J;have U:=fun w1 (y:Below w.heap.size w w1)=>rP vars E.hv b S.ok fs rn bs ns An cn bn sk sb _ wt false ah _ w1 (S.below y).sea (S.below y).at_ (S.below y).sN (S.below y).pns E.nin (fun n hn=>(vw (E.nok n hn) S.wds (I.2 n hn)).ok) E.nl
 rw [hH] at U
 have a1:Hid (∀ w2,Below w.heap.size w w2→jk vars fs ps ns head K sk T go b left told false true w w2):=η fun w2 hb=>⟨[],bV.of_below S.sea.lt hb,S.at_.keep (hb.block _ S.sea.lt),
  by rw [List.append_nil]; exact hT.keep _ _ _ a0 (dG.of_below hb S.sea.lt),fun t ht=>by simp at ht,fun _ σ hσ=>absurd hσ (U7 E S.wds I.2 hH σ),fun h=>by simp at h,fun h=>by simp at h⟩
 have a2:=η U;clear U S I a0 hT
 go_enter Tryz.func179,Tryz.ntmps179
 go_wp2_with fail
 refine J.mono ?_;rintro e w1 ⟨rfl,y⟩;have hh:=a2.out w1 y
 go_wp2_with fail
 refine hh.mono ?_;rintro e w2 ⟨rfl,a3⟩;have HD:=η (a1.out w2 (y.trans (a3.mono y.size)));clear J hh y a3 a1 a2;go_wp2;go_ret2;exact HD.out.ret
theorem Vk (E:rV vars fs ps ns head wt) (hK:∀ k,K k→k ≠ sk) (hT:xk vars head sk K c5 c7 T go) (b:Bd) (told:List A) (w:World)
  (S:qH vars fs rn bs ps ns sk sb (.slice Ap ps.length cp) (.slice An ns.length cn) bp bn wt ah (.func (.func 116) #[] #[.pointer (some c5),.pointer (some c7)]) K b w)
  (a0:∀ p ∈ ps,yh b p.args) (a1:T true w told) (hH:yP fs ns b=false):
  Calls Tryz.prog 179 #[.pointer (some ⟨sk,0,none⟩),.int .i64 ((0:Nat):Int)] w (uI vars fs ps ns head K sk T go b 0 told w):=by
 have hcv:=E.tight b a0;have hS:=(uH E.hv S.ok E.want E.hin E.nin).2 hcv;have I:=uD vars b sk sb _ _ wt false ah _ w S.sea S.at_;rw [hS] at I;have J:=fun w1 (y:Below w.heap.size w w1)=>rP vars E.hv b S.ok fs rn bs ns An cn bn sk sb _ wt false ah _ w1 (S.below y).sea (S.below y).at_ (S.below y).sN (S.below y).pns E.nin (fun n hn=>(vw (E.nok n hn) S.wds (hcv.2 n hn)).ok) E.nl
 rw [hH] at J;have a2:=fun w2 (hb:Below w.heap.size w w2)=>hT.call w2.drew b told S.ok S.wds hcv.1 (S.at_.keep ((hb.block _ S.sea.lt))) (hT.keep _ _ _ a1 (dG.of_below hb.drew S.sea.lt))
 have a3:Hid (∀ w2 w3:World,Below w.heap.size w w2→T (go (told ++ [cu head b])) w3 (told ++ [cu head b])→bV K sk w2.drew w3→w3.heap[sk]? = w2.drew.heap[sk]?→jk vars fs ps ns head K sk T go b 0 told true (go (told ++ [cu head b])) w w3):=η fun w2 w3 hb h1 h2 h3=>
  ⟨[cu head b],(bV.of_below S.sea.lt hb.drew).trans h2,(S.at_.keep (hb.block _ S.sea.lt)).keep h3,h1,fun t ht=>by
   rw [List.mem_singleton.1 ht]
   exact ⟨jv b,⟨Ij b,fun j _ hj=>by simp at hj,fun n hn=>by rw [← yj]; exact U8 E S.wds hcv.2 hH n hn⟩,(yj _ _).symm⟩,
   fun _ σ hσ=>by rw [← kK hcv.1 hσ.1]; exact List.mem_singleton_self _,fun _=>by simp,fun h=>h⟩
 have a4:=η J;have a5:=η a2;have U:=η S.sea;clear J a2 S hcv a1 hT a0
 go_enter Tryz.func179,Tryz.ntmps179
 go_wp2_with fail
 refine I.mono ?_;rintro e w1 ⟨rfl,y⟩;have hh:=a4.out w1 y
 go_wp2_with fail
 refine hh.mono ?_;rintro e w2 ⟨rfl,a6⟩;have HB:=η (y.trans (a6.mono y.size));have a7:=η (a5.out w2 HB.out);have s0:=(U.out.keep (HB.out.block _ U.out.lt)).tl;clear I hh y a6 a4 a5;go_wp2
 go_region_law
  (first
   | (go_simp; go_at_call 116; refine a7.out.mono ?_; rintro e w3 ⟨rfl,a8,a9,aa⟩; have HD:=η (a3.out w2 w3 HB.out a8 a9 aa); clear a8 a9 aa))
 all_goals
  clear s0 a7 a3 U;go_wp2;go_ret2;exact HD.out.ret
theorem MS (E : rV vars fs ps ns head wt) (hK : ∀ k, K k → k ≠ sk) (hT : xk vars head sk K c5 c7 T go) (left : Nat) (c3 : left < 2 ^ ps.length) (cD : left ≠ 0)
    (IH : ∀ aq, aq < left → ∀ (b : Bd) (told : List A) (w : World), qH vars fs rn bs ps ns sk sb (.slice Ap ps.length cp) (.slice An ns.length cn) bp bn wt ah (.func (.func 116) #[] #[.pointer (some c5), .pointer (some c7)]) K b w →
      (∀ j (h : j < ps.length), aq.testBit j = false → yh b ps[j].args) → T true w told → Calls Tryz.prog 179 #[.pointer (some ⟨sk, 0, none⟩), .int .i64 aq] w (uI vars fs ps ns head K sk T go b aq told w))
    (b : Bd) (told : List A) (w : World)
    (S : qH vars fs rn bs ps ns sk sb (.slice Ap ps.length cp) (.slice An ns.length cn) bp bn wt ah (.func (.func 116) #[] #[.pointer (some c5), .pointer (some c7)]) K b w)
    (c4 : ∀ j (h : j < ps.length), left.testBit j = false → yh b ps[j].args) (cw : T true w told) (hH : setB vars b wt = true → yP fs ns b = false) :
    Calls Tryz.prog 179 #[.pointer (some ⟨sk, 0, none⟩), .int .i64 left] w (uI vars fs ps ns head K sk T go b left told w) := by
  have hl : left < 16 := Nat.lt_of_lt_of_le c3 (Nat.pow_le_pow_right (by omega) E.p4 : 2 ^ ps.length ≤ 2 ^ 4);have c6 := uD vars b sk sb _ _ wt false ah _ w S.sea S.at_;have c8 := fun w1 (a4 : Below w.heap.size w w1) => OX vars E.hv b fs rn bs ps Ap cp bp sk sb _ wt ah _ left w1 (S.below a4).sea (S.below a4).at_ (S.below a4).sN (S.below a4).pps E.pin (fun p hp => by have := nZ (E.pok p hp); omega) E.p4 hl E.fl (U6 left ps.length c3 E.p4 cD)
  have ca := fun (hs : setB vars b wt = true) w1 (a4 : Below w.heap.size w w1) => rP vars E.hv b S.ok fs rn bs ns An cn bn sk sb _ wt false ah _ w1 (S.below a4).sea (S.below a4).at_ (S.below a4).sN (S.below a4).pns E.nin (fun n hn => (vw (E.nok n hn) S.wds (((uH E.hv S.ok E.want E.hin E.nin).1 hs).2 n hn)).ok) E.nl
  have cb := Lib.hid ca;have bX := Lib.hid c8;have J := Lib.hid S;have cx := Lib.hid c4;have cy := Lib.hid cw;have cz := Lib.hid IH;have a7 := Lib.hid hT;have cc := Lib.hid hH;have cU : ¬ (left : Int) = 0 := by omega
  clear ca c8 S c4 cw IH hT hH;generalize hsb : setB vars b wt = s at *;have cE := Lib.hid hsb
  go_enter Tryz.func179, Tryz.ntmps179
  go_wp2_with fail
  refine c6.mono ?_;rintro e w1 ⟨rfl, a4⟩;clear c6 hsb;cases s
  · have aE := Lib.hid a4
    have b9 := bX.out w1 a4;clear a4;clear bX cb cc
    go_wp2_with fail
    refine b9.mono ?_;rintro e w3 ⟨m, A9, c9, key, bx, rfl, hC, bc⟩;have ar := Lib.hid (aE.out.trans (bc.mono aE.out.size));have HC := Lib.hid hC;have bh : Hid (jM w [.slice A9 (idxs fs key).length c9] (idxs fs key) bx) := Lib.hid (dM.keep hC.row fun x hx => (ar.out.block x (J.out.sN.lt x (hC.sub x hx))).symm);have hlen : (idxs fs key).length ≤ 1000000 := Nat.le_trans (nK _ _) E.fl;have a8 := hC.lt;have cd := E.p4
    have bi : Hid (gW vars fs ps ns head K sk T go b left m (idxs fs key) told [] false true 0 w w3) := Lib.hid ⟨bV.of_below J.out.sea.lt ar.out, J.out.at_.keep (ar.out.block _ J.out.sea.lt),
      by rw [List.append_nil]; exact a7.out.keep _ _ _ cy.out (dG.of_below ar.out J.out.sea.lt), fun t ht => by simp at ht, fun _ i hi => absurd hi (by omega), fun h => absurd h (by decide), fun h => absurd h (by decide)⟩
    clear b9 hC bc aE;go_wp2
    go_loopw [9, 40] (fun held i wr => ∃ (k : Nat) (ts : List A) (hd : Bool), k ≤ (idxs fs key).length ∧ i = .int .i64 k ∧ held = .bool hd ∧ gW vars fs ps ns head K sk T go b left m (idxs fs key) told ts hd true k w wr) (fun _ i _ => (idxs fs key).length - (intOf i).toNat)
    case atStart => exact ⟨0, [], false, Nat.zero_le _, rfl, rfl, bi.out⟩
    case round =>
      obtain ⟨k, ts, hd, hk, rfl, rfl, hI⟩ := hrel;clear bi;by_cases a9 : k < (idxs fs key).length
      · obtain ⟨b8, o8, rfl, ci, e0⟩ := qC (hI.kept.keep dM bh.out fun x hx => J.out.kbs x (HC.out.sub x hx)) a9
        obtain ⟨ac, _⟩ := Ed.1 (List.getElem_mem a9);have cj := (J.out.sea.run hI.kept).io;have cG : (0 : Int) ≤ (k : Int) := by omega
        have cI : (k : Int) < ((idxs fs key).length : Int) := by omega
        have HI := Lib.hid hI;have av := Lib.hid a9;clear hI hk ci;go_wp2
        go_quiet (fail)
        have hI : gW vars fs ps ns head K sk T go b left m (idxs fs key) told ts hd true k w (wr.drewN nq) := HI.out.drewN a7.out J.out.sea.lt;clear HI cj e0;generalize wr.drewN nq = wr at *;have S1 := J.out.kept hI.kept hI.at_ J.out.ok J.out.wds;obtain ⟨⟨Af, cf, Ar, cr, mu, mp, bf, br, Lu, Lp, g1, g2, _, _, _, _, _, _, _, _, b1, _⟩, _, _⟩ := S1.sN;obtain ⟨bq, oq, Ae, ce, bk, rfl, bj, f0, f1, ⟨vv, bl, ck, bo⟩, aL⟩ := yu S1.pps a8;simp only [List.cons.injEq, and_true, true_and] at bl;subst bl;obtain ⟨b7, o7, Ag, cg, bg, rfl, bt, d0, d1, bu, ae⟩ := dU g2 ac;have aa := E.fok _ (List.getElem_mem ac)
        have a0 := Em vars E.hv b J.out.ok ps[m] fs[(idxs fs key)[k]] Ae Ag ce cg bk bg sk 18 wr.drew (S1.at_.keep rfl) ((dm vars).keep bo fun _ _ => rfl) (aP.keep (dI bu) fun _ _ => rfl) (E.pin _ (List.getElem_mem a8)) (GI (E.pok _ (List.getElem_mem a8)))
          (fun t ht => ⟨(aa.names t ht).1, uG (aa.names t ht).2⟩) (fun h => hK _ (S1.kbp _ (aL _ h)) rfl) (fun h => hK _ (S1.kbs _ (b1 _ (ae _ h))) rfl) (by have := nZ (E.pok _ (List.getElem_mem a8)); omega)
        have cl := Lib.hid (Et (a := ps[m]) J.out.wds fun t ht => (aa.names t ht).2);have b2 := Lib.hid (fun (w5 : World) (hok : jT vars (aF ps[m] fs[(idxs fs key)[k]] b).1) (cm : iJ vars (aF ps[m] fs[(idxs fs key)[k]] b).1 sk 18 w5) => Me vars E.hv (aF ps[m] fs[(idxs fs key)[k]] b).1 hok b.length (vV _ _ _) sk 18 w5 cm);have bv := Lib.hid (xg ps[m] fs[(idxs fs key)[k]] b);have bw : Hid (∀ w6, (aF ps[m] fs[(idxs fs key)[k]] b).2 = false → bV K sk wr w6 → iJ vars b sk 18 w6 → T true w6 (told ++ ts) → gW vars fs ps ns head K sk T go b left m (idxs fs key) told ts hd true (k + 1) w w6) := Lib.hid fun w6 h1 h2 h3 h4 => hI.skip a9 ac a8 h1 h2 h3 h4
        have bz : Hid (∀ (U w5 w6 : World) (I y : Bool), (aF ps[m] fs[(idxs fs key)[k]] b).2 = true → jk vars fs ps ns head K sk T go (aF ps[m] fs[(idxs fs key)[k]] b).1 (left - 2 ^ m) (told ++ ts) I y U w5 → bV K sk wr U → bV K sk w5 w6 → iJ vars b sk 18 w6 → (∀ b3, T y w5 b3 → T y w6 b3) → ∃ af, gW vars fs ps ns head K sk T go b left m (idxs fs key) told af (hd || I) y (k + 1) w w6) :=
          Lib.hid fun U w5 w6 I y h1 h2 h3 h4 h5 h6 => hI.took hl cd a9 ac aa.gr a8 HC.out.bit h1 h2 h3 h4 h5 h6
        have aM : Hid (∀ U : World, (aF ps[m] fs[(idxs fs key)[k]] b).2 = true → bV K sk wr U → iJ vars (aF ps[m] fs[(idxs fs key)[k]] b).1 sk 18 U → jT vars (aF ps[m] fs[(idxs fs key)[k]] b).1 → T true U (told ++ ts) →
            Calls Tryz.prog 179 #[.pointer (some ⟨sk, 0, none⟩), .int .i64 ((left - 2 ^ m : Nat) : Int)] U (uI vars fs ps ns head K sk T go (aF ps[m] fs[(idxs fs key)[k]] b).1 (left - 2 ^ m) (told ++ ts) U)) :=
          Lib.hid fun U h1 h2 h3 h4 h5 => cz.out (left - 2 ^ m) (PS left m hl (by omega) HC.out.bit) _ _ _ (S1.kept h2 h3 h4 cl.out) (fun j hj bA => by
            by_cases e : j = m
            · subst e; exact (nD aa.gr h1).1
            · rw [yR left m j hl (by omega) (by omega) HC.out.bit] at bA
              have : left.testBit j = false := by simpa [e] using bA
              exact (oD _ _ _).Yk (cx.out j hj this)) h5
        have s0 := S1.sea.st;have s1 := S1.sea.p1;have bB : wr.cell? ⟨sk, 42, none⟩ = some (.int .i64 b.length) := S1.at_.ct;have ag : wr.cell? ⟨sb, 0, none⟩ = some (.slice (some ⟨b7, o7, none⟩) fs.length cf) := ai g1;have cJ : (0 : Int) ≤ (m : Int) := by omega
        have cK : (m : Int) < (ps.length : Int) := by omega
        have cL : (0 : Int) ≤ (((idxs fs key)[k] : Nat) : Int) := by omega
        have cP : (((idxs fs key)[k] : Nat) : Int) < (fs.length : Int) := by omega
        have cQ := GH left m hl (by omega) HC.out.bit;have bE : ∀ x ∈ bp, x < wr.heap.size ∧ x ≠ sk := fun x hx => ⟨(dW vars).lt S1.pps x hx, hK x (S1.kbp x hx)⟩
        have b4 : ∀ x ∈ bs, x < wr.heap.size ∧ x ≠ sk := fun x hx => ⟨S1.sN.lt x hx, hK x (S1.kbs x hx)⟩
        have n1 := bE bq bj;have n2 := b4 b7 (b1 b7 bt);have n3 := b4 sb S1.sN.own;have HN := Lib.hid (And.intro n1 (And.intro n2 (And.intro n3 S1.sea.lt)));clear bE b4 n1 n2 n3;have bL := Lib.hid hI.st;have cT := Lib.hid J.out.sea.lt;have aw := Lib.hid S1.sea.lt;clear hI S1 g1 g2 b1 aL ae bu ck bo bj bt;generalize (idxs fs key)[k] = j at *;generalize fs[j] = f at *;generalize ps[m] = p at *;obtain ⟨pn, a1⟩ := p;obtain ⟨fn, a2⟩ := f;dsimp only at *;clear a9 ac a8 aa
        have az : Hid (∀ U : World, dG sk 18 wr.drew U → U.cell? ⟨sk, 0, none⟩ = some (.pointer (some ⟨sb, 0, none⟩)) ∧ U.cell? ⟨sk, 1, none⟩ = some (.slice (some ⟨bq, oq, none⟩) ps.length cp) ∧ U.cell? ⟨bq, oq + m * 2, none⟩ = some (.string pn) ∧ U.cell? ⟨bq, oq + m * 2 + 1, none⟩ = some (.slice Ae a1.length ce) ∧ U.cell? ⟨sb, 0, none⟩ = some (.slice (some ⟨b7, o7, none⟩) fs.length cf) ∧ U.cell? ⟨b7, o7 + j * 2, none⟩ = some (.string fn) ∧ U.cell? ⟨b7, o7 + j * 2 + 1, none⟩ = some (.slice Ag a2.length cg)) := Lib.hid fun U co => by
          have h4 : dG sk 18 wr U := (dG.of_below ((Below.refl wr.heap.size wr).drew) HN.out.2.2.2).trans co
          exact ⟨(h4.rest _ (by omega)).trans s0, (h4.rest _ (by omega)).trans s1, (World.cell?_of_block (h4.block (b := bq) HN.out.1.1 HN.out.1.2)).trans f0, (World.cell?_of_block (h4.block (b := bq) HN.out.1.1 HN.out.1.2)).trans f1,
            (World.cell?_of_block (h4.block (b := sb) HN.out.2.2.1.1 HN.out.2.2.1.2)).trans ag, (World.cell?_of_block (h4.block (b := b7) HN.out.2.1.1 HN.out.2.1.2)).trans d0, (World.cell?_of_block (h4.block (b := b7) HN.out.2.1.1 HN.out.2.1.2)).trans d1⟩
        generalize hM : aF ⟨pn, a1⟩ ⟨fn, a2⟩ b = M at *;obtain ⟨b', r⟩ := M;dsimp only at *;clear hM;cases r
        · go_wp2
          go_region_held3 (fun w' => w'.cell? ⟨sk, 0, none⟩ = some (.pointer (some ⟨sb, 0, none⟩)) ∧ w'.cell? ⟨sk, 1, none⟩ = some (.slice (some ⟨bq, oq, none⟩) ps.length cp) ∧ w'.cell? ⟨bq, oq + m * 2, none⟩ = some (.string pn) ∧ w'.cell? ⟨bq, oq + m * 2 + 1, none⟩ = some (.slice Ae a1.length ce) ∧ w'.cell? ⟨sb, 0, none⟩ = some (.slice (some ⟨b7, o7, none⟩) fs.length cf) ∧ w'.cell? ⟨b7, o7 + j * 2, none⟩ = some (.string fn) ∧ w'.cell? ⟨b7, o7 + j * 2 + 1, none⟩ = some (.slice Ag a2.length cg))
            (first | exact ⟨s0, s1, f0, f1, ag, d0, d1⟩ | exact am)
            (first | (go_at_call 154; refine a0.mono ?_; rintro e U ⟨rfl, a3⟩; have am := az.out U a3.kept))
          all_goals
            have a5 := Lib.hid a3;have ab := b2.out U a3.ok a3.at_;clear a3 am az;have aD := Lib.hid ((bV.of_below (K := K) aw.out ((Below.refl wr.heap.size wr).drew)).trans (bV.BK hK a5.out.kept));have b5 := Lib.hid (a7.out.keep _ _ _ (a7.out.keep wr wr.drew _ bL.out (dG.of_below ((Below.refl wr.heap.size wr).drew) aw.out)) a5.out.kept);clear s0 s1 bB ag f0 f1 d0 d1 a0
            go_wp2_with fail
            refine ab.mono ?_;rintro e w6 ⟨rfl, a6⟩;rw [bv.out] at a6;have ao := Lib.hid (bw.out w6 (by trivial) (aD.out.trans (bV.BK hK a6.kept)) a6.at_ (a7.out.keep _ _ _ b5.out a6.kept));clear a6 ab;cases hd
            all_goals
              go_wp2;go_roundw
              case rel => exact ⟨k + 1, ts, _, av.out, by go_num, rfl, ao.out⟩
              case measure => have := av.out; simp [intOf]; omega
        · go_wp2
          go_region_held3 (fun w' => w'.cell? ⟨sk, 0, none⟩ = some (.pointer (some ⟨sb, 0, none⟩)) ∧ w'.cell? ⟨sk, 1, none⟩ = some (.slice (some ⟨bq, oq, none⟩) ps.length cp) ∧ w'.cell? ⟨bq, oq + m * 2, none⟩ = some (.string pn) ∧ w'.cell? ⟨bq, oq + m * 2 + 1, none⟩ = some (.slice Ae a1.length ce) ∧ w'.cell? ⟨sb, 0, none⟩ = some (.slice (some ⟨b7, o7, none⟩) fs.length cf) ∧ w'.cell? ⟨b7, o7 + j * 2, none⟩ = some (.string fn) ∧ w'.cell? ⟨b7, o7 + j * 2 + 1, none⟩ = some (.slice Ag a2.length cg))
            (first | exact ⟨s0, s1, f0, f1, ag, d0, d1⟩ | exact am)
            (first | (go_at_call 154; refine a0.mono ?_; rintro e U ⟨rfl, a3⟩; have am := az.out U a3.kept))
          all_goals
            have a5 := Lib.hid a3;clear a3 am az;have aD := Lib.hid ((bV.of_below (K := K) aw.out ((Below.refl wr.heap.size wr).drew)).trans (bV.BK hK a5.out.kept));have b5 := Lib.hid (a7.out.keep _ _ _ (a7.out.keep wr wr.drew _ bL.out (dG.of_below ((Below.refl wr.heap.size wr).drew) aw.out)) a5.out.kept);have aR := aM.out U (by trivial) aD.out a5.out.at_ a5.out.ok b5.out;clear s0 s1 bB ag f0 f1 d0 d1 a0
            go_wp2_with fail
            refine aR.mono ?_;rintro e w5 ⟨I, y, rfl, b6⟩;have ab := b2.out w5 a5.out.ok (jk.bd b6);have bO := Lib.hid b6;clear aR b6;have cq : Hid (∀ w6, jW vars sk 18 w5 b w6 → ∃ af, gW vars fs ps ns head K sk T go b left m (idxs fs key) told af (hd || I) y (k + 1) w w6) := Lib.hid fun w6 h6 => bz.out U w5 w6 I y (by trivial) bO.out aD.out (bV.BK hK h6.kept) h6.at_ fun b3 cv => a7.out.keep _ _ _ cv h6.kept
            rw [bv.out] at ab;clear bz aM b2 bw bO
            cases hd <;> cases I <;> cases y
            all_goals
              go_wp2_with fail
              refine ab.mono ?_;rintro e w6 ⟨rfl, a6⟩;obtain ⟨af, bR⟩ := cq.out w6 a6;have ao := Lib.hid bR;clear a6 ab bR;go_wp2
              first
                | (go_ret2; exact ao.out.off.ret)
                | (go_roundw
                   case rel => exact ⟨k + 1, af, _, av.out, by go_num, rfl, ao.out⟩
                   case measure => have := av.out; simp [intOf]; omega)
      · have he : ¬ (k : Int) < ((idxs fs key).length : Int) := by omega
        have HF := Lib.hid (hI.fin E HC.out rfl (by omega));clear hI;go_wp2;go_ret2;exact HF.out.ret
  · have hh := cb.out rfl w1 a4
    rw [cc.out rfl] at hh;have cA := Lib.hid ((uH E.hv J.out.ok E.want E.hin E.nin).1 cE.out).1
    go_wp2_with fail
    refine hh.mono ?_;rintro e w2 ⟨rfl, cB⟩;have aE := Lib.hid (a4.trans (cB.mono a4.size));have b9 := bX.out w2 aE.out;clear a4 cB hh;clear bX cb cc
    go_wp2_with fail
    refine b9.mono ?_;rintro e w3 ⟨m, A9, c9, key, bx, rfl, hC, bc⟩;have ar := Lib.hid (aE.out.trans (bc.mono aE.out.size));have HC := Lib.hid hC;have bh : Hid (jM w [.slice A9 (idxs fs key).length c9] (idxs fs key) bx) := Lib.hid (dM.keep hC.row fun x hx => (ar.out.block x (J.out.sN.lt x (hC.sub x hx))).symm);have hlen : (idxs fs key).length ≤ 1000000 := Nat.le_trans (nK _ _) E.fl;have a8 := hC.lt;have cd := E.p4
    have bi : Hid (gW vars fs ps ns head K sk T go b left m (idxs fs key) told [] false true 0 w w3) := Lib.hid ⟨bV.of_below J.out.sea.lt ar.out, J.out.at_.keep (ar.out.block _ J.out.sea.lt),
      by rw [List.append_nil]; exact a7.out.keep _ _ _ cy.out (dG.of_below ar.out J.out.sea.lt), fun t ht => by simp at ht, fun _ i hi => absurd hi (by omega), fun h => absurd h (by decide), fun h => absurd h (by decide)⟩
    clear b9 hC bc aE;go_wp2
    go_loopw [9, 40] (fun held i wr => ∃ (k : Nat) (ts : List A), k ≤ (idxs fs key).length ∧ i = .int .i64 k ∧ held = .bool false ∧ gW vars fs ps ns head K sk T go b left m (idxs fs key) told ts false true k w wr) (fun _ i _ => (idxs fs key).length - (intOf i).toNat)
    case atStart => exact ⟨0, [], Nat.zero_le _, rfl, rfl, bi.out⟩
    case round =>
      obtain ⟨k, ts, hk, rfl, rfl, hI⟩ := hrel;clear bi;by_cases a9 : k < (idxs fs key).length
      · obtain ⟨b8, o8, rfl, ci, e0⟩ := qC (hI.kept.keep dM bh.out fun x hx => J.out.kbs x (HC.out.sub x hx)) a9
        obtain ⟨ac, _⟩ := Ed.1 (List.getElem_mem a9);have cj := (J.out.sea.run hI.kept).io;have cG : (0 : Int) ≤ (k : Int) := by omega
        have cI : (k : Int) < ((idxs fs key).length : Int) := by omega
        have HI := Lib.hid hI;have av := Lib.hid a9;clear hI hk ci;go_wp2
        go_quiet (fail)
        have hI : gW vars fs ps ns head K sk T go b left m (idxs fs key) told ts false true k w (wr.drewN nq) := HI.out.drewN a7.out J.out.sea.lt;clear HI cj e0;generalize wr.drewN nq = wr at *;have S1 := J.out.kept hI.kept hI.at_ J.out.ok J.out.wds;obtain ⟨⟨Af, cf, Ar, cr, mu, mp, bf, br, Lu, Lp, g1, g2, _, _, _, _, _, _, _, _, b1, _⟩, _, _⟩ := S1.sN;obtain ⟨bq, oq, Ae, ce, bk, rfl, bj, f0, f1, ⟨vv, bl, ck, bo⟩, aL⟩ := yu S1.pps a8;simp only [List.cons.injEq, and_true, true_and] at bl;subst bl;obtain ⟨b7, o7, Ag, cg, bg, rfl, bt, d0, d1, bu, ae⟩ := dU g2 ac;have aa := E.fok _ (List.getElem_mem ac)
        have a0 := Em vars E.hv b J.out.ok ps[m] fs[(idxs fs key)[k]] Ae Ag ce cg bk bg sk 18 wr.drew (S1.at_.keep rfl) ((dm vars).keep bo fun _ _ => rfl) (aP.keep (dI bu) fun _ _ => rfl) (E.pin _ (List.getElem_mem a8)) (GI (E.pok _ (List.getElem_mem a8)))
          (fun t ht => ⟨(aa.names t ht).1, uG (aa.names t ht).2⟩) (fun h => hK _ (S1.kbp _ (aL _ h)) rfl) (fun h => hK _ (S1.kbs _ (b1 _ (ae _ h))) rfl) (by have := nZ (E.pok _ (List.getElem_mem a8)); omega)
        have cl := Lib.hid (Et (a := ps[m]) J.out.wds fun t ht => (aa.names t ht).2);have b2 := Lib.hid (fun (w5 : World) (hok : jT vars (aF ps[m] fs[(idxs fs key)[k]] b).1) (cm : iJ vars (aF ps[m] fs[(idxs fs key)[k]] b).1 sk 18 w5) => Me vars E.hv (aF ps[m] fs[(idxs fs key)[k]] b).1 hok b.length (vV _ _ _) sk 18 w5 cm);have bv := Lib.hid (xg ps[m] fs[(idxs fs key)[k]] b);have bw : Hid (∀ w6, (aF ps[m] fs[(idxs fs key)[k]] b).2 = false → bV K sk wr w6 → iJ vars b sk 18 w6 → T true w6 (told ++ ts) → gW vars fs ps ns head K sk T go b left m (idxs fs key) told ts false true (k + 1) w w6) := Lib.hid fun w6 h1 h2 h3 h4 => hI.skip a9 ac a8 h1 h2 h3 h4
        have bz : Hid (∀ (U w5 w6 : World) (I y : Bool), (aF ps[m] fs[(idxs fs key)[k]] b).2 = true → jk vars fs ps ns head K sk T go (aF ps[m] fs[(idxs fs key)[k]] b).1 (left - 2 ^ m) (told ++ ts) I y U w5 → bV K sk wr U → bV K sk w5 w6 → iJ vars b sk 18 w6 → (∀ b3, T y w5 b3 → T y w6 b3) → ∃ af, gW vars fs ps ns head K sk T go b left m (idxs fs key) told af (false || I) y (k + 1) w w6) :=
          Lib.hid fun U w5 w6 I y h1 h2 h3 h4 h5 h6 => hI.took hl cd a9 ac aa.gr a8 HC.out.bit h1 h2 h3 h4 h5 h6
        have aM : Hid (∀ U : World, (aF ps[m] fs[(idxs fs key)[k]] b).2 = true → bV K sk wr U → iJ vars (aF ps[m] fs[(idxs fs key)[k]] b).1 sk 18 U → jT vars (aF ps[m] fs[(idxs fs key)[k]] b).1 → T true U (told ++ ts) →
            Calls Tryz.prog 179 #[.pointer (some ⟨sk, 0, none⟩), .int .i64 ((left - 2 ^ m : Nat) : Int)] U (uI vars fs ps ns head K sk T go (aF ps[m] fs[(idxs fs key)[k]] b).1 (left - 2 ^ m) (told ++ ts) U)) :=
          Lib.hid fun U h1 h2 h3 h4 h5 => cz.out (left - 2 ^ m) (PS left m hl (by omega) HC.out.bit) _ _ _ (S1.kept h2 h3 h4 cl.out) (fun j hj bA => by
            by_cases e : j = m
            · subst e; exact (nD aa.gr h1).1
            · rw [yR left m j hl (by omega) (by omega) HC.out.bit] at bA
              have : left.testBit j = false := by simpa [e] using bA
              exact (oD _ _ _).Yk (cx.out j hj this)) h5
        have s0 := S1.sea.st;have s1 := S1.sea.p1;have bB : wr.cell? ⟨sk, 42, none⟩ = some (.int .i64 b.length) := S1.at_.ct;have ag : wr.cell? ⟨sb, 0, none⟩ = some (.slice (some ⟨b7, o7, none⟩) fs.length cf) := ai g1;have cJ : (0 : Int) ≤ (m : Int) := by omega
        have cK : (m : Int) < (ps.length : Int) := by omega
        have cL : (0 : Int) ≤ (((idxs fs key)[k] : Nat) : Int) := by omega
        have cP : (((idxs fs key)[k] : Nat) : Int) < (fs.length : Int) := by omega
        have cQ := GH left m hl (by omega) HC.out.bit;have bE : ∀ x ∈ bp, x < wr.heap.size ∧ x ≠ sk := fun x hx => ⟨(dW vars).lt S1.pps x hx, hK x (S1.kbp x hx)⟩
        have b4 : ∀ x ∈ bs, x < wr.heap.size ∧ x ≠ sk := fun x hx => ⟨S1.sN.lt x hx, hK x (S1.kbs x hx)⟩
        have n1 := bE bq bj;have n2 := b4 b7 (b1 b7 bt);have n3 := b4 sb S1.sN.own;have HN := Lib.hid (And.intro n1 (And.intro n2 (And.intro n3 S1.sea.lt)));clear bE b4 n1 n2 n3;have bL := Lib.hid hI.st;have cT := Lib.hid J.out.sea.lt;have aw := Lib.hid S1.sea.lt;clear hI S1 g1 g2 b1 aL ae bu ck bo bj bt;generalize (idxs fs key)[k] = j at *;generalize fs[j] = f at *;generalize ps[m] = p at *;obtain ⟨pn, a1⟩ := p;obtain ⟨fn, a2⟩ := f;dsimp only at *;clear a9 ac a8 aa
        have az : Hid (∀ U : World, dG sk 18 wr.drew U → U.cell? ⟨sk, 0, none⟩ = some (.pointer (some ⟨sb, 0, none⟩)) ∧ U.cell? ⟨sk, 1, none⟩ = some (.slice (some ⟨bq, oq, none⟩) ps.length cp) ∧ U.cell? ⟨bq, oq + m * 2, none⟩ = some (.string pn) ∧ U.cell? ⟨bq, oq + m * 2 + 1, none⟩ = some (.slice Ae a1.length ce) ∧ U.cell? ⟨sb, 0, none⟩ = some (.slice (some ⟨b7, o7, none⟩) fs.length cf) ∧ U.cell? ⟨b7, o7 + j * 2, none⟩ = some (.string fn) ∧ U.cell? ⟨b7, o7 + j * 2 + 1, none⟩ = some (.slice Ag a2.length cg)) := Lib.hid fun U co => by
          have h4 : dG sk 18 wr U := (dG.of_below ((Below.refl wr.heap.size wr).drew) HN.out.2.2.2).trans co
          exact ⟨(h4.rest _ (by omega)).trans s0, (h4.rest _ (by omega)).trans s1, (World.cell?_of_block (h4.block (b := bq) HN.out.1.1 HN.out.1.2)).trans f0, (World.cell?_of_block (h4.block (b := bq) HN.out.1.1 HN.out.1.2)).trans f1,
            (World.cell?_of_block (h4.block (b := sb) HN.out.2.2.1.1 HN.out.2.2.1.2)).trans ag, (World.cell?_of_block (h4.block (b := b7) HN.out.2.1.1 HN.out.2.1.2)).trans d0, (World.cell?_of_block (h4.block (b := b7) HN.out.2.1.1 HN.out.2.1.2)).trans d1⟩
        generalize hM : aF ⟨pn, a1⟩ ⟨fn, a2⟩ b = M at *;obtain ⟨b', r⟩ := M;dsimp only at *;clear hM;cases r
        · go_wp2
          go_region_held3 (fun w' => w'.cell? ⟨sk, 0, none⟩ = some (.pointer (some ⟨sb, 0, none⟩)) ∧ w'.cell? ⟨sk, 1, none⟩ = some (.slice (some ⟨bq, oq, none⟩) ps.length cp) ∧ w'.cell? ⟨bq, oq + m * 2, none⟩ = some (.string pn) ∧ w'.cell? ⟨bq, oq + m * 2 + 1, none⟩ = some (.slice Ae a1.length ce) ∧ w'.cell? ⟨sb, 0, none⟩ = some (.slice (some ⟨b7, o7, none⟩) fs.length cf) ∧ w'.cell? ⟨b7, o7 + j * 2, none⟩ = some (.string fn) ∧ w'.cell? ⟨b7, o7 + j * 2 + 1, none⟩ = some (.slice Ag a2.length cg))
            (first | exact ⟨s0, s1, f0, f1, ag, d0, d1⟩ | exact am)
            (first | (go_at_call 154; refine a0.mono ?_; rintro e U ⟨rfl, a3⟩; have am := az.out U a3.kept))
          all_goals
            have a5 := Lib.hid a3;have ab := b2.out U a3.ok a3.at_;clear a3 am az;have aD := Lib.hid ((bV.of_below (K := K) aw.out ((Below.refl wr.heap.size wr).drew)).trans (bV.BK hK a5.out.kept));have b5 := Lib.hid (a7.out.keep _ _ _ (a7.out.keep wr wr.drew _ bL.out (dG.of_below ((Below.refl wr.heap.size wr).drew) aw.out)) a5.out.kept);clear s0 s1 bB ag f0 f1 d0 d1 a0
            go_wp2_with fail
            refine ab.mono ?_;rintro e w6 ⟨rfl, a6⟩;rw [bv.out] at a6;have ao := Lib.hid (bw.out w6 (by trivial) (aD.out.trans (bV.BK hK a6.kept)) a6.at_ (a7.out.keep _ _ _ b5.out a6.kept));clear a6 ab;go_wp2;go_roundw
            case rel => exact ⟨k + 1, ts, av.out, by go_num, rfl, ao.out⟩
            case measure => have := av.out; simp [intOf]; omega
        · go_wp2
          go_region_held3 (fun w' => w'.cell? ⟨sk, 0, none⟩ = some (.pointer (some ⟨sb, 0, none⟩)) ∧ w'.cell? ⟨sk, 1, none⟩ = some (.slice (some ⟨bq, oq, none⟩) ps.length cp) ∧ w'.cell? ⟨bq, oq + m * 2, none⟩ = some (.string pn) ∧ w'.cell? ⟨bq, oq + m * 2 + 1, none⟩ = some (.slice Ae a1.length ce) ∧ w'.cell? ⟨sb, 0, none⟩ = some (.slice (some ⟨b7, o7, none⟩) fs.length cf) ∧ w'.cell? ⟨b7, o7 + j * 2, none⟩ = some (.string fn) ∧ w'.cell? ⟨b7, o7 + j * 2 + 1, none⟩ = some (.slice Ag a2.length cg))
            (first | exact ⟨s0, s1, f0, f1, ag, d0, d1⟩ | exact am)
            (first | (go_at_call 154; refine a0.mono ?_; rintro e U ⟨rfl, a3⟩; have am := az.out U a3.kept))
          all_goals
            have a5 := Lib.hid a3;clear a3 am az;have aD := Lib.hid ((bV.of_below (K := K) aw.out ((Below.refl wr.heap.size wr).drew)).trans (bV.BK hK a5.out.kept));have b5 := Lib.hid (a7.out.keep _ _ _ (a7.out.keep wr wr.drew _ bL.out (dG.of_below ((Below.refl wr.heap.size wr).drew) aw.out)) a5.out.kept);have aR := aM.out U (by trivial) aD.out a5.out.at_ a5.out.ok b5.out;clear s0 s1 bB ag f0 f1 d0 d1 a0
            go_wp2_with fail
            refine aR.mono ?_;rintro e w5 ⟨I, y, rfl, b6⟩;have ab := b2.out w5 a5.out.ok (jk.bd b6);have bO := Lib.hid b6;clear aR b6;have cq : Hid (∀ w6, jW vars sk 18 w5 b w6 → ∃ af, gW vars fs ps ns head K sk T go b left m (idxs fs key) told af (false || I) y (k + 1) w w6) := Lib.hid fun w6 h6 => bz.out U w5 w6 I y (by trivial) bO.out aD.out (bV.BK hK h6.kept) h6.at_ fun b3 cv => a7.out.keep _ _ _ cv h6.kept
            rw [bv.out] at ab;clear bz aM b2 bw bO
            cases I <;> cases y
            all_goals
              go_wp2_with fail
              refine ab.mono ?_;rintro e w6 ⟨rfl, a6⟩;obtain ⟨af, bR⟩ := cq.out w6 a6;have ao := Lib.hid bR;clear a6 ab bR;go_wp2
              first
                | (go_ret2; exact ao.out.off.ret)
                | (go_roundw
                   case rel => exact ⟨k + 1, af, av.out, by go_num, rfl, ao.out⟩
                   case measure => have := av.out; simp [intOf]; omega)
                | (go_ret2; exact (ao.out.brk cA.out).ret)
      · have he : ¬ (k : Int) < ((idxs fs key).length : Int) := by omega
        have HF := Lib.hid (hI.fin E HC.out rfl (by omega));clear hI;go_wp2;go_ret2;exact HF.out.ret
end
end Go.Proofs.YtkjinanbccloeaaGreatDoor
