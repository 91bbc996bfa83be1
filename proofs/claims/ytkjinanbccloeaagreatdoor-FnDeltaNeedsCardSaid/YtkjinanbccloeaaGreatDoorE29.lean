/- Of the proof of FnDeltaNeeds: RunI, SetP, AllI, RndP, SetQ, FolG, AllQ, RndI, SFn, RouP, SrtP. -/
import Derived.Test.YtkjinanbccloeaaGreatDoorE28
set_option linter.unusedVariables false
set_option maxHeartbeats 8000000
set_option maxRecDepth 100000
namespace Go.Proofs.YtkjinanbccloeaaGreatDoor
section
open Go.RowKit D
attribute [local go_sem ↓] Go.wp_at_zero Go.wp_at_succ
section
variable (vars:List ByteArray) (fs:List A) (rn:List Nat) (bs:List Nat) (ps ns:List A) (head:A) (sk sb:Nat) (Ap:Option Addr) (cp:Nat) (An:Option Addr) (cn:Nat) (bp bn:List Nat) (wt:Nat→Bool) (ah:Int) (c5 c7:Addr) (K:Nat→Prop) (T:Bool→World→List A→Prop) (go:List A→Bool)
theorem run_stop (E:tq vars fs ps ns head wt) (hK:∀ k,K k→k ≠ sk) (hT:xW vars head sk K c5 c7 T go) (left:Nat) (b:Bd) (told:List A) (w:World)
  (S:qW vars fs rn bs ps ns sk sb (.slice Ap ps.length cp) (.slice An ns.length cn) bp bn wt ah (.func (.func 116) #[] #[.pointer (some c5),.pointer (some c7)]) K b w)
  (a0:T true w told) (hS:setB vars b wt=true) (hH:zq fs ns b=true):
  Calls Tryz.prog 179 #[.pointer (some ⟨sk,0,none⟩),.int .i64 left] w (vz vars fs ps ns head K sk T go b left told w):=by
 have I:=(vw E.hv S.ok E.want E.hin E.nin).1 hS;have J:=uZ vars b sk sb _ _ wt false ah _ w S.sea S.at_;rw [hS] at J;have U:=fun w1 (y:Below w.heap.size w w1)=>sV vars E.hv b S.ok fs rn bs ns An cn bn sk sb _ wt false ah _ w1 (S.below y).sea (S.below y).at_ (S.below y).uh (S.below y).pns E.nin (fun n hn=>(vZ (E.nok n hn) S.wds (I.2 n hn)).ok) E.nl
 rw [hH] at U
 have a1:Hid (∀ w2,Below w.heap.size w w2→jr vars fs ps ns head K sk T go b left told false true w w2):=η fun w2 hb=>⟨[],bW.of_below S.sea.lt hb,S.at_.keep (hb.block _ S.sea.lt),
  by rw [List.append_nil]; exact hT.keep _ _ _ a0 (dK.of_below hb S.sea.lt),fun t ht=>by simp at ht,fun _ σ hσ=>absurd hσ (VX E S.wds I.2 hH σ),fun h=>by simp at h,fun h=>by simp at h⟩
 have a2:=η U;clear U S I a0 hT
 go_enter Tryz.func179,Tryz.ntmps179
 go_wp2_with fail
 refine J.mono ?_;rintro e w1 ⟨rfl,y⟩;have hh:=a2.out w1 y
 go_wp2_with fail
 refine hh.mono ?_;rintro e w2 ⟨rfl,a3⟩;have HD:=η (a1.out w2 (y.trans (a3.mono y.size)));clear J hh y a3 a1 a2;go_wp2;go_ret2;exact HD.out.ret
theorem Wh (E:tq vars fs ps ns head wt) (hK:∀ k,K k→k ≠ sk) (hT:xW vars head sk K c5 c7 T go) (b:Bd) (told:List A) (w:World)
  (S:qW vars fs rn bs ps ns sk sb (.slice Ap ps.length cp) (.slice An ns.length cn) bp bn wt ah (.func (.func 116) #[] #[.pointer (some c5),.pointer (some c7)]) K b w)
  (a0:∀ p ∈ ps,yO b p.args) (a1:T true w told) (hH:zq fs ns b=false):
  Calls Tryz.prog 179 #[.pointer (some ⟨sk,0,none⟩),.int .i64 ((0:Nat):Int)] w (vz vars fs ps ns head K sk T go b 0 told w):=by
 have hcv:=E.tight b a0;have hS:=(vw E.hv S.ok E.want E.hin E.nin).2 hcv;have I:=uZ vars b sk sb _ _ wt false ah _ w S.sea S.at_;rw [hS] at I;have J:=fun w1 (y:Below w.heap.size w w1)=>sV vars E.hv b S.ok fs rn bs ns An cn bn sk sb _ wt false ah _ w1 (S.below y).sea (S.below y).at_ (S.below y).uh (S.below y).pns E.nin (fun n hn=>(vZ (E.nok n hn) S.wds (hcv.2 n hn)).ok) E.nl
 rw [hH] at J;have a2:=fun w2 (hb:Below w.heap.size w w2)=>hT.call w2.drew b told S.ok S.wds hcv.1 (S.at_.keep ((hb.block _ S.sea.lt))) (hT.keep _ _ _ a1 (dK.of_below hb.drew S.sea.lt))
 have a3:Hid (∀ w2 w3:World,Below w.heap.size w w2→T (go (told ++ [cO head b])) w3 (told ++ [cO head b])→bW K sk w2.drew w3→w3.heap[sk]? = w2.drew.heap[sk]?→jr vars fs ps ns head K sk T go b 0 told true (go (told ++ [cO head b])) w w3):=η fun w2 w3 hb h1 h2 h3=>
  ⟨[cO head b],(bW.of_below S.sea.lt hb.drew).trans h2,(S.at_.keep (hb.block _ S.sea.lt)).keep h3,h1,fun t ht=>by
   rw [ώ.1 ht]
   exact ⟨jB b,⟨Jv b,fun j _ hj=>by simp at hj,fun n hn=>by rw [← yP]; exact VY E S.wds hcv.2 hH n hn⟩,(yP _ _).symm⟩,
   fun _ σ hσ=>by rw [← kR hcv.1 hσ.1]; exact List.mem_singleton_self _,fun _=>by simp,fun h=>h⟩
 have a4:=η J;have a5:=η a2;have U:=η S.sea;clear J a2 S hcv a1 hT a0
 go_enter Tryz.func179,Tryz.ntmps179
 go_wp2_with fail
 refine I.mono ?_;rintro e w1 ⟨rfl,y⟩;have hh:=a4.out w1 y
 go_wp2_with fail
 refine hh.mono ?_;rintro e w2 ⟨rfl,a6⟩;have HB:=η (y.trans (a6.mono y.size));have a7:=η (a5.out w2 HB.out);have s0:=(U.out.keep (HB.out.block _ U.out.lt)).tl;clear I hh y a6 a4 a5;go_wp2
 go_region_law
  (first
   | (go_simp; go_at_call 116; refine a7.out.mono ?_; rintro e w3 ⟨rfl,a8,a9,aa⟩; have HD:=η (a3.out w2 w3 HB.out a8 a9 aa); clear a8 a9 aa))
 all_goals
  clear s0 a7 a3 U;go_wp2;go_ret2;exact HD.out.ret
theorem N9 (E : tq vars fs ps ns head wt) (hK : ∀ k, K k → k ≠ sk) (hT : xW vars head sk K c5 c7 T go) (left : Nat) (c3 : left < 2 ^ ps.length) (cD : left ≠ 0)
    (IH : ∀ aq, aq < left → ∀ (b : Bd) (told : List A) (w : World), qW vars fs rn bs ps ns sk sb (.slice Ap ps.length cp) (.slice An ns.length cn) bp bn wt ah (.func (.func 116) #[] #[.pointer (some c5), .pointer (some c7)]) K b w →
      (∀ j (h : j < ps.length), aq.testBit j = false → yO b ps[j].args) → T true w told → Calls Tryz.prog 179 #[.pointer (some ⟨sk, 0, none⟩), .int .i64 aq] w (vz vars fs ps ns head K sk T go b aq told w))
    (b : Bd) (told : List A) (w : World)
    (S : qW vars fs rn bs ps ns sk sb (.slice Ap ps.length cp) (.slice An ns.length cn) bp bn wt ah (.func (.func 116) #[] #[.pointer (some c5), .pointer (some c7)]) K b w)
    (c4 : ∀ j (h : j < ps.length), left.testBit j = false → yO b ps[j].args) (cw : T true w told) (hH : setB vars b wt = true → zq fs ns b = false) :
    Calls Tryz.prog 179 #[.pointer (some ⟨sk, 0, none⟩), .int .i64 left] w (vz vars fs ps ns head K sk T go b left told w) := by
  have hl : left < 16 := Nat.lt_of_lt_of_le c3 (Nat.pow_le_pow_right (by omega) E.p4 : 2 ^ ps.length ≤ 2 ^ 4);have c6 := uZ vars b sk sb _ _ wt false ah _ w S.sea S.at_;have c8 := fun w1 (a4 : Below w.heap.size w w1) => PW vars E.hv b fs rn bs ps Ap cp bp sk sb _ wt ah _ left w1 (S.below a4).sea (S.below a4).at_ (S.below a4).uh (S.below a4).pps E.pin (fun p hp => by have := oM (E.pok p hp); omega) E.p4 hl E.fl (VU left ps.length c3 E.p4 cD)
  have ca := fun (hs : setB vars b wt = true) w1 (a4 : Below w.heap.size w w1) => sV vars E.hv b S.ok fs rn bs ns An cn bn sk sb _ wt false ah _ w1 (S.below a4).sea (S.below a4).at_ (S.below a4).uh (S.below a4).pns E.nin (fun n hn => (vZ (E.nok n hn) S.wds (((vw E.hv S.ok E.want E.hin E.nin).1 hs).2 n hn)).ok) E.nl
  have cb := Lib.hid ca;have bX := Lib.hid c8;have J := Lib.hid S;have cx := Lib.hid c4;have cy := Lib.hid cw;have cz := Lib.hid IH;have a7 := Lib.hid hT;have cc := Lib.hid hH;have cU : ¬ (left : Int) = 0 := by omega
  clear ca c8 S c4 cw IH hT hH;generalize hsb : setB vars b wt = s at *;have cE := Lib.hid hsb
  go_enter Tryz.func179, Tryz.ntmps179
  go_wp2_with fail
  refine c6.mono ?_;rintro e w1 ⟨rfl, a4⟩;clear c6 hsb;cases s
  · have aE := Lib.hid a4
    have b9 := bX.out w1 a4;clear a4;clear bX cb cc
    go_wp2_with fail
    refine b9.mono ?_;rintro e w3 ⟨m, A9, c9, key, bx, rfl, hC, bc⟩;have ar := Lib.hid (aE.out.trans (bc.mono aE.out.size));have HC := Lib.hid hC;have bh : Hid (jT w [.slice A9 (idxs fs key).length c9] (idxs fs key) bx) := Lib.hid (dS.keep hC.row fun x hx => (ar.out.block x (J.out.uh.lt x (hC.sub x hx))).symm);have hlen : (idxs fs key).length ≤ 1000000 := Nat.le_trans (nX _ _) E.fl;have a8 := hC.lt;have cd := E.p4
    have bi : Hid (iq vars fs ps ns head K sk T go b left m (idxs fs key) told [] false true 0 w w3) := Lib.hid ⟨bW.of_below J.out.sea.lt ar.out, J.out.at_.keep (ar.out.block _ J.out.sea.lt),
      by rw [List.append_nil]; exact a7.out.keep _ _ _ cy.out (dK.of_below ar.out J.out.sea.lt), fun t ht => by simp at ht, fun _ i hi => absurd hi (by omega), fun h => absurd h (by decide), fun h => absurd h (by decide)⟩
    clear b9 hC bc aE;go_wp2
    go_loopw [9, 40] (fun held i wr => ∃ (k : Nat) (ts : List A) (hd : Bool), k ≤ (idxs fs key).length ∧ i = .int .i64 k ∧ held = .bool hd ∧ iq vars fs ps ns head K sk T go b left m (idxs fs key) told ts hd true k w wr) (fun _ i _ => (idxs fs key).length - (intOf i).toNat)
    case atStart => exact ⟨0, [], false, Nat.zero_le _, rfl, rfl, bi.out⟩
    case round =>
      obtain ⟨k, ts, hd, hk, rfl, rfl, hI⟩ := hrel;clear bi;by_cases a9 : k < (idxs fs key).length
      · obtain ⟨b8, o8, rfl, ci, e0⟩ := qP (hI.kept.keep dS bh.out fun x hx => J.out.kbs x (HC.out.sub x hx)) a9
        obtain ⟨ac, _⟩ := FB.1 (List.getElem_mem a9);have cj := (J.out.sea.run hI.kept).io;have cG : (0 : Int) ≤ (k : Int) := by omega
        have cI : (k : Int) < ((idxs fs key).length : Int) := by omega
        have HI := Lib.hid hI;have av := Lib.hid a9;clear hI hk ci;go_wp2
        go_quiet (fail)
        have hI : iq vars fs ps ns head K sk T go b left m (idxs fs key) told ts hd true k w (wr.drewN nq) := HI.out.drewN a7.out J.out.sea.lt;clear HI cj e0;generalize wr.drewN nq = wr at *;have S1 := J.out.kept hI.kept hI.at_ J.out.ok J.out.wds;obtain ⟨⟨Af, cf, Ar, cr, mu, mp, bf, br, Lu, Lp, g1, g2, _, _, _, _, _, _, _, _, b1, _⟩, _, _⟩ := S1.uh;obtain ⟨bq, oq, Ae, ce, bk, rfl, bj, f0, f1, ⟨vv, bl, ck, bo⟩, aL⟩ := yR S1.pps a8;simp only [List.cons.injEq, and_true, true_and] at bl;subst bl;obtain ⟨b7, o7, Ag, cg, bg, rfl, bt, d0, d1, bu, ae⟩ := dL g2 ac;have aa := E.fok _ (List.getElem_mem ac)
        have a0 := FN vars E.hv b J.out.ok ps[m] fs[(idxs fs key)[k]] Ae Ag ce cg bk bg sk 18 wr.drew (S1.at_.keep rfl) ((dw vars).keep bo fun _ _ => rfl) (aQ.keep (dM bu) fun _ _ => rfl) (E.pin _ (List.getElem_mem a8)) (IK (E.pok _ (List.getElem_mem a8)))
          (fun t ht => ⟨(aa.names t ht).1, vk (aa.names t ht).2⟩) (fun h => hK _ (S1.kbp _ (aL _ h)) rfl) (fun h => hK _ (S1.kbs _ (b1 _ (ae _ h))) rfl) (by have := oM (E.pok _ (List.getElem_mem a8)); omega)
        have cl := Lib.hid (FV (a := ps[m]) J.out.wds fun t ht => (aa.names t ht).2);have b2 := Lib.hid (fun (w5 : World) (hok : jZ vars (aG ps[m] fs[(idxs fs key)[k]] b).1) (cm : iM vars (aG ps[m] fs[(idxs fs key)[k]] b).1 sk 18 w5) => ND vars E.hv (aG ps[m] fs[(idxs fs key)[k]] b).1 hok b.length (wP _ _ _) sk 18 w5 cm);have bv := Lib.hid (xU ps[m] fs[(idxs fs key)[k]] b);have bw : Hid (∀ w6, (aG ps[m] fs[(idxs fs key)[k]] b).2 = false → bW K sk wr w6 → iM vars b sk 18 w6 → T true w6 (told ++ ts) → iq vars fs ps ns head K sk T go b left m (idxs fs key) told ts hd true (k + 1) w w6) := Lib.hid fun w6 h1 h2 h3 h4 => hI.skip a9 ac a8 h1 h2 h3 h4
        have bz : Hid (∀ (U w5 w6 : World) (I y : Bool), (aG ps[m] fs[(idxs fs key)[k]] b).2 = true → jr vars fs ps ns head K sk T go (aG ps[m] fs[(idxs fs key)[k]] b).1 (left - 2 ^ m) (told ++ ts) I y U w5 → bW K sk wr U → bW K sk w5 w6 → iM vars b sk 18 w6 → (∀ b3, T y w5 b3 → T y w6 b3) → ∃ af, iq vars fs ps ns head K sk T go b left m (idxs fs key) told af (hd || I) y (k + 1) w w6) :=
          Lib.hid fun U w5 w6 I y h1 h2 h3 h4 h5 h6 => hI.took hl cd a9 ac aa.gr a8 HC.out.bit h1 h2 h3 h4 h5 h6
        have aM : Hid (∀ U : World, (aG ps[m] fs[(idxs fs key)[k]] b).2 = true → bW K sk wr U → iM vars (aG ps[m] fs[(idxs fs key)[k]] b).1 sk 18 U → jZ vars (aG ps[m] fs[(idxs fs key)[k]] b).1 → T true U (told ++ ts) →
            Calls Tryz.prog 179 #[.pointer (some ⟨sk, 0, none⟩), .int .i64 ((left - 2 ^ m : Nat) : Int)] U (vz vars fs ps ns head K sk T go (aG ps[m] fs[(idxs fs key)[k]] b).1 (left - 2 ^ m) (told ++ ts) U)) :=
          Lib.hid fun U h1 h2 h3 h4 h5 => cz.out (left - 2 ^ m) (QD left m hl (by omega) HC.out.bit) _ _ _ (S1.kept h2 h3 h4 cl.out) (fun j hj bA => by
            by_cases e : j = m
            · subst e; exact (nS aa.gr h1).1
            · rw [zA left m j hl (by omega) (by omega) HC.out.bit] at bA
              have : left.testBit j = false := by simpa [e] using bA
              exact (oQ _ _ _).Y6 (cx.out j hj this)) h5
        have s0 := S1.sea.st;have s1 := S1.sea.p1;have bB : wr.cell? ⟨sk, 42, none⟩ = some (.int .i64 b.length) := S1.at_.ct;have ag : wr.cell? ⟨sb, 0, none⟩ = some (.slice (some ⟨b7, o7, none⟩) fs.length cf) := ai g1;have cJ : (0 : Int) ≤ (m : Int) := by omega
        have cK : (m : Int) < (ps.length : Int) := by omega
        have cL : (0 : Int) ≤ (((idxs fs key)[k] : Nat) : Int) := by omega
        have cP : (((idxs fs key)[k] : Nat) : Int) < (fs.length : Int) := by omega
        have cQ := IJ left m hl (by omega) HC.out.bit;have bE : ∀ x ∈ bp, x < wr.heap.size ∧ x ≠ sk := fun x hx => ⟨(dX vars).lt S1.pps x hx, hK x (S1.kbp x hx)⟩
        have b4 : ∀ x ∈ bs, x < wr.heap.size ∧ x ≠ sk := fun x hx => ⟨S1.uh.lt x hx, hK x (S1.kbs x hx)⟩
        have n1 := bE bq bj;have n2 := b4 b7 (b1 b7 bt);have n3 := b4 sb S1.uh.own;have HN := Lib.hid (And.intro n1 (And.intro n2 (And.intro n3 S1.sea.lt)));clear bE b4 n1 n2 n3;have bL := Lib.hid hI.st;have cT := Lib.hid J.out.sea.lt;have aw := Lib.hid S1.sea.lt;clear hI S1 g1 g2 b1 aL ae bu ck bo bj bt;generalize (idxs fs key)[k] = j at *;generalize fs[j] = f at *;generalize ps[m] = p at *;obtain ⟨pn, a1⟩ := p;obtain ⟨fn, a2⟩ := f;dsimp only at *;clear a9 ac a8 aa
        have az : Hid (∀ U : World, dK sk 18 wr.drew U → U.cell? ⟨sk, 0, none⟩ = some (.pointer (some ⟨sb, 0, none⟩)) ∧ U.cell? ⟨sk, 1, none⟩ = some (.slice (some ⟨bq, oq, none⟩) ps.length cp) ∧ U.cell? ⟨bq, oq + m * 2, none⟩ = some (.string pn) ∧ U.cell? ⟨bq, oq + m * 2 + 1, none⟩ = some (.slice Ae a1.length ce) ∧ U.cell? ⟨sb, 0, none⟩ = some (.slice (some ⟨b7, o7, none⟩) fs.length cf) ∧ U.cell? ⟨b7, o7 + j * 2, none⟩ = some (.string fn) ∧ U.cell? ⟨b7, o7 + j * 2 + 1, none⟩ = some (.slice Ag a2.length cg)) := Lib.hid fun U co => by
          have h4 : dK sk 18 wr U := (dK.of_below ((Below.refl wr.heap.size wr).drew) HN.out.2.2.2).trans co
          exact ⟨(h4.rest _ (by omega)).trans s0, (h4.rest _ (by omega)).trans s1, (World.cell?_of_block (h4.block (b := bq) HN.out.1.1 HN.out.1.2)).trans f0, (World.cell?_of_block (h4.block (b := bq) HN.out.1.1 HN.out.1.2)).trans f1,
            (World.cell?_of_block (h4.block (b := sb) HN.out.2.2.1.1 HN.out.2.2.1.2)).trans ag, (World.cell?_of_block (h4.block (b := b7) HN.out.2.1.1 HN.out.2.1.2)).trans d0, (World.cell?_of_block (h4.block (b := b7) HN.out.2.1.1 HN.out.2.1.2)).trans d1⟩
        generalize hM : aG ⟨pn, a1⟩ ⟨fn, a2⟩ b = M at *;obtain ⟨b', r⟩ := M;dsimp only at *;clear hM;cases r
        · go_wp2
          go_region_held3 (fun w' => w'.cell? ⟨sk, 0, none⟩ = some (.pointer (some ⟨sb, 0, none⟩)) ∧ w'.cell? ⟨sk, 1, none⟩ = some (.slice (some ⟨bq, oq, none⟩) ps.length cp) ∧ w'.cell? ⟨bq, oq + m * 2, none⟩ = some (.string pn) ∧ w'.cell? ⟨bq, oq + m * 2 + 1, none⟩ = some (.slice Ae a1.length ce) ∧ w'.cell? ⟨sb, 0, none⟩ = some (.slice (some ⟨b7, o7, none⟩) fs.length cf) ∧ w'.cell? ⟨b7, o7 + j * 2, none⟩ = some (.string fn) ∧ w'.cell? ⟨b7, o7 + j * 2 + 1, none⟩ = some (.slice Ag a2.length cg))
            (first | exact ⟨s0, s1, f0, f1, ag, d0, d1⟩ | exact am)
            (first | (go_at_call 154; refine a0.mono ?_; rintro e U ⟨rfl, a3⟩; have am := az.out U a3.kept))
          all_goals
            have a5 := Lib.hid a3;have ab := b2.out U a3.ok a3.at_;clear a3 am az;have aD := Lib.hid ((bW.of_below (K := K) aw.out ((Below.refl wr.heap.size wr).drew)).trans (bW.Dt hK a5.out.kept));have b5 := Lib.hid (a7.out.keep _ _ _ (a7.out.keep wr wr.drew _ bL.out (dK.of_below ((Below.refl wr.heap.size wr).drew) aw.out)) a5.out.kept);clear s0 s1 bB ag f0 f1 d0 d1 a0
            go_wp2_with fail
            refine ab.mono ?_;rintro e w6 ⟨rfl, a6⟩;rw [bv.out] at a6;have ao := Lib.hid (bw.out w6 (by trivial) (aD.out.trans (bW.Dt hK a6.kept)) a6.at_ (a7.out.keep _ _ _ b5.out a6.kept));clear a6 ab;cases hd
            all_goals
              go_wp2;go_roundw
              case rel => exact ⟨k + 1, ts, _, av.out, by go_num, rfl, ao.out⟩
              case measure => have := av.out; simp [intOf]; omega
        · go_wp2
          go_region_held3 (fun w' => w'.cell? ⟨sk, 0, none⟩ = some (.pointer (some ⟨sb, 0, none⟩)) ∧ w'.cell? ⟨sk, 1, none⟩ = some (.slice (some ⟨bq, oq, none⟩) ps.length cp) ∧ w'.cell? ⟨bq, oq + m * 2, none⟩ = some (.string pn) ∧ w'.cell? ⟨bq, oq + m * 2 + 1, none⟩ = some (.slice Ae a1.length ce) ∧ w'.cell? ⟨sb, 0, none⟩ = some (.slice (some ⟨b7, o7, none⟩) fs.length cf) ∧ w'.cell? ⟨b7, o7 + j * 2, none⟩ = some (.string fn) ∧ w'.cell? ⟨b7, o7 + j * 2 + 1, none⟩ = some (.slice Ag a2.length cg))
            (first | exact ⟨s0, s1, f0, f1, ag, d0, d1⟩ | exact am)
            (first | (go_at_call 154; refine a0.mono ?_; rintro e U ⟨rfl, a3⟩; have am := az.out U a3.kept))
          all_goals
            have a5 := Lib.hid a3;clear a3 am az;have aD := Lib.hid ((bW.of_below (K := K) aw.out ((Below.refl wr.heap.size wr).drew)).trans (bW.Dt hK a5.out.kept));have b5 := Lib.hid (a7.out.keep _ _ _ (a7.out.keep wr wr.drew _ bL.out (dK.of_below ((Below.refl wr.heap.size wr).drew) aw.out)) a5.out.kept);have aR := aM.out U (by trivial) aD.out a5.out.at_ a5.out.ok b5.out;clear s0 s1 bB ag f0 f1 d0 d1 a0
            go_wp2_with fail
            refine aR.mono ?_;rintro e w5 ⟨I, y, rfl, b6⟩;have ab := b2.out w5 a5.out.ok (jr.bd b6);have bO := Lib.hid b6;clear aR b6;have cq : Hid (∀ w6, kE vars sk 18 w5 b w6 → ∃ af, iq vars fs ps ns head K sk T go b left m (idxs fs key) told af (hd || I) y (k + 1) w w6) := Lib.hid fun w6 h6 => bz.out U w5 w6 I y (by trivial) bO.out aD.out (bW.Dt hK h6.kept) h6.at_ fun b3 cv => a7.out.keep _ _ _ cv h6.kept
            rw [bv.out] at ab;clear bz aM b2 bw bO
            cases hd <;> cases I <;> cases y
            all_goals
              go_wp2_with fail
              refine ab.mono ?_;rintro e w6 ⟨rfl, a6⟩;obtain ⟨af, bR⟩ := cq.out w6 a6;have ao := Lib.hid bR;clear a6 ab bR;go_wp2
              first
                | (go_ret2; exact ao.out.off.ret)
                | (go_roundw
                   case rel => exact ⟨k + 1, af, _, av.out, by go_num, rfl, ao.out⟩
                   case measure => have := av.out; simp [intOf]; omega)
      · have he : ¬ (k : Int) < ((idxs fs key).length : Int) := by omega
        have HF := Lib.hid (hI.fin E HC.out rfl (by omega));clear hI;go_wp2;go_ret2;exact HF.out.ret
  · have hh := cb.out rfl w1 a4
    rw [cc.out rfl] at hh;have cA := Lib.hid ((vw E.hv J.out.ok E.want E.hin E.nin).1 cE.out).1
    go_wp2_with fail
    refine hh.mono ?_;rintro e w2 ⟨rfl, cB⟩;have aE := Lib.hid (a4.trans (cB.mono a4.size));have b9 := bX.out w2 aE.out;clear a4 cB hh;clear bX cb cc
    go_wp2_with fail
    refine b9.mono ?_;rintro e w3 ⟨m, A9, c9, key, bx, rfl, hC, bc⟩;have ar := Lib.hid (aE.out.trans (bc.mono aE.out.size));have HC := Lib.hid hC;have bh : Hid (jT w [.slice A9 (idxs fs key).length c9] (idxs fs key) bx) := Lib.hid (dS.keep hC.row fun x hx => (ar.out.block x (J.out.uh.lt x (hC.sub x hx))).symm);have hlen : (idxs fs key).length ≤ 1000000 := Nat.le_trans (nX _ _) E.fl;have a8 := hC.lt;have cd := E.p4
    have bi : Hid (iq vars fs ps ns head K sk T go b left m (idxs fs key) told [] false true 0 w w3) := Lib.hid ⟨bW.of_below J.out.sea.lt ar.out, J.out.at_.keep (ar.out.block _ J.out.sea.lt),
      by rw [List.append_nil]; exact a7.out.keep _ _ _ cy.out (dK.of_below ar.out J.out.sea.lt), fun t ht => by simp at ht, fun _ i hi => absurd hi (by omega), fun h => absurd h (by decide), fun h => absurd h (by decide)⟩
    clear b9 hC bc aE;go_wp2
    go_loopw [9, 40] (fun held i wr => ∃ (k : Nat) (ts : List A), k ≤ (idxs fs key).length ∧ i = .int .i64 k ∧ held = .bool false ∧ iq vars fs ps ns head K sk T go b left m (idxs fs key) told ts false true k w wr) (fun _ i _ => (idxs fs key).length - (intOf i).toNat)
    case atStart => exact ⟨0, [], Nat.zero_le _, rfl, rfl, bi.out⟩
    case round =>
      obtain ⟨k, ts, hk, rfl, rfl, hI⟩ := hrel;clear bi;by_cases a9 : k < (idxs fs key).length
      · obtain ⟨b8, o8, rfl, ci, e0⟩ := qP (hI.kept.keep dS bh.out fun x hx => J.out.kbs x (HC.out.sub x hx)) a9
        obtain ⟨ac, _⟩ := FB.1 (List.getElem_mem a9);have cj := (J.out.sea.run hI.kept).io;have cG : (0 : Int) ≤ (k : Int) := by omega
        have cI : (k : Int) < ((idxs fs key).length : Int) := by omega
        have HI := Lib.hid hI;have av := Lib.hid a9;clear hI hk ci;go_wp2
        go_quiet (fail)
        have hI : iq vars fs ps ns head K sk T go b left m (idxs fs key) told ts false true k w (wr.drewN nq) := HI.out.drewN a7.out J.out.sea.lt;clear HI cj e0;generalize wr.drewN nq = wr at *;have S1 := J.out.kept hI.kept hI.at_ J.out.ok J.out.wds;obtain ⟨⟨Af, cf, Ar, cr, mu, mp, bf, br, Lu, Lp, g1, g2, _, _, _, _, _, _, _, _, b1, _⟩, _, _⟩ := S1.uh;obtain ⟨bq, oq, Ae, ce, bk, rfl, bj, f0, f1, ⟨vv, bl, ck, bo⟩, aL⟩ := yR S1.pps a8;simp only [List.cons.injEq, and_true, true_and] at bl;subst bl;obtain ⟨b7, o7, Ag, cg, bg, rfl, bt, d0, d1, bu, ae⟩ := dL g2 ac;have aa := E.fok _ (List.getElem_mem ac)
        have a0 := FN vars E.hv b J.out.ok ps[m] fs[(idxs fs key)[k]] Ae Ag ce cg bk bg sk 18 wr.drew (S1.at_.keep rfl) ((dw vars).keep bo fun _ _ => rfl) (aQ.keep (dM bu) fun _ _ => rfl) (E.pin _ (List.getElem_mem a8)) (IK (E.pok _ (List.getElem_mem a8)))
          (fun t ht => ⟨(aa.names t ht).1, vk (aa.names t ht).2⟩) (fun h => hK _ (S1.kbp _ (aL _ h)) rfl) (fun h => hK _ (S1.kbs _ (b1 _ (ae _ h))) rfl) (by have := oM (E.pok _ (List.getElem_mem a8)); omega)
        have cl := Lib.hid (FV (a := ps[m]) J.out.wds fun t ht => (aa.names t ht).2);have b2 := Lib.hid (fun (w5 : World) (hok : jZ vars (aG ps[m] fs[(idxs fs key)[k]] b).1) (cm : iM vars (aG ps[m] fs[(idxs fs key)[k]] b).1 sk 18 w5) => ND vars E.hv (aG ps[m] fs[(idxs fs key)[k]] b).1 hok b.length (wP _ _ _) sk 18 w5 cm);have bv := Lib.hid (xU ps[m] fs[(idxs fs key)[k]] b);have bw : Hid (∀ w6, (aG ps[m] fs[(idxs fs key)[k]] b).2 = false → bW K sk wr w6 → iM vars b sk 18 w6 → T true w6 (told ++ ts) → iq vars fs ps ns head K sk T go b left m (idxs fs key) told ts false true (k + 1) w w6) := Lib.hid fun w6 h1 h2 h3 h4 => hI.skip a9 ac a8 h1 h2 h3 h4
        have bz : Hid (∀ (U w5 w6 : World) (I y : Bool), (aG ps[m] fs[(idxs fs key)[k]] b).2 = true → jr vars fs ps ns head K sk T go (aG ps[m] fs[(idxs fs key)[k]] b).1 (left - 2 ^ m) (told ++ ts) I y U w5 → bW K sk wr U → bW K sk w5 w6 → iM vars b sk 18 w6 → (∀ b3, T y w5 b3 → T y w6 b3) → ∃ af, iq vars fs ps ns head K sk T go b left m (idxs fs key) told af (false || I) y (k + 1) w w6) :=
          Lib.hid fun U w5 w6 I y h1 h2 h3 h4 h5 h6 => hI.took hl cd a9 ac aa.gr a8 HC.out.bit h1 h2 h3 h4 h5 h6
        have aM : Hid (∀ U : World, (aG ps[m] fs[(idxs fs key)[k]] b).2 = true → bW K sk wr U → iM vars (aG ps[m] fs[(idxs fs key)[k]] b).1 sk 18 U → jZ vars (aG ps[m] fs[(idxs fs key)[k]] b).1 → T true U (told ++ ts) →
            Calls Tryz.prog 179 #[.pointer (some ⟨sk, 0, none⟩), .int .i64 ((left - 2 ^ m : Nat) : Int)] U (vz vars fs ps ns head K sk T go (aG ps[m] fs[(idxs fs key)[k]] b).1 (left - 2 ^ m) (told ++ ts) U)) :=
          Lib.hid fun U h1 h2 h3 h4 h5 => cz.out (left - 2 ^ m) (QD left m hl (by omega) HC.out.bit) _ _ _ (S1.kept h2 h3 h4 cl.out) (fun j hj bA => by
            by_cases e : j = m
            · subst e; exact (nS aa.gr h1).1
            · rw [zA left m j hl (by omega) (by omega) HC.out.bit] at bA
              have : left.testBit j = false := by simpa [e] using bA
              exact (oQ _ _ _).Y6 (cx.out j hj this)) h5
        have s0 := S1.sea.st;have s1 := S1.sea.p1;have bB : wr.cell? ⟨sk, 42, none⟩ = some (.int .i64 b.length) := S1.at_.ct;have ag : wr.cell? ⟨sb, 0, none⟩ = some (.slice (some ⟨b7, o7, none⟩) fs.length cf) := ai g1;have cJ : (0 : Int) ≤ (m : Int) := by omega
        have cK : (m : Int) < (ps.length : Int) := by omega
        have cL : (0 : Int) ≤ (((idxs fs key)[k] : Nat) : Int) := by omega
        have cP : (((idxs fs key)[k] : Nat) : Int) < (fs.length : Int) := by omega
        have cQ := IJ left m hl (by omega) HC.out.bit;have bE : ∀ x ∈ bp, x < wr.heap.size ∧ x ≠ sk := fun x hx => ⟨(dX vars).lt S1.pps x hx, hK x (S1.kbp x hx)⟩
        have b4 : ∀ x ∈ bs, x < wr.heap.size ∧ x ≠ sk := fun x hx => ⟨S1.uh.lt x hx, hK x (S1.kbs x hx)⟩
        have n1 := bE bq bj;have n2 := b4 b7 (b1 b7 bt);have n3 := b4 sb S1.uh.own;have HN := Lib.hid (And.intro n1 (And.intro n2 (And.intro n3 S1.sea.lt)));clear bE b4 n1 n2 n3;have bL := Lib.hid hI.st;have cT := Lib.hid J.out.sea.lt;have aw := Lib.hid S1.sea.lt;clear hI S1 g1 g2 b1 aL ae bu ck bo bj bt;generalize (idxs fs key)[k] = j at *;generalize fs[j] = f at *;generalize ps[m] = p at *;obtain ⟨pn, a1⟩ := p;obtain ⟨fn, a2⟩ := f;dsimp only at *;clear a9 ac a8 aa
        have az : Hid (∀ U : World, dK sk 18 wr.drew U → U.cell? ⟨sk, 0, none⟩ = some (.pointer (some ⟨sb, 0, none⟩)) ∧ U.cell? ⟨sk, 1, none⟩ = some (.slice (some ⟨bq, oq, none⟩) ps.length cp) ∧ U.cell? ⟨bq, oq + m * 2, none⟩ = some (.string pn) ∧ U.cell? ⟨bq, oq + m * 2 + 1, none⟩ = some (.slice Ae a1.length ce) ∧ U.cell? ⟨sb, 0, none⟩ = some (.slice (some ⟨b7, o7, none⟩) fs.length cf) ∧ U.cell? ⟨b7, o7 + j * 2, none⟩ = some (.string fn) ∧ U.cell? ⟨b7, o7 + j * 2 + 1, none⟩ = some (.slice Ag a2.length cg)) := Lib.hid fun U co => by
          have h4 : dK sk 18 wr U := (dK.of_below ((Below.refl wr.heap.size wr).drew) HN.out.2.2.2).trans co
          exact ⟨(h4.rest _ (by omega)).trans s0, (h4.rest _ (by omega)).trans s1, (World.cell?_of_block (h4.block (b := bq) HN.out.1.1 HN.out.1.2)).trans f0, (World.cell?_of_block (h4.block (b := bq) HN.out.1.1 HN.out.1.2)).trans f1,
            (World.cell?_of_block (h4.block (b := sb) HN.out.2.2.1.1 HN.out.2.2.1.2)).trans ag, (World.cell?_of_block (h4.block (b := b7) HN.out.2.1.1 HN.out.2.1.2)).trans d0, (World.cell?_of_block (h4.block (b := b7) HN.out.2.1.1 HN.out.2.1.2)).trans d1⟩
        generalize hM : aG ⟨pn, a1⟩ ⟨fn, a2⟩ b = M at *;obtain ⟨b', r⟩ := M;dsimp only at *;clear hM;cases r
        · go_wp2
          go_region_held3 (fun w' => w'.cell? ⟨sk, 0, none⟩ = some (.pointer (some ⟨sb, 0, none⟩)) ∧ w'.cell? ⟨sk, 1, none⟩ = some (.slice (some ⟨bq, oq, none⟩) ps.length cp) ∧ w'.cell? ⟨bq, oq + m * 2, none⟩ = some (.string pn) ∧ w'.cell? ⟨bq, oq + m * 2 + 1, none⟩ = some (.slice Ae a1.length ce) ∧ w'.cell? ⟨sb, 0, none⟩ = some (.slice (some ⟨b7, o7, none⟩) fs.length cf) ∧ w'.cell? ⟨b7, o7 + j * 2, none⟩ = some (.string fn) ∧ w'.cell? ⟨b7, o7 + j * 2 + 1, none⟩ = some (.slice Ag a2.length cg))
            (first | exact ⟨s0, s1, f0, f1, ag, d0, d1⟩ | exact am)
            (first | (go_at_call 154; refine a0.mono ?_; rintro e U ⟨rfl, a3⟩; have am := az.out U a3.kept))
          all_goals
            have a5 := Lib.hid a3;have ab := b2.out U a3.ok a3.at_;clear a3 am az;have aD := Lib.hid ((bW.of_below (K := K) aw.out ((Below.refl wr.heap.size wr).drew)).trans (bW.Dt hK a5.out.kept));have b5 := Lib.hid (a7.out.keep _ _ _ (a7.out.keep wr wr.drew _ bL.out (dK.of_below ((Below.refl wr.heap.size wr).drew) aw.out)) a5.out.kept);clear s0 s1 bB ag f0 f1 d0 d1 a0
            go_wp2_with fail
            refine ab.mono ?_;rintro e w6 ⟨rfl, a6⟩;rw [bv.out] at a6;have ao := Lib.hid (bw.out w6 (by trivial) (aD.out.trans (bW.Dt hK a6.kept)) a6.at_ (a7.out.keep _ _ _ b5.out a6.kept));clear a6 ab;go_wp2;go_roundw
            case rel => exact ⟨k + 1, ts, av.out, by go_num, rfl, ao.out⟩
            case measure => have := av.out; simp [intOf]; omega
        · go_wp2
          go_region_held3 (fun w' => w'.cell? ⟨sk, 0, none⟩ = some (.pointer (some ⟨sb, 0, none⟩)) ∧ w'.cell? ⟨sk, 1, none⟩ = some (.slice (some ⟨bq, oq, none⟩) ps.length cp) ∧ w'.cell? ⟨bq, oq + m * 2, none⟩ = some (.string pn) ∧ w'.cell? ⟨bq, oq + m * 2 + 1, none⟩ = some (.slice Ae a1.length ce) ∧ w'.cell? ⟨sb, 0, none⟩ = some (.slice (some ⟨b7, o7, none⟩) fs.length cf) ∧ w'.cell? ⟨b7, o7 + j * 2, none⟩ = some (.string fn) ∧ w'.cell? ⟨b7, o7 + j * 2 + 1, none⟩ = some (.slice Ag a2.length cg))
            (first | exact ⟨s0, s1, f0, f1, ag, d0, d1⟩ | exact am)
            (first | (go_at_call 154; refine a0.mono ?_; rintro e U ⟨rfl, a3⟩; have am := az.out U a3.kept))
          all_goals
            have a5 := Lib.hid a3;clear a3 am az;have aD := Lib.hid ((bW.of_below (K := K) aw.out ((Below.refl wr.heap.size wr).drew)).trans (bW.Dt hK a5.out.kept));have b5 := Lib.hid (a7.out.keep _ _ _ (a7.out.keep wr wr.drew _ bL.out (dK.of_below ((Below.refl wr.heap.size wr).drew) aw.out)) a5.out.kept);have aR := aM.out U (by trivial) aD.out a5.out.at_ a5.out.ok b5.out;clear s0 s1 bB ag f0 f1 d0 d1 a0
            go_wp2_with fail
            refine aR.mono ?_;rintro e w5 ⟨I, y, rfl, b6⟩;have ab := b2.out w5 a5.out.ok (jr.bd b6);have bO := Lib.hid b6;clear aR b6;have cq : Hid (∀ w6, kE vars sk 18 w5 b w6 → ∃ af, iq vars fs ps ns head K sk T go b left m (idxs fs key) told af (false || I) y (k + 1) w w6) := Lib.hid fun w6 h6 => bz.out U w5 w6 I y (by trivial) bO.out aD.out (bW.Dt hK h6.kept) h6.at_ fun b3 cv => a7.out.keep _ _ _ cv h6.kept
            rw [bv.out] at ab;clear bz aM b2 bw bO
            cases I <;> cases y
            all_goals
              go_wp2_with fail
              refine ab.mono ?_;rintro e w6 ⟨rfl, a6⟩;obtain ⟨af, bR⟩ := cq.out w6 a6;have ao := Lib.hid bR;clear a6 ab bR;go_wp2
              first
                | (go_ret2; exact ao.out.off.ret)
                | (go_roundw
                   case rel => exact ⟨k + 1, af, av.out, by go_num, rfl, ao.out⟩
                   case measure => have := av.out; simp [intOf]; omega)
                | (go_ret2; exact (ao.out.brk cA.out).ret)
      · have he : ¬ (k : Int) < ((idxs fs key).length : Int) := by omega
        have HF := Lib.hid (hI.fin E HC.out rfl (by omega));clear hI;go_wp2;go_ret2;exact HF.out.ret
end
end
section
open Go.RowKit D
theorem D.XQ {rs:List Ru} {lv:List Nat} (Inv:Nat→Rd→Nat→Prop) (hok:∀ k r n,Inv k r n→qB r)
  (y:∀ k r n,k≤rs.length→Inv (k+1) r n→(fU rs lv (rs.length - k) r (n+1)).1.length≤300→(fU rs lv (rs.length - k) r (n+1)).1.length ≠ r.1.length→Inv (k+1) (fU rs lv (rs.length - k) r (n+1)) (n+1))
  (J:∀ k r n,k≤rs.length→Inv (k+1) r n→(fU rs lv (rs.length - k) r (n+1)).1.length=r.1.length→Inv k (fU rs lv (rs.length - k) r (n+1)) n):
  ∀ (k fuel:Nat) (r:Rd) (n:Nat),k≤rs.length+1→Inv k r n→r.1.length≤300→302≤fuel+r.1.length→
   ((Ea rs lv k fuel r n).2=true∧(Ea rs lv k fuel r n).1.1.length≤300∧∃ n',Inv 0 (Ea rs lv k fuel r n).1 n') ∨
   ((Ea rs lv k fuel r n).2=false∧∃ k' r' n',k'≤rs.length∧Inv (k'+1) r' n'∧300 < (fU rs lv (rs.length - k') r' (n'+1)).1.length):=by
 intro k
 induction k with
 | zero=>
  intro fuel r n _ I hl _;rw [Ea];exact .inl ⟨rfl,hl,n,I⟩
 | succ k ihk=>
  intro fuel
  induction fuel with
  | zero=>intro r n _ _ h1 U; omega
  | succ fuel ihf=>
   intro r n hk I hl hf;have a0:=(oU (hok _ _ _ I) (n+1) (jo r.1 (rs.length - k) (rs.zip lv))).2.1;have a1:r.1.length≤(fU rs lv (rs.length - k) r (n+1)).1.length:=a0;rw [Ea];by_cases h1:300 < (fU rs lv (rs.length - k) r (n+1)).1.length
   ·rw [if_pos h1]
    exact .inr ⟨rfl,k,r,n,by omega,I,h1⟩
   ·rw [if_neg h1]
    by_cases U:(fU rs lv (rs.length - k) r (n+1)).1.length=r.1.length
    ·rw [if_pos U]
     exact ihk 302 _ n (by omega) (J k r n (by omega) I U) (by omega) (by omega)
    ·rw [if_neg U]
     exact ihf _ (n+1) hk (y k r n (by omega) I (by omega) U) (by omega) (by omega)
def D.JS (S:A→Prop) (r:Ru) (t:A):Prop:=∃ σ:Wo,t=iC σ r.head∧(∀ p ∈ r.body,p.no=false→S (iC σ p.atom))∧∀ p ∈ r.body,p.no=true→¬ S (iC σ p.atom)
theorem D.lI {S y:A→Prop} {r:Ru} {t:A} (h:∀ x,(∃ p ∈ r.body,p.atom.name=x.name)→(S x ↔ y x)):JS S r t ↔ JS y r t:=by
 have key:∀ (S y:A→Prop),(∀ x,(∃ p ∈ r.body,p.atom.name=x.name)→(S x ↔ y x))→JS S r t→JS y r t:=by
  rintro S y h ⟨σ,rfl,h1,J⟩;exact ⟨σ,rfl,fun p I hn=>(h (iC σ p.atom) ⟨p,I,rfl⟩).1 (h1 p I hn),fun p I hn U=>J p I hn ((h (iC σ p.atom) ⟨p,I,rfl⟩).2 U)⟩
 exact ⟨key S y h,key y S fun x hx=>(h x hx).symm⟩
def D.TS (rs:List Ru) (k:Nat) (S:A→Prop) (t:A):Prop:=∃ r ∈ rs,fP rs r.head.name=k∧JS S r t
def D.J3 (rs:List Ru) (k:Nat) (S:A→Prop):Nat→A→Prop
 | 0=>S
 | j+1=>fun t=>J3 rs k S j t∨TS rs k (J3 rs k S j) t
def D.TA (rs:List Ru) (k:Nat) (S:A→Prop):A→Prop:=fun t=>∃ j,J3 rs k S j t
def D.tZ (rs:List Ru) (S:A→Prop):Nat→A→Prop
 | 0=>S
 | k+1=>TA rs k (tZ rs S k)
def D.DY (rs:List Ru) (S:A→Prop):A→Prop:=tZ rs S (rs.length+1)
theorem D.JU {rs:List Ru} {k:Nat} {S:A→Prop} {i j:Nat} (h:i≤j) {t:A} (y:J3 rs k S i t):J3 rs k S j t:=by
 induction h with
 | refl=>exact y
 | step _ ih=>exact .inl ih
theorem D.JV {rs:List Ru} {S:A→Prop} {i j:Nat} (h:i≤j) {t:A} (y:tZ rs S i t):tZ rs S j t:=by
 induction h with
 | refl=>exact y
 | step _ ih=>exact ⟨0,ih⟩
theorem D.Oa {rs:List Ru} {k:Nat} {S y:A→Prop} (h:∀ x,S x ↔ y x) (t:A):TS rs k S t ↔ TS rs k y t:=by
 have:S=y:=funext fun x=>propext (h x)
 rw [this]
theorem D.TB {rs:List Ru} {k:Nat} {S:A→Prop} {j:Nat} (h:∀ t,TS rs k (J3 rs k S j) t→J3 rs k S j t) (t:A):TA rs k S t ↔ J3 rs k S j t:=by
 constructor
 ·rintro ⟨i,J⟩
  rcases Nat.le_total i j with y | y
  ·exact JU y J
  ·have:∀ d t,J3 rs k S (j+d) t→J3 rs k S j t:=by
    intro d
    induction d with
    | zero=>intro t I; exact I
    | succ d ih=>
     intro t I
     rcases I with I | ⟨r,hr,U,hf⟩
     ·exact ih t I
     ·refine h t ⟨r,hr,U,(lI fun x _=>?_).1 hf⟩
      exact ⟨ih x,fun hx=>JU (Nat.le_add_right _ _) hx⟩
   obtain ⟨d,rfl⟩:=Nat.exists_eq_add_of_le y;exact this d t J
 ·exact fun h=>⟨j,h⟩
theorem D.QK {rs:List Ru} (hc:Closed rs (aA rs)) {p:Ru × Nat} (J:p ∈ rs.zip (aA rs)):p.1 ∈ rs∧p.2=fP rs p.1.head.name:=by
 obtain ⟨i,y,rfl⟩:=List.getElem_of_mem J;simp only [List.length_zip,gu,Nat.min_self] at y;have I:=(lG hc).2 i y;have U:dQ rs i=rs[i]:=by unfold dQ; simp [List.getD,y]
 have e2:iZ (aA rs) i=(aA rs)[i]'(by rw [gu]; exact y):=by unfold iZ; simp [List.getD,gu,y]
 rw [U,e2] at I;simp only [List.getElem_zip];exact ⟨δ _,I⟩
theorem D.Wi {rs:List Ru} (hc:Closed rs (aA rs)) {r:Ru} (hr:r ∈ rs):(r,fP rs r.head.name) ∈ rs.zip (aA rs):=by
 obtain ⟨i,y,rfl⟩:=List.getElem_of_mem hr;refine List.mem_iff_getElem.2 ⟨i,by simp [gu]; exact y,?_⟩;have:=(QK hc (δ (l:=rs.zip (aA rs)) (n:=i) (by simp [gu]; exact y))).2;simp only [List.getElem_zip] at this ⊢;rw [this]
structure D.uf (rs:List Ru):Prop where
 fol:∀ r ∈ rs,lC r
 cyc:Closed rs (aA rs)
theorem D.Wj {rs:List Ru} (h:eU rs=0):uf rs:=by
 refine ⟨fun r hr=>V8 h hr,?_⟩;unfold eU at h
 split at h
 ·cases h
 ·split at h
  ·cases h
  ·split at h
   ·cases h
   ·split at h
    ·cases h
    ·split at h
     ·cases h
     ·rename_i hc
      exact OW (by simpa using hc)
theorem D.QL {rs:List Ru} (h:uf rs) {xs:List A} (J:∀ x ∈ xs,aW x) (level:Nat):gm (jo xs level (rs.zip (aA rs)))=true∧(∀ t ∈ jo xs level (rs.zip (aA rs)),aW t)∧∀ t,t ∈ jo xs level (rs.zip (aA rs)) ↔ TS rs level (fun x=>x ∈ xs) t:=by
 obtain ⟨k1,k2,U⟩:=Tz (level:=level) J (rl:=rs.zip (aA rs)) fun p y=>h.fol _ (List.of_mem_zip y).1
 refine ⟨k1,k2,fun t=>(U t).trans ⟨?_,?_⟩⟩
 ·rintro ⟨p,y,I,hf⟩
  obtain ⟨g1,g2⟩:=QK h.cyc y;exact ⟨p.1,g1,by rw [← g2]; exact I,hf⟩
 ·rintro ⟨r,hr,I,hf⟩
  exact ⟨_,Wi h.cyc hr,I,hf⟩
theorem D.P7 {r:Rd} (hr:∀ x ∈ r.1,aW x) (n:Nat):∀ more:List A,(∀ x ∈ more,aW x)→(∀ x ∈ (jA more n r).1,aW x)∧∀ t,t ∈ (jA more n r).1 ↔ t ∈ r.1∨t ∈ more:=by
 intro more
 induction more generalizing r with
 | nil=>intro _; exact ⟨hr,fun t=>by simp [jA]⟩
 | cons a more ih=>
  intro hm;have ha:=hm a Γ;have h1:∀ x,x ∈ (iK r a n).1 ↔ x ∈ r.1∨x=a:=fun x=>by rw [vX]; exact zD hr ha x
  obtain ⟨I,J⟩:=ih (r:=iK r a n) (fun x y=>((h1 x).1 y).elim (hr x) fun e=>e ▸ ha) fun x y=>hm x (Δ _ y)
  refine ⟨I,fun t=>?_⟩;have:jA (a :: more) n r=jA more n (iK r a n):=rfl;rw [this,J,h1,ύ,or_assoc]
theorem D.mF {rs:List Ru} (h:uf rs) {r:Rd} (hr:∀ x ∈ r.1,aW x) (level n:Nat):(∀ x ∈ (fU rs (aA rs) level r n).1,aW x)∧∀ t,t ∈ (fU rs (aA rs) level r n).1 ↔ t ∈ r.1∨TS rs level (fun x=>x ∈ r.1) t:=by
 obtain ⟨_,k2,y⟩:=QL h hr level;obtain ⟨I,J⟩:=P7 hr n _ k2;exact ⟨I,fun t=>by rw [← y t]; exact J t⟩
theorem D.Ob {xs ys:List A} (h1:xs.Nodup) (J:∀ x ∈ xs,x ∈ ys) (h3:ys.length≤xs.length):∀ y ∈ ys,y ∈ xs:=by
 intro y U;by_cases hm:y ∈ xs
 ·exact hm
 ·exfalso
  have h4:(y :: xs).Nodup:=List.nodup_cons.2 ⟨hm,h1⟩
  have h5:=List.Nodup.length_le_of_subset h4 (l₂:=ys) (fun x I=>by
   rcases ύ.1 I with rfl | I
   ·exact U
   ·exact J x I)
  simp at h5;omega
structure D.YM (rs:List Ru) (S:A→Prop) (k:Nat) (r:Rd) (n:Nat):Prop where
 ok:qB r
 fact:∀ x ∈ r.1,aW x
 set:match k with
  | 0=>∀ t,t ∈ r.1 ↔ DY rs S t
  | k+1=>∃ j,∀ t,t ∈ r.1 ↔ J3 rs (rs.length - k) (tZ rs S (rs.length - k)) j t
theorem D.FX {rs:List Ru} (h:uf rs) {r:Rd} (hr:∀ x ∈ r.1,aW x) {level j n:Nat} {S:A→Prop} (y:∀ t,t ∈ r.1 ↔ J3 rs level S j t) (t:A):t ∈ (fU rs (aA rs) level r n).1 ↔ J3 rs level S (j+1) t:=by
 rw [(mF h hr level n).2 t,y t,Oa y t];exact Iff.rfl
theorem D.Oc {rs:List Ru} (h:uf rs) {given:List A} (ha:gm given=true) (hf:∀ x ∈ given,aW x) (hl:given.length≤300):
  ((jb rs given).2=true∧(jb rs given).1.1.length≤300∧qB (jb rs given).1∧(∀ x ∈ (jb rs given).1.1,aW x)∧∀ t,t ∈ (jb rs given).1.1 ↔ DY rs (fun x=>x ∈ given) t) ∨
  ((jb rs given).2=false∧∃ L:List A,L.Nodup∧300 < L.length∧∀ t ∈ L,DY rs (fun x=>x ∈ given) t):=by
 have main:=XQ (rs:=rs) (lv:=aA rs) (YM rs fun x=>x ∈ given) (fun k r n y=>y.ok)
  (fun k r n hk y _ _=>by
   obtain ⟨j,I⟩:=y.set
   exact ⟨(oU y.ok _ _).1,(mF h y.fact _ _).1,j+1,FX h y.fact I⟩)
  (fun k r n hk y he=>by
   obtain ⟨j,I⟩:=y.set;have hs:=FX (n:=n+1) h y.fact I
   have a0:∀ t,TA rs (rs.length - k) (tZ rs (fun x=>x ∈ given) (rs.length - k)) t ↔ J3 rs (rs.length - k) (tZ rs (fun x=>x ∈ given) (rs.length - k)) j t:=TB fun t U=>by
    refine (I t).1 (Ob (lT y.ok.gm) (fun x hx=>((mF h y.fact _ (n+1)).2 x).2 (.inl hx)) (Nat.le_of_eq he) t ?_);exact ((mF h y.fact _ (n+1)).2 t).2 (.inr ((Oa I t).2 U))
   have J:∀ t,t ∈ (fU rs (aA rs) (rs.length - k) r (n+1)).1 ↔ tZ rs (fun x=>x ∈ given) (rs.length - k+1) t:=fun t=>by
    show _ ↔ TA rs _ _ t;rw [a0,← I t];constructor
    ·exact fun U=>Ob (lT y.ok.gm) (fun x hx=>((mF h y.fact _ (n+1)).2 x).2 (.inl hx)) (Nat.le_of_eq he) t U
    ·exact fun U=>((mF h y.fact _ (n+1)).2 t).2 (.inl U)
   refine ⟨(oU y.ok _ _).1,(mF h y.fact _ _).1,?_⟩
   cases k with
   | zero=>exact J
   | succ k=>
    have e:rs.length - k=rs.length - (k+1)+1:=by omega
    refine ⟨0,fun t=>?_⟩;rw [e]
    exact J t)
  (rs.length+1) 302 (given,List.replicate given.length 0) 0 ν ⟨⟨ha,by simp⟩,hf,⟨0,fun t=>by simp [J3,tZ]⟩⟩ hl (by simp)
 rcases main with ⟨h1,h2,n',y⟩ | ⟨h1,k',r',n',hk,y,hlen⟩
 ·exact .inl ⟨h1,h2,y.ok,y.fact,y.set⟩
 ·refine .inr ⟨h1,_,lT (oU y.ok (n'+1) _).1.gm,hlen,fun t U=>?_⟩
  obtain ⟨j,I⟩:=y.set;have h3:=(FX h y.fact I t).1 U;exact JV (show rs.length - k'+1≤rs.length+1 by omega) ⟨j+1,h3⟩
end
section
open Go.RowKit D
attribute [local go_sem ↓] Go.wp_at_zero Go.wp_at_succ
section
variable (vars:List ByteArray) (fs:List A) (rn:List Nat) (bs:List Nat) (ps ns:List A) (head:A) (sk sb:Nat) (Ap:Option Addr) (cp:Nat) (An:Option Addr) (cn:Nat) (bp bn:List Nat) (wt:Nat→Bool) (ah:Int) (c5 c7:Addr) (K:Nat→Prop) (T:Bool→World→List A→Prop) (go:List A→Bool)
theorem Wl (E:tq vars fs ps ns head wt) (hK:∀ k,K k→k ≠ sk) (hT:xW vars head sk K c5 c7 T go):∀ (left:Nat),left < 2 ^ ps.length→∀ (b:Bd) (told:List A) (w:World),
  qW vars fs rn bs ps ns sk sb (.slice Ap ps.length cp) (.slice An ns.length cn) bp bn wt ah (.func (.func 116) #[] #[.pointer (some c5),.pointer (some c7)]) K b w→
  (∀ j (h:j < ps.length),left.testBit j=false→yO b ps[j].args)→T true w told→
  Calls Tryz.prog 179 #[.pointer (some ⟨sk,0,none⟩),.int .i64 left] w (vz vars fs ps ns head K sk T go b left told w):=by
 intro left
 induction left using Nat.strongRecOn with
 | ind left IH=>
  intro hl b told w S I J;by_cases hs:setB vars b wt=true
  ·cases hh:zq fs ns b
   ·by_cases h0:left=0
    ·subst h0
     exact Wh vars fs rn bs ps ns head sk sb Ap cp An cn bp bn wt ah c5 c7 K T go E hK hT b told w S (fun p hp=>by
      obtain ⟨j,hj,e⟩:=List.getElem_of_mem hp
      rw [← e]; exact I j hj (by simp)) J hh
    ·exact N9 vars fs rn bs ps ns head sk sb Ap cp An cn bp bn wt ah c5 c7 K T go E hK hT left hl h0 (fun l' U b' y w' S' c' t'=>IH l' U (by omega) b' y w' S' c' t') b told w S I J (fun _=>hh)
   ·exact run_stop vars fs rn bs ps ns head sk sb Ap cp An cn bp bn wt ah c5 c7 K T go E hK hT left b told w S J hs hh
  ·by_cases h0:left=0
   ·subst h0
    exfalso;apply hs
    exact (vw E.hv S.ok E.want E.hin E.nin).2 (E.tight b fun p hp=>by
     obtain ⟨j,hj,e⟩:=List.getElem_of_mem hp
     rw [← e]; exact I j hj (by simp))
   ·exact N9 vars fs rn bs ps ns head sk sb Ap cp An cn bp bn wt ah c5 c7 K T go E hK hT left hl h0 (fun l' U b' y w' S' c' t'=>IH l' U (by omega) b' y w' S' c' t') b told w S I J (fun h=>absurd h hs)
theorem D.Wn (n:Nat) (h:n≤4):wrap64 (wrap64 (2 ^ n) - 1)=((2 ^ n - 1:Nat):Int):=by
 have H:∀ n:Nat,n < 5→wrap64 (wrap64 (2 ^ n) - 1)=((2 ^ n - 1:Nat):Int):=by decide +kernel
 exact H n (by omega)
theorem D.Wp (n j:Nat) (h:n≤4) (y:j < n):(2 ^ n - 1).testBit j=true:=by
 rw [Nat.testBit_two_pow_sub_one]; simpa using y
theorem GI (E:tq vars fs ps ns head wt) (hK:∀ k,K k→k ≠ sk) (J:xW vars head sk K c5 c7 T go) (told:List A) (w:World)
  (S:qW vars fs rn bs ps ns sk sb (.slice Ap ps.length cp) (.slice An ns.length cn) bp bn wt ah (.func (.func 116) #[] #[.pointer (some c5),.pointer (some c7)]) K [] w) (I:T true w told):
  Calls Tryz.prog 118 #[.pointer (some ⟨sk,0,none⟩)] w fun e w'=>e=.returned (.tuple #[])∧∃ held more,jr vars fs ps ns head K sk T go [] (2 ^ ps.length - 1) told held more w w':=by
 have y:=Wl vars fs rn bs ps ns head sk sb Ap cp An cn bp bn wt ah c5 c7 K T go E hK J (2 ^ ps.length - 1) (by have:=Nat.two_pow_pos ps.length; omega) [] told w S (fun j hj hb=>by rw [Wp _ _ E.p4 hj] at hb; cases hb) I;have y0:=S.sea.p1;have hp:=Wn ps.length E.p4;have a0:(ps.length:Int)≤4:=by have:=E.p4; omega
 clear S I J
 go_enter Tryz.func118,Tryz.ntmps118
 go_wp2_with fail
 refine y.mono ?_;rintro e w2 ⟨held,more,rfl,U⟩;have HP:=η U;clear y U;go_wp2
 go_end0
 exact ⟨rfl,held,more,HP.out⟩
end
end
section
open Go.RowKit D
open Classical in
noncomputable def D.newL (fs told:List A):List A:=told.foldl (fun acc a=>if a ∈ fs∨a ∈ acc then acc else acc ++ [a]) []
open Classical in
theorem D.BO (fs told:List A) (a:A):newL fs (told ++ [a])=if a ∈ fs∨a ∈ newL fs told then newL fs told else newL fs told ++ [a]:=by
 unfold newL; rw [List.foldl_append]; rfl
theorem D.Wq {α:Type} {P:List α→Prop} (h0:P []) (h1:∀ l a,P l→P (l ++ [a])) (l:List α):P l:=by
 have:∀ n (l:List α),l.length=n→P l:=by
  intro n
  induction n with
  | zero=>intro l h; rw [List.length_eq_zero_iff.1 h]; exact h0
  | succ n ih=>
   intro l h;have y:l ≠ []:=by intro e; rw [e] at h; simp at h
   rw [← List.dropLast_concat_getLast y];exact h1 _ _ (ih _ (by simp [h]))
 exact this _ l rfl
theorem D.rq (fs told:List A):(newL fs told).Nodup∧∀ t,t ∈ newL fs told ↔ t ∈ told∧t ∉ fs:=by
 refine Wq (P:=fun told=>(newL fs told).Nodup∧∀ t,t ∈ newL fs told ↔ t ∈ told∧t ∉ fs) ⟨by simp [newL],fun t=>by simp [newL]⟩ (fun told a ⟨h1,U⟩=>?_) told;rw [BO]
 split
 ·rename_i h
  refine ⟨h1,fun t=>?_⟩;rw [U,μ,ώ];constructor
  ·exact fun ⟨J,I⟩=>⟨.inl J,I⟩
  ·rintro ⟨J | rfl,I⟩
   ·exact ⟨J,I⟩
   ·rcases h with h | h
    ·exact absurd h I
    ·exact (U t).1 h
 ·rename_i h
  have ha:a ∉ fs∧a ∉ newL fs told:=⟨fun e=>h (.inl e),fun e=>h (.inr e)⟩;refine ⟨List.nodup_append.2 ⟨h1,by simp,fun x hx y hy e=>?_⟩,fun t=>?_⟩
  ·simp at hy
   exact ha.2 (by rw [← hy,← e]; exact hx)
  ·rw [μ,ώ,μ,ώ,U]
   constructor
   ·rintro (⟨J,I⟩ | rfl)
    ·exact ⟨.inl J,I⟩
    ·exact ⟨.inr rfl,ha.1⟩
   ·rintro ⟨J | rfl,I⟩
    ·exact .inl ⟨J,I⟩
    ·exact .inr rfl
open Classical in
noncomputable def D.Ws (fs L:List A):Bool:=decide ((∃ told a,L=told ++ [a]∧(a ∈ fs∨a ∈ newL fs told))∨fs.length+(newL fs L).length≤300)
open Classical in
theorem D.Oe (fs told:List A) (a:A):Ws fs (told ++ [a])=decide (a ∈ fs∨a ∈ newL fs told∨fs.length+(newL fs (told ++ [a])).length≤300):=by
 unfold Ws;apply decide_eq_decide.2;refine ⟨?_,?_⟩
 ·rintro (⟨t,b,e,h⟩ | h)
  ·have:=List.append_inj' e rfl
   obtain ⟨rfl,y⟩:=this;simp at y;subst y;exact h.imp id .inl
  ·exact .inr (.inr h)
 ·rintro (h | h | h)
  ·exact .inl ⟨told,a,rfl,.inl h⟩
  ·exact .inl ⟨told,a,rfl,.inr h⟩
  ·exact .inr h
open Classical in
theorem D.TD {fs L:List A} (h:Ws fs L=false):300 < fs.length+(newL fs L).length:=by
 unfold Ws at h;have:=of_decide_eq_false h;have y:¬ fs.length+(newL fs L).length≤300:=fun e=>this (.inr e)
 omega
structure D.X9 (fs:List A) (rn:List Nat) (r:Rd):Prop where
 len:rn.length=fs.length
 perm:(fs.zip rn).Perm (r.1.zip r.2)
theorem D.zip_fst {α β:Type}:∀ {l:List α} {m:List β},l.length≤m.length→(l.zip m).map (·.1)=l
 | [],m,_=>by simp
 | a :: l,[],h=>by simp at h
 | a :: l,b :: m,h=>by simp only [List.zip_cons_cons,List.map_cons]; rw [zip_fst (by simpa using h)]
theorem D.X9.fst {fs:List A} {rn:List Nat} {r:Rd} (h:X9 fs rn r) (hr:qB r):fs.Perm r.1:=by
 have:=h.perm.map (·.1)
 rwa [zip_fst (Nat.le_of_eq h.len.symm),zip_fst (Nat.le_of_eq hr.len.symm)] at this
theorem D.TF {r:Rd} (hr:qB r) (a:A) (n:Nat):hasB r.1 a=false→((iK r a n).1.zip (iK r a n).2).Perm ((a,n) :: r.1.zip r.2):=by
 intro h
 have e:iK r a n=(r.1.take (pl r.1 a) ++ a :: r.1.drop (pl r.1 a),r.2.take (pl r.1 a) ++ [n] ++ r.2.drop (pl r.1 a)):=by
  unfold iK eG;rw [h];rfl
 rw [e];have J:=(qG hr.gm a).2.2;have U:=hr.len
 have y:(r.1.take (pl r.1 a) ++ a :: r.1.drop (pl r.1 a)).zip (r.2.take (pl r.1 a) ++ [n] ++ r.2.drop (pl r.1 a))=(r.1.take (pl r.1 a)).zip (r.2.take (pl r.1 a)) ++ (a,n) :: (r.1.drop (pl r.1 a)).zip (r.2.drop (pl r.1 a)):=by
  rw [List.append_assoc,List.zip_append (by simp; omega)];rfl
 have I:r.1.zip r.2=(r.1.take (pl r.1 a)).zip (r.2.take (pl r.1 a)) ++ (r.1.drop (pl r.1 a)).zip (r.2.drop (pl r.1 a)):=by
  rw [← List.zip_append (by simp; omega),List.take_append_drop,List.take_append_drop]
 show List.Perm (List.zip _ _) _;rw [y,I];exact List.perm_middle
open Classical in
theorem D.P8 {r:Rd} (hr:qB r) (hf:∀ x ∈ r.1,aW x) (n:Nat):∀ more:List A,(∀ x ∈ more,aW x)→more.Nodup→
  ((jA more n r).1.zip (jA more n r).2).Perm (r.1.zip r.2 ++ (more.filter fun a=>decide (a ∉ r.1)).map fun a=>(a,n)):=by
 intro more
 induction more generalizing r with
 | nil=>intro _ _; simp [jA]
 | cons a more ih=>
  intro hm hn;have ha:=hm a Γ;have y:=List.nodup_cons.1 hn;have h1:∀ x,x ∈ (iK r a n).1 ↔ x ∈ r.1∨x=a:=fun x=>by rw [vX]; exact zD hf ha x
  have J:=ih (r:=iK r a n) (hr.put a n) (fun x I=>((h1 x).1 I).elim (hf x) fun e=>e ▸ ha) (fun x I=>hm x (Δ _ I)) y.2;have U:jA (a :: more) n r=jA more n (iK r a n):=rfl;rw [U]
  have e1:more.filter (fun b=>decide (b ∉ (iK r a n).1))=more.filter fun b=>decide (b ∉ r.1):=by
   refine List.filter_congr fun b hb=>decide_eq_decide.2 ?_
   rw [h1];constructor
   ·exact fun h e=>h (.inl e)
   ·rintro h (e | rfl)
    ·exact h e
    ·exact y.1 hb
  rw [e1] at J;refine J.trans ?_;by_cases hc:a ∈ r.1
  ·have e2:iK r a n=r:=by
    unfold iK;rw [if_pos (jR hc)]
   rw [e2,List.filter_cons_of_neg (by simpa using hc)]
  ·have hb:hasB r.1 a=false:=by
    cases hh:hasB r.1 a
    ·rfl
    ·exact absurd ((sF (fun x I=>(hf x I).gr) ha.gr).1 hh) hc
   rw [List.filter_cons_of_pos (by simpa using hc),List.map_cons];exact ((TF hr a n hb).append_right _).trans List.perm_middle.symm
def D.OwnAt (rs:List Ru) (level:Nat) (own:List Ru):Prop:=∀ r,r ∈ own ↔ r ∈ rs∧fP rs r.head.name=level
theorem D.IW {rs:List Ru} (h:uf rs) {r:Rd} (hr:qB r) (hf:∀ x ∈ r.1,aW x) {fs:List A} {rn:List Nat} (hs:X9 fs rn r) {level n:Nat} {next:List Ru} {new:List A} (J:∀ q ∈ next,q ∈ rs∧fP rs q.head.name=level)
  (U:∀ q ∈ rs,fP rs q.head.name=level→q ∉ next→∀ t,lW fs q t→t ∈ fs) (hn:new.Nodup) (a1:∀ t,t ∈ new ↔ t ∉ fs∧∃ q ∈ next,lW fs q t):
  X9 (fs ++ new) (rn ++ List.replicate new.length n) (fU rs (aA rs) level r n)∧(fU rs (aA rs) level r n).1.length=fs.length+new.length:=by
 classical
 have a2:=hs.fst hr;have y:∀ x,x ∈ fs ↔ x ∈ r.1:=fun x=>a2.mem_iff
 obtain ⟨k1,k2,k3⟩:=QL h hf level;have hz:=P8 hr hf n _ k2 (lT k1)
 have hp:((jo r.1 level (rs.zip (aA rs))).filter fun a=>decide (a ∉ r.1)).Perm new:=by
  refine (List.perm_ext_iff_of_nodup ((lT k1).filter _) hn).2 fun t=>?_
  rw [List.mem_filter,k3,a1,decide_eq_true_iff,← y];constructor
  ·rintro ⟨⟨q,hq,hl,a0⟩,h2⟩
   have a3:lW fs q t:=(lI fun x _=>y x).2 a0;refine ⟨h2,q,?_,a3⟩;by_cases a4:q ∈ next
   ·exact a4
   ·exact absurd (U q hq hl a4 t a3) h2
  ·rintro ⟨h2,q,hq,a0⟩
   exact ⟨⟨q,(J q hq).1,(J q hq).2,(lI fun x _=>y x).1 a0⟩,h2⟩
 have I:((fs ++ new).zip (rn ++ List.replicate new.length n)).Perm ((fU rs (aA rs) level r n).1.zip (fU rs (aA rs) level r n).2):=by
  rw [List.zip_append hs.len.symm]
  have e:new.zip (List.replicate new.length n)=new.map fun a=>(a,n):=by
   apply List.ext_getElem
   ·simp
   ·intro i h1 h2
    simp
  rw [e];exact ((hs.perm.append (hp.symm.map _))).trans hz.symm
 have a5:=(oU hr n (jo r.1 level (rs.zip (aA rs)))).1;refine ⟨⟨by simp [hs.len],I⟩,?_⟩;have hl:=I.length_eq;have a6:(fU rs (aA rs) level r n).2.length=(fU rs (aA rs) level r n).1.length:=a5.len;simp only [List.length_zip,χ,List.length_replicate,hs.len,a6,Nat.min_self] at hl;omega
theorem D.Wu {rs:List Ru} (h:uf rs) {r:Rd} (hr:qB r) (hf:∀ x ∈ r.1,aW x) {fs:List A} {rn:List Nat} (hs:X9 fs rn r) {level n:Nat} {next:List Ru} {new:List A} (I:∀ q ∈ next,q ∈ rs∧fP rs q.head.name=level)
  (hn:new.Nodup) (J:∀ t ∈ new,t ∉ fs∧∃ q ∈ next,lW fs q t) (hm:300 < fs.length+new.length):300 < (fU rs (aA rs) level r n).1.length:=by
 classical
 have U:=hs.fst hr;have a0:∀ x,x ∈ fs ↔ x ∈ r.1:=fun x=>U.mem_iff
 have h1:=(mF h hf level n).2;have a1:(r.1 ++ new).Nodup:=List.nodup_append.2 ⟨lT hr.gm,hn,fun x hx y hy e=>(J y hy).1 ((a0 y).2 (e ▸ hx))⟩
 have h2:=qL a1 (l2:=(fU rs (aA rs) level r n).1) fun x hx=>by
  rcases μ.1 hx with hx | hx
  ·exact (h1 x).2 (.inl hx)
  ·obtain ⟨_,q,hq,a2⟩:=J x hx
   exact (h1 x).2 (.inr ⟨q,(I q hq).1,(I q hq).2,(lI fun x _=>a0 x).1 a2⟩)
 rw [χ,← U.length_eq] at h2;omega
theorem D.Og {fs new:List A} {q:Ru} (h:∀ p ∈ q.body,p.no=false→∀ t ∈ new,t.name ≠ p.atom.name) {t:A} (hf:lW (fs ++ new) q t):lW fs q t:=by
 obtain ⟨σ,rfl,h1,I⟩:=hf;refine ⟨σ,rfl,fun p y hn=>?_,fun p y hn hm=>I p y hn (Ξ _ hm)⟩
 rcases μ.1 (h1 p y hn) with hm | hm
 ·exact hm
 ·exact absurd rfl (h p y hn (iC σ p.atom) hm)
theorem D.XR {rs:List Ru} (h:uf rs) {r:Ru} (hr:r ∈ rs) {p:Pt} (y:p ∈ r.body) (hm:p.atom.name ∈ bI rs):fP rs p.atom.name+DL p≤fP rs r.head.name:=(lG h.cyc).1 r hr p y hm
theorem D.Wv {rs:List Ru} (h:uf rs) {r:Ru} (hr:r ∈ rs):fP rs r.head.name < rs.length:=by
 obtain ⟨i,y,rfl⟩:=List.getElem_of_mem hr;obtain ⟨h1,U⟩:=lG h.cyc;have I:=vS h1;have e:dQ rs i=rs[i]:=by unfold dQ; simp [List.getD,y]
 have J:=U i y;rw [e] at J;rw [← J];unfold mG at I;rw [List.any_eq_false] at I
 have h5:iZ (aA rs) i ∈ aA rs:=by
  unfold iZ; rw [List.getD_eq_getElem?_getD,Ψ (by rw [gu]; exact y)]; exact δ _
 have:=I _ h5;simpa using this
theorem D.Wx {rs:List Ru} {S:A→Prop} {k:Nat} {t:A} (h:tZ rs S (k+1) t):tZ rs S k t∨∃ r ∈ rs,fP rs r.head.name=k∧t.name=r.head.name:=by
 obtain ⟨j,y⟩:=h
 induction j with
 | zero=>exact .inl y
 | succ j ih=>
  rcases y with y | ⟨r,hr,I,σ,rfl,_⟩
  ·exact ih y
  ·exact .inr ⟨r,hr,I,rfl⟩
theorem D.TG {rs:List Ru} {S:A→Prop} {k:Nat} {t:A} (h:∀ r ∈ rs,r.head.name=t.name→fP rs t.name < k) {j:Nat} (y:k≤j):tZ rs S j t ↔ tZ rs S k t:=by
 induction y with
 | refl=>exact Iff.rfl
 | step y ih=>
  refine ⟨fun h1=>?_,fun h1=>JV (Nat.le_succ_of_le y) h1⟩
  rcases Wx h1 with I | ⟨r,hr,U,e⟩
  ·exact ih.1 I
  ·have J:=h r hr e.symm
   rw [e] at J;have h4:k≤_:=y;omega
theorem D.XT {rs:List Ru} {S:A→Prop} {k:Nat} {t:A} (y:k≤rs.length+1) (h:t.name ∈ bI rs→fP rs t.name < k):DY rs S t ↔ tZ rs S k t:=TG (fun r hr e=>h (e ▸ head_mem hr)) y
theorem D.Oh {rs:List Ru} {k:Nat} {S:A→Prop} {r:Ru} {t:A} (hr:r ∈ rs) (hk:fP rs r.head.name=k) (h:JS (TA rs k S) r t):TA rs k S t:=by
 obtain ⟨σ,rfl,h1,h2⟩:=h
 have key:∀ l:List Pt,(∀ p ∈ l,p ∈ r.body)→∃ j,∀ p ∈ l,p.no=false→J3 rs k S j (iC σ p.atom):=by
  intro l
  induction l with
  | nil=>intro _; exact ⟨0,fun p I=>by simp at I⟩
  | cons p l ih=>
   intro U;obtain ⟨j,J⟩:=ih fun q hq=>U q (Δ _ hq)
   by_cases hn:p.no=false
   ·obtain ⟨i,hi⟩:=h1 p (U p Γ) hn
    refine ⟨max i j,fun q hq y=>?_⟩
    rcases ύ.1 hq with rfl | hq
    ·exact JU (Nat.le_max_left ..) hi
    ·exact JU (Nat.le_max_right ..) (J q hq y)
   ·refine ⟨j,fun q hq y=>?_⟩
    rcases ύ.1 hq with rfl | hq
    ·exact absurd y hn
    ·exact J q hq y
 obtain ⟨j,J⟩:=key r.body fun p I=>I
 exact ⟨j+1,.inr ⟨r,hr,hk,σ,rfl,J,fun p I hn hs=>h2 p I hn ⟨j,hs⟩⟩⟩
theorem D.Ya {rs:List Ru} (H:uf rs) {S:A→Prop} {r:Ru} {t:A} (hr:r ∈ rs) (h:JS (DY rs S) r t):DY rs S t:=by
 have J:=Wv H hr
 have h1:JS (tZ rs S (fP rs r.head.name+1)) r t:=(lI fun x ⟨p,y,e⟩=>XT (by omega) fun hm=>by
  rw [← e] at hm ⊢;have:=XR H hr y hm
  omega).1 h
 have I:tZ rs S (fP rs r.head.name+1) t:=Oh hr rfl h1;exact JV (by omega) I
theorem D.FY {rs:List Ru} {N:ByteArray→Prop} (hN:∀ r ∈ rs,N r.head.name→∀ p ∈ r.body,N p.atom.name) {S I:A→Prop} (h:∀ t,N t.name→(S t ↔ I t)) {t:A} (y:N t.name):DY rs S t ↔ DY rs I t:=by
 have it:∀ {X J:A→Prop} (k:Nat),(∀ t,N t.name→(X t ↔ J t))→∀ j t,N t.name→(J3 rs k X j t ↔ J3 rs k J j t):=by
  intro X J k hx j
  induction j with
  | zero=>exact hx
  | succ j ih=>
   intro t y;refine or_congr (ih t y) ⟨?_,?_⟩
   ·rintro ⟨r,hr,U,hf⟩
    have hh:N r.head.name:=by
     obtain ⟨σ,rfl,_⟩:=hf;exact y
    exact ⟨r,hr,U,(lI fun x ⟨p,hp,e⟩=>ih x (e ▸ hN r hr hh p hp)).1 hf⟩
   ·rintro ⟨r,hr,U,hf⟩
    have hh:N r.head.name:=by
     obtain ⟨σ,rfl,_⟩:=hf;exact y
    exact ⟨r,hr,U,(lI fun x ⟨p,hp,e⟩=>ih x (e ▸ hN r hr hh p hp)).2 hf⟩
 have lv:∀ k t,N t.name→(tZ rs S k t ↔ tZ rs I k t):=by
  intro k
  induction k with
  | zero=>exact h
  | succ k ih=>
   intro t y;exact ⟨fun ⟨j,hj⟩=>⟨j,(it k ih j t y).1 hj⟩,fun ⟨j,hj⟩=>⟨j,(it k ih j t y).2 hj⟩⟩
 exact lv _ t y
end
section
open Go.RowKit D
attribute [local go_sem ↓] Go.wp_at_zero Go.wp_at_succ
structure D.iw (K:Nat→Prop) (w w':World):Prop where
 os:w'.os=w.os
 tape:w'.tape=w.tape
 output:w'.output=w.output
 size:w.heap.size≤w'.heap.size
 block:∀ k,k < w.heap.size→¬ K k→w'.heap[k]? = w.heap[k]?
theorem D.iw.refl (K:Nat→Prop) (w:World):iw K w w:=⟨rfl,rfl,rfl,ν,fun _ _ _=>rfl⟩
theorem D.iw.trans {K:Nat→Prop} {w w' I:World} (h:iw K w w') (k:iw K w' I):iw K w I:=
 ⟨k.os.trans h.os,k.tape.trans h.tape,k.output.trans h.output,τ h.size k.size,fun i J y=>(k.block i (κ J h.size) y).trans (h.block i J y)⟩
theorem D.iw.of_below {K:Nat→Prop} {w w':World} (h:Below w.heap.size w w'):iw K w w':=⟨h.os,h.tape,h.output,h.size,fun k y _=>h.block k y⟩
structure D.Y5 (gf:Nat) (wR:Array Value) (K:Nat→Prop) (St:Bool→World→List A→List Nat→Prop) (go:List A→Bool):Prop where
 enters:∀ args w,(callFunc gf args).run Tryz.prog w=.ok (.enter gf args) w
 lt:∀ {f:Bool} {w:World} {told:List A} {fb:List Nat},St f w told fb→∀ x ∈ fb,x < w.heap.size
 mine:∀ {f:Bool} {w:World} {told:List A} {fb:List Nat},St f w told fb→∀ x,K x→x ∈ fb
 keep:∀ {f:Bool} {w w':World} {told:List A} {fb:List Nat},St f w told fb→(∀ x ∈ fb,w'.heap[x]? = w.heap[x]?)→w.heap.size≤w'.heap.size→St f w' told fb
 call:∀ (w:World) (told:List A) (fb:List Nat) (a:A) (c1:Value) (ba:List Nat) (b0:Nat),St true w told fb→(∀ x ∈ fb,x < b0)→New b0 w ba→aJ w [.string a.name,c1] a ba→aW a→
  Calls Tryz.prog gf (#[.agg #[.string a.name,c1]] ++ wR) w fun e w'=>e=.returned (.bool (go (told ++ [a])))∧(∃ fb',St (go (told ++ [a])) w' (told ++ [a]) fb'∧∀ x ∈ fb',x ∈ fb∨b0≤x)∧iw K w w'
theorem D.TI {fs:List A} {r:Ru} {I:List A} (h1:∀ t ∈ I,∃ σ,wG fs (iE r.body) (eF r.body) [] (2 ^ (iE r.body).length - 1) σ∧iC σ r.head=t):∀ t ∈ I,lW fs r t:=fun t h=>by
 obtain ⟨σ,⟨_,U,g3⟩,rfl⟩:=h1 t h;refine ⟨σ,rfl,fun p y hn=>?_,fun p y hn=>g3 _ (qY.2 ⟨p,y,hn,rfl⟩)⟩;obtain ⟨j,J,e⟩:=List.getElem_of_mem (qX.2 ⟨p,y,hn,rfl⟩);rw [← e];exact U j J (by rw [Nat.testBit_two_pow_sub_one]; simpa using J)
theorem Oi (vars:List ByteArray) (hv:kC vars) (b:Bd) (a8:jZ vars b) (head:A) (Ah:Option Addr) (ch:Nat) (bh:List Nat) (blk o c5 c7:Nat) {gf:Nat} {wR:Array Value} {K:Nat→Prop} {St:Bool→World→List A→List Nat→Prop} {go:List A→Bool} (TL:Y5 gf wR K St go) (told:List A) (fb:List Nat) (w:World) (hb:iM vars b blk o w) (F:St true w told fb) (hok:aW (cO head b))
  (h5:w.cell? ⟨c5,0,none⟩=some (.func (.func gf) #[] wR)) (h7:w.cell? ⟨c7,0,none⟩=some (.string head.name)) (a9:w.cell? ⟨c7,1,none⟩=some (.slice Ah head.args.length ch))
  (hs:kV vars w [.slice Ah head.args.length ch] head.args bh) (a1:head.name.size≤maxLen) (hin:∀ t ∈ head.args,t.var=true→t.name ∈ vars) (a2:head.args.length≤1000000):
  Calls Tryz.prog 116 #[.pointer (some ⟨blk,o,none⟩),.pointer (some ⟨c5,0,none⟩),.pointer (some ⟨c7,0,none⟩)] w fun e w'=>e=.returned (.bool (go (told ++ [cO head b])))∧(∃ y,St (go (told ++ [cO head b])) w' (told ++ [cO head b]) y∧∀ x ∈ y,x ∈ fb∨w.heap.size≤x)∧iw K w w':=by
 have HF:=η (Nu vars hv b a8 head Ah ch bh blk o w.drew (hb.keep rfl) a1 ((dw vars).keep hs fun _ _=>rfl) hin a2);have eg:=TL.enters;have F0:=TL.lt F
 have a3:Hid (∀ (U:World) (v:Value) (bt:List Nat),Below w.heap.size w U→aJ U [.string head.name,v] (cO head b) bt→New w.heap.size U bt→Calls Tryz.prog gf (#[.agg #[.string head.name,v]] ++ wR) U fun e w'=>e=.returned (.bool (go (told ++ [cO head b])))∧(∃ y,St (go (told ++ [cO head b])) w' (told ++ [cO head b]) y∧∀ x ∈ y,x ∈ fb∨w.heap.size≤x)∧iw K w w'):=η fun U v bt h2 ha hn=>by
  refine (TL.call U told fb (cO head b) v bt w.heap.size (TL.keep F (fun x hx=>h2.block x (F0 x hx)) h2.size) F0 hn ha hok).mono ?_;rintro e w3 ⟨rfl,I,J⟩;exact ⟨rfl,I,(iw.of_below h2).trans J⟩
 generalize go (told ++ [cO head b])=gv at *;clear hb F F0 TL hok hs a1 hin a2;have l5:=lt_of_cell h5;have l7:=lt_of_cell h7
 go_enter Tryz.func116,Tryz.ntmps116
 go_wp2
 go_region_law
  (first
   | (go_simp; go_at_call 117; refine HF.out.mono ?_; rintro e U ⟨v9,b9,rfl,a4,a5,a6⟩; have a0:=η ((Below.refl w.heap.size w).drew.trans a4); replace h5:=ξ a0.out h5; have a7:=η (a3.out U v9 b9 a0.out a5 a6); clear a4 a5 a6)
   | (go_simp; go_at_fn gf; refine a7.out.mono ?_; rintro e w3 ⟨rfl,I,J⟩; have HZ:=η (ι I J); clear I J))
 all_goals
  clear h5 h7 a9 a7 a3 HF a0;go_wp2;go_ret;exact ⟨rfl,HZ.out⟩
def D.Oj (sb:Nat) (y I J:Value):Array Value:=#[.pointer (some ⟨sb,0,none⟩),y,I,J,.bool false,.bool false,.bool false,.bool false,.bool false,.bool false,.bool false,.bool false,.bool false,.bool false,.bool false,.bool false,.bool false,.int .i64 0,
 .string ⟨#[]⟩,.string ⟨#[]⟩,.string ⟨#[]⟩,.string ⟨#[]⟩,.string ⟨#[]⟩,.string ⟨#[]⟩,.string ⟨#[]⟩,.string ⟨#[]⟩,.string ⟨#[]⟩,.string ⟨#[]⟩,.string ⟨#[]⟩,.string ⟨#[]⟩,
 .int .i64 0,.int .i64 0,.int .i64 0,.int .i64 0,.int .i64 0,.int .i64 0,.int .i64 0,.int .i64 0,.int .i64 0,.int .i64 0,.int .i64 0,.int .i64 0,.int .i64 0,.nilFunc]
theorem D.YN {w:World} {sk sb:Nat} {y I U:Value} {t:TypeId} (vars:List ByteArray) (h:w.heap[sk]? = some (.cells (Oj sb y I U) t (0,0))):mP sk sb y I (fun _=>false) false 0 .nilFunc w∧iM vars [] sk 18 w∧∀ q,w.frozen? ⟨sk,q,none⟩=false:=by
 have c:=fun o=>ai h (o:=o)
 refine ⟨⟨c 0,c 1,c 2,fun i J=>?_,c 16,c 17,c 43⟩,⟨fun i J=>?_,fun i J=>⟨0,?_,fun h=>by simp at h⟩,c 42,fun i _=>ax h⟩,fun q=>ax h⟩
 ·rw [c]
  have:i=0∨i=1∨i=2∨i=3∨i=4∨i=5∨i=6∨i=7∨i=8∨i=9∨i=10∨i=11:=by omega
  rcases this with rfl | rfl | rfl | rfl | rfl | rfl | rfl | rfl | rfl | rfl | rfl | rfl <;> rfl
 ·rw [c]
  have e:JZ vars [] i=⟨#[]⟩:=by unfold JZ; split <;> rfl
  rw [e];have:i=0∨i=1∨i=2∨i=3∨i=4∨i=5∨i=6∨i=7∨i=8∨i=9∨i=10∨i=11:=by omega
  rcases this with rfl | rfl | rfl | rfl | rfl | rfl | rfl | rfl | rfl | rfl | rfl | rfl <;> rfl
 ·rw [c]
  have:i=0∨i=1∨i=2∨i=3∨i=4∨i=5∨i=6∨i=7∨i=8∨i=9∨i=10∨i=11:=by omega
  rcases this with rfl | rfl | rfl | rfl | rfl | rfl | rfl | rfl | rfl | rfl | rfl | rfl <;> rfl
theorem D.mP.tell {sk sb:Nat} {I J:Value} {wt:Nat→Bool} {io:Bool} {ah:Int} {U:Value} {w:World} (h:mP sk sb I J wt io ah U w) (y:Value):mP sk sb I J wt io ah y (w.setCell ⟨sk,43,none⟩ y):=by
 have c:=D.kM w sk 43 y h.tl;exact ⟨by rw [c,if_neg (by omega)]; exact h.st,by rw [c,if_neg (by omega)]; exact h.p1,by rw [c,if_neg (by omega)]; exact h.p2,fun i hi=>by rw [c,if_neg (by omega)]; exact h.wd i hi,by rw [c,if_neg (by omega)]; exact h.io,by rw [c,if_neg (by omega)]; exact h.ah,by rw [c,if_pos rfl]⟩
theorem D.iM.tell {vars:List ByteArray} {b:Bd} {sk:Nat} {J:Value} {w:World} (h:iM vars b sk 18 w) (U:w.cell? ⟨sk,43,none⟩=some J) (I:Value):iM vars b sk 18 (w.setCell ⟨sk,43,none⟩ I):=by
 have c:=D.kM w sk 43 I U
 exact ⟨fun i y=>by rw [c,if_neg (by omega)]; exact h.wd i y,fun i y=>by
  obtain ⟨z,h1,h2⟩:=h.bd i y
  exact ⟨z,by rw [c,if_neg (by omega)]; exact h1,h2⟩,by rw [c,if_neg (by omega)]; exact h.ct,fun i y=>by rw [World.frozen?_setCell]; exact h.fz i y⟩
structure D.FZ (gf:Nat) (wR:Array Value) (St:Bool→World→List A→List Nat→Prop) (vars:List ByteArray) (head:A) (Ah:Option Addr) (ch:Nat) (bh:List Nat) (sk c5 c7:Nat) (fb:List Nat) (n0:Nat) (f:Bool) (w:World) (told:List A):Prop where
 fnd:∃ fb',St f w told fb'∧(∀ x ∈ fb',x ≠ sk)∧∀ x ∈ fb',x ∈ fb∨n0≤x
 f5:w.heap[c5]? = some (.cells #[.func (.func gf) #[] wR] 105 (0,0))
 f7:w.heap[c7]? = some (.cells #[.string head.name,.slice Ah head.args.length ch] 168 (0,0))
 sl:kV vars w [.slice Ah head.args.length ch] head.args bh
 qE:n0≤w.heap.size
theorem D.FZ.keep {gf:Nat} {wR:Array Value} {K:Nat→Prop} {St:Bool→World→List A→List Nat→Prop} {go:List A→Bool} (TL:Y5 gf wR K St go) {vars:List ByteArray} {head:A} {Ah:Option Addr} {ch:Nat} {J:List Nat} {sk c5 c7:Nat} {fb:List Nat} {n0:Nat} {f:Bool} {w w':World} {told:List A} (h:FZ gf wR St vars head Ah ch J sk c5 c7 fb n0 f w told) (n5:c5 ≠ sk) (n7:c7 ≠ sk) (nb:∀ x ∈ J,x ≠ sk) (hs:w.heap.size≤w'.heap.size)
  (I:∀ x,x < w.heap.size→x ≠ sk→w'.heap[x]? = w.heap[x]?):FZ gf wR St vars head Ah ch J sk c5 c7 fb n0 f w' told:=by
 obtain ⟨U,g1,g2,g3⟩:=h.fnd;exact ⟨⟨U,TL.keep g1 (fun x y=>I x (TL.lt g1 x y) (g2 x y)) hs,g2,g3⟩,(I _ (ψ h.f5) n5).trans h.f5,(I _ (ψ h.f7) n7).trans h.f7,(dw vars).keep h.sl fun x y=>I x ((dw vars).lt h.sl x y) (nb x y),τ h.qE hs⟩
theorem D.Wy {gf:Nat} {wR:Array Value} {K:Nat→Prop} {St:Bool→World→List A→List Nat→Prop} {go:List A→Bool} (TL:Y5 gf wR K St go) {r:Ru} (R:lC r) (hV:kC (aF r.body)) (hin:∀ t ∈ r.head.args,t.var=true→t.name ∈ aF r.body) (a0:r.head.name.size≤maxLen) {Ah:Option Addr} {ch:Nat} {bh:List Nat} {sk c5 c7:Nat} {fb:List Nat} {n0:Nat} (n5:c5 ≠ sk∧¬ K c5) (n7:c7 ≠ sk∧¬ K c7) (nb:∀ x ∈ bh,x ≠ sk∧¬ K x) (nm:¬ K sk):
  xW (aF r.body) r.head sk (fun k=>k ≠ sk∧¬ K k) ⟨c5,0,none⟩ ⟨c7,0,none⟩ (FZ gf wR St (aF r.body) r.head Ah ch bh sk c5 c7 fb n0) go:=by
 refine ⟨fun w b told a1 hw hc hb y=>?_,fun {f} w w' told y hk=>y.keep TL n5.1 n7.1 (fun x J=>(nb x J).1) hk.grow.size fun x J a2=>hk.block J a2⟩;obtain ⟨a3,g1,g2,g3⟩:=y.fnd;refine (Oi (aF r.body) hV b a1 r.head Ah ch bh sk 18 c5 c7 TL told a3 w hb g1 (Tv R hw hc) (ai y.f5) (ai y.f7) (ai y.f7) y.sl a0 hin (by have:=oM R.hok; omega)).mono ?_;rintro e w2 ⟨rfl,⟨a4,h1,h2⟩,I⟩;have U:=hb.lt;have hs:=y.qE
 refine ⟨rfl,⟨⟨a4,h1,fun x J=>?_,fun x J=>?_⟩,(I.block _ (ψ y.f5) n5.2).trans y.f5,(I.block _ (ψ y.f7) n7.2).trans y.f7,(dw _).keep y.sl fun x J=>I.block x ((dw _).lt y.sl x J) (nb x J).2,τ hs I.size⟩,
  ⟨I.os,I.tape,I.output,I.size,fun k hk hK=>I.block k hk hK.2,fun q _=>World.cell?_of_block (I.block _ U nm)⟩,I.block _ U nm⟩
 ·rcases h2 x J with h | h
  ·exact g2 x h
  ·omega
 ·rcases h2 x J with h | h
  ·exact g3 x h
  ·exact .inr (τ hs h)
theorem P9 (sb:Nat) (fs:List A) (rn:List Nat) (bs:List Nat) (r:Ru) (c0 c1 c2:Value) (br:List Nat) {gf:Nat} {wR:Array Value} {K:Nat→Prop} {St:Bool→World→List A→List Nat→Prop} {go:List A→Bool} (TL:Y5 gf wR K St go) (told:List A) (fb:List Nat) (w:World) (ST:kW sb fs rn bs w) (bl:∀ f ∈ fs,aW f) (bo:fs.length≤1000000) (hr:iy w [c0,c1,c2] r br) (R:lC r)
  (F:St true w told fb) (cm:∀ x ∈ bs,¬ K x) (cP:∀ x ∈ br,¬ K x):
  Calls Tryz.prog 59 #[.pointer (some ⟨sb,0,none⟩),.agg #[c0,c1,c2],.func (.func gf) #[] wR] w fun e w'=>e=.returned (.tuple #[])∧
   ∃ ts a5 more,St more w' (told ++ ts) a5∧(∀ x ∈ a5,x ∈ fb∨w.heap.size≤x)∧iw K w w'∧(∀ t ∈ ts,lW fs r t)∧(more=true→∀ t,lW fs r t→t ∈ ts)∧(more=false→go (told ++ ts)=false):=by
 obtain ⟨a1,a2,Ab,cb,rfl,rfl,rfl⟩:=pY hr;obtain ⟨co,cq,cQ,ae,af⟩:=iW hr;have hV:=QI R;have b9:Below w.heap.size w ((w.alloc (.cells #[.string r.head.name,.slice a1 r.head.args.length a2,.slice Ab r.body.length cb] 40)).alloc (.cells #[.func (.func gf) #[] wR] 105)):=(ζ).alloc (by simp) _
 have bt:((w.alloc (.cells #[.string r.head.name,.slice a1 r.head.args.length a2,.slice Ab r.body.length cb] 40)).alloc (.cells #[.func (.func gf) #[] wR] 105)).heap[w.heap.size+1]? = some (.cells #[.func (.func gf) #[] wR] 105 (0,0)):=by
  have:=ω (w.alloc (.cells #[.string r.head.name,.slice a1 r.head.args.length a2,.slice Ab r.body.length cb] 40)) (.cells #[.func (.func gf) #[] wR] 105);simpa using this
 have bu:((w.alloc (.cells #[.string r.head.name,.slice a1 r.head.args.length a2,.slice Ab r.body.length cb] 40)).alloc (.cells #[.func (.func gf) #[] wR] 105)).heap[w.heap.size]? = some (.cells #[.string r.head.name,.slice a1 r.head.args.length a2,.slice Ab r.body.length cb] 40 (0,0)):=by
  rw [Below.heap_alloc _ _ _ (by simp)];exact ω _ _
 have hq:=Nr r.body (.slice Ab r.body.length cb) cq _ (dN.below af b9) (by have:=R.few; omega) (fun p hp=>by have:=oM (R.pok p hp); omega);have ag:=η b9;have cr:=η bt;have bv:=η bu;have HH:=η ae;have bw:((w.alloc (.cells #[.string r.head.name,.slice a1 r.head.args.length a2,.slice Ab r.body.length cb] 40)).alloc (.cells #[.func (.func gf) #[] wR] 105)).heap.size=w.heap.size+2:=by simp
 have aD:=η bw;clear hr b9 bt bu ae af bw
 go_enter Tryz.func59,Tryz.ntmps59
 go_wp2_with fail
 generalize ((w.alloc (.cells #[.string r.head.name,.slice a1 r.head.args.length a2,.slice Ab r.body.length cb] 40)).alloc (.cells #[.func (.func gf) #[] wR] 105))=W0 at *;refine hq.mono ?_;rintro e w1 ⟨A1,n1,q1,U,n2,q2,A3,q3,bq,rfl,am,cv,bx⟩;obtain ⟨v1,v2,v3,b1,b2,b3,he,rfl,bc,aa,bz⟩:=cv;simp only [List.cons.injEq,and_true] at he;obtain ⟨rfl,rfl,rfl⟩:=he;obtain ⟨_,_,e1,_⟩:=aj bc;obtain ⟨_,_,e2,_⟩:=aj aa;simp only [Value.slice.injEq] at e1 e2;obtain ⟨-,rfl,-⟩:=e1;obtain ⟨-,rfl,-⟩:=e2;have bf:Below w1.heap.size w1 (w1.alloc (.cells #[.slice A1 (iE r.body).length q1,.slice U (eF r.body).length q2,.slice A3 (aF r.body).length q3] 164)):=ζ;have a6:=η (am.trans (bf.mono am.size))
 have bA:=Dj (aF r.body) r.head A1 U (iE r.body).length q1 (eF r.body).length q2 (.slice A3 (aF r.body).length q3) (.string r.head.name) (.slice a1 r.head.args.length a2) b3 co _ (bP.below bz bf) (zi r.body) (by have:=hV.few; omega) (ak.Un HH.out (ag.out.trans (a6.out.mono ag.out.size)) (fun b hb=>ak.lt HH.out b hb)) (JQ (fs:=[]) R (by simp) (by simp) (wt:=fun i=>NP (aF r.body) r.head (eF r.body) i) (fun _ _=>rfl)).hin (by have:=oM R.hok; omega);have x4:W0.cell? ⟨w.heap.size,0,none⟩=some (.string r.head.name):=ai bv.out;have x5:W0.cell? ⟨w.heap.size,1,none⟩=some (.slice a1 r.head.args.length a2):=ai bv.out;have u4:(w1.alloc (.cells #[.slice A1 (iE r.body).length q1,.slice U (eF r.body).length q2,.slice A3 (aF r.body).length q3] 164)).cell? ⟨w.heap.size,0,none⟩=some (.string r.head.name):=ξ a6.out x4
 have u5:(w1.alloc (.cells #[.slice A1 (iE r.body).length q1,.slice U (eF r.body).length q2,.slice A3 (aF r.body).length q3] 164)).cell? ⟨w.heap.size,1,none⟩=some (.slice a1 r.head.args.length a2):=ξ a6.out x5;have a3:=η (ι bc (ι aa (ι am bx)));have bg:Hid ((w1.alloc (.cells #[.slice A1 (iE r.body).length q1,.slice U (eF r.body).length q2,.slice A3 (aF r.body).length q3] 164)).heap[w1.heap.size]? = some (.cells #[.slice A1 (iE r.body).length q1,.slice U (eF r.body).length q2,.slice A3 (aF r.body).length q3] 164 (0,0))∧W0.heap.size≤w1.heap.size):=η ⟨ω _ _,am.size⟩;clear hq am bx bc aa bz bf
 go_wp2_with fail
 refine bA.mono ?_;rintro e y ⟨vp,bh,rfl,a7,aE,ab,bB⟩;obtain ⟨Ah,ch,rfl,_⟩:=aj ab;have bE:Below y.heap.size y (y.alloc (.cells #[.string r.head.name,.slice Ah r.head.args.length ch] 168)):=ζ;have cw:=η (a7.trans (bE.mono a7.size));have ao:=(a7.block _ (ψ bg.out.1)).trans bg.out.1;have u0:y.cell? ⟨w1.heap.size,0,none⟩=some (.slice A1 (iE r.body).length q1):=ai ao;have u1:y.cell? ⟨w1.heap.size,1,none⟩=some (.slice U (eF r.body).length q2):=ai ao;have u2:y.cell? ⟨w1.heap.size,2,none⟩=some (.slice A3 (aF r.body).length q3):=ai ao;have u3:w1.heap.size < y.heap.size:=ψ ao;have aq:=η (ι aE (ι ab bB));have cx:Hid (∀ x,x < (w1.alloc (.cells #[.slice A1 (iE r.body).length q1,.slice U (eF r.body).length q2,.slice A3 (aF r.body).length q3] 164)).heap.size→y.heap[x]? = (w1.alloc (.cells #[.slice A1 (iE r.body).length q1,.slice U (eF r.body).length q2,.slice A3 (aF r.body).length q3] 164)).heap[x]?):=η fun x I=>a7.block x I
 have aM:=η a7
 have bL:Hid (∀ x ∈ b2,x ≠ y.heap.size+1):=η fun x I=>by
  have h1:=(dX (aF r.body)).lt a3.out.2.1 x I;have h2:=a7.size;simp at h2;omega
 clear bA a7 aE ab bB bE u4 u5 x4 x5 ao;have hE:=JQ R bl bo (wt:=fun i=>NP (aF r.body) r.head (eF r.body) i) (fun _ _=>rfl)
 have bO:((y.alloc (.cells #[.string r.head.name,.slice Ah r.head.args.length ch] 168)).alloc (.cells (Oj sb (.slice A1 (iE r.body).length q1) (.slice U (eF r.body).length q2) (.slice A3 (aF r.body).length q3)) 178)).heap[y.heap.size+1]? = some (.cells (Oj sb (.slice A1 (iE r.body).length q1) (.slice U (eF r.body).length q2) (.slice A3 (aF r.body).length q3)) 178 (0,0)):=by
  have:=ω (y.alloc (.cells #[.string r.head.name,.slice Ah r.head.args.length ch] 168)) (.cells (Oj sb (.slice A1 (iE r.body).length q1) (.slice U (eF r.body).length q2) (.slice A3 (aF r.body).length q3)) 178);simpa using this
 obtain ⟨aR,bR,bi⟩:=YN (aF r.body) bO;have bj:Below y.heap.size y ((y.alloc (.cells #[.string r.head.name,.slice Ah r.head.args.length ch] 168)).alloc (.cells (Oj sb (.slice A1 (iE r.body).length q1) (.slice U (eF r.body).length q2) (.slice A3 (aF r.body).length q3)) 178)):=(ζ).alloc (by simp) _
 have bX:((y.alloc (.cells #[.string r.head.name,.slice Ah r.head.args.length ch] 168)).alloc (.cells (Oj sb (.slice A1 (iE r.body).length q1) (.slice U (eF r.body).length q2) (.slice A3 (aF r.body).length q3)) 178)).heap[y.heap.size]? = some (.cells #[.string r.head.name,.slice Ah r.head.args.length ch] 168 (0,0)):=by
  rw [Below.heap_alloc _ _ _ (by simp)];exact ω _ _
 have a0:=(dw (aF r.body)).lt aq.out.2.1;have c3:=Nz (aF r.body) hV r.head Ah ch bh (y.heap.size+1) sb _ _ _ false 0 .nilFunc _ aR bi ((dw _).below aq.out.2.1 bj) hE.hin (fun hm=>by have:=a0 _ hm; omega) (by have:=oM R.hok; omega);have cy:Hid (((y.alloc (.cells #[.string r.head.name,.slice Ah r.head.args.length ch] 168)).alloc (.cells (Oj sb (.slice A1 (iE r.body).length q1) (.slice U (eF r.body).length q2) (.slice A3 (aF r.body).length q3)) 178)).heap.size=y.heap.size+2):=η (by simp);have a8:=η (ι bR (ι bi (ι bj bX)));have cz:=η a0;clear aR bR bi bj bX bO a0
 go_wp2_with fail
 refine c3.mono ?_;rintro e w3 ⟨rfl,b4,ar⟩;generalize ((y.alloc (.cells #[.string r.head.name,.slice Ah r.head.args.length ch] 168)).alloc (.cells (Oj sb (.slice A1 (iE r.body).length q1) (.slice U (eF r.body).length q2) (.slice A3 (aF r.body).length q3)) 178))=WS at *;have z1:=a6.out.size;have z2:=cw.out.size;have z3:=bg.out.2;have z4:=cy.out;have z5:=aD.out;simp at z1 z2;have HZ:Hid (w.heap.size+2≤w1.heap.size∧w1.heap.size < y.heap.size∧WS.heap.size=y.heap.size+2):=η ⟨by omega,u3,z4⟩;have b5:y.cell? ⟨w1.heap.size,1,none⟩=some (.slice U (eF r.body).length q2):=u1
 have c4:Hid (∀ wr:World,ja (y.heap.size+1) WS wr→wr.cell? ⟨w1.heap.size,1,none⟩=some (.slice U (eF r.body).length q2)∧uN (aF r.body) wr [.slice U (eF r.body).length q2] (eF r.body) b2):=η fun wr hk=>by
  have kp:∀ x,x < y.heap.size→wr.heap[x]? = y.heap[x]?:=fun x I=>(hk.grow.block x (by rw [z4]; omega) (fun e=>by injection e with e; omega)).trans (a8.out.2.2.1.block x I)
  have hp:=(dX (aF r.body)).below a3.out.2.1 ((Below.refl w1.heap.size w1).alloc ν (.cells #[.slice A1 (iE r.body).length q1,.slice U (eF r.body).length q2,.slice A3 (aF r.body).length q3] 164));have aa:=(dX (aF r.body)).keep (w':=y) hp fun x I=>cx.out x ((dX (aF r.body)).lt hp x I)
  exact ⟨(World.cell?_of_block (kp _ u3)).trans b5,(dX (aF r.body)).keep aa fun x I=>kp x ((dX (aF r.body)).lt aa x I)⟩
 have y1:=(c4.out w3 ar).1;have c6:∀ n ∈ eF r.body,∀ t ∈ n.args,t.var=true→t.name ∈ aF r.body:=hE.nin;have c8:∀ n ∈ eF r.body,aZ n=true:=hE.nok;have c9:=η (ι c6 c8)
 have ca:Hid (mP (y.heap.size+1) sb (.slice A1 (iE r.body).length q1) (.slice U (eF r.body).length q2) (fun i=>gX (aF r.body) r.head.args i || ((eF r.body).take 0).any fun n=>gX (aF r.body) n.args i) false 0 .nilFunc w3∧ja (y.heap.size+1) WS w3):=η ⟨by
  have e:(fun i=>gX (aF r.body) r.head.args i || ((eF r.body).take 0).any fun n=>gX (aF r.body) n.args i)=fun i=>false || gX (aF r.body) r.head.args i:=funext fun i=>by simp
  rw [e]; exact b4,ar⟩
 have cT:(eF r.body).length≤1000000:=hE.nl;clear c3 b4 ar u0 u1 u2 b5 c6 c8;go_wp2
 go_loopw [28] (fun i wr=>∃ (k:Nat),k≤(eF r.body).length∧i=.int .i64 k∧mP (y.heap.size+1) sb (.slice A1 (iE r.body).length q1) (.slice U (eF r.body).length q2) (fun i=>gX (aF r.body) r.head.args i || ((eF r.body).take k).any fun n=>gX (aF r.body) n.args i) false 0 .nilFunc wr∧ja (y.heap.size+1) WS wr) (fun i _=>(eF r.body).length - (intOf i).toNat)
 case atStart=>exact ⟨0,ε,rfl,ca.out⟩
 case round=>
  obtain ⟨k,hk,rfl,hI,hK⟩:=hrel;clear ca y1;by_cases ac:k < (eF r.body).length
  ·obtain ⟨bq,oq,An,cn,bk,rfl,cA,f0,f1,⟨vv,cc,aE,ab⟩,b6⟩:=yR (c4.out wr hK).2 ac
   simp only [List.cons.injEq,and_true,true_and] at cc;subst cc;have cU:(0:Int)≤(k:Int):=by omega
   have cB:(k:Int) < ((eF r.body).length:Int):=by omega
   have av:Below wr.heap.size wr (wr.alloc (.cells #[.string (eF r.body)[k].name,.slice An (eF r.body)[k].args.length cn] 168)):=ζ;have aw:=Nz (aF r.body) hV (eF r.body)[k] An cn bk (y.heap.size+1) sb _ _ _ false 0 .nilFunc (wr.alloc (.cells #[.string (eF r.body)[k].name,.slice An (eF r.body)[k].args.length cn] 168)) (hI.keep (av.block _ hI.lt)) (fun q=>(World.frozen?_of_block (av.block _ hI.lt)).trans ((hK.frz q).trans (a8.out.2.1 q))) ((dw _).below ab av) (c9.out.1 _ (δ ac)) (fun hm=>bL.out _ (b6 _ hm) rfl) (by have:=oM (c9.out.2 _ (δ ac)); omega);have cd:=η (hK.trans (ja.of_below av hI.lt))
   have ce:Hid (∀ i,(gX (aF r.body) r.head.args i || ((eF r.body).take (k+1)).any fun n=>gX (aF r.body) n.args i)=((gX (aF r.body) r.head.args i || ((eF r.body).take k).any fun n=>gX (aF r.body) n.args i) || gX (aF r.body) (eF r.body)[k].args i)):=η fun i=>by
    rw [ρ ac,List.any_append]; simp [Bool.or_assoc]
   have cg:=η ac;clear hI hK av aE ab b6 hk cA;generalize (eF r.body)[k]=n at *;obtain ⟨nn,cD⟩:=n;dsimp only at *;clear ac
   go_wp2_with fail
   refine aw.mono ?_;rintro e w4 ⟨rfl,ci,cj⟩
   have cE:Hid (mP (y.heap.size+1) sb (.slice A1 (iE r.body).length q1) (.slice (some ⟨bq,oq,none⟩) (eF r.body).length q2) (fun i=>gX (aF r.body) r.head.args i || ((eF r.body).take (k+1)).any fun n=>gX (aF r.body) n.args i) false 0 .nilFunc w4∧ja (y.heap.size+1) WS w4):=η ⟨by
    rw [funext ce.out]; exact ci,cd.out.trans cj⟩
   clear aw ci cj cd ce;go_wp2;go_roundw
   case rel=>exact ⟨k+1,cg.out,by go_num,cE.out⟩
   case measure=>have:=cg.out; simp [intOf]; omega
  ·have he:k=(eF r.body).length:=by omega
   have cB:¬ (k:Int) < ((eF r.body).length:Int):=by omega
   rw [ϕ (Nat.le_of_eq he.symm)] at hI;have hz:=HZ.out;have cV:=hK.grow.size;have cG:=hI.tl;have cW:wr.frozen? ⟨y.heap.size+1,43,none⟩=false:=(hK.frz 43).trans (a8.out.2.1 43);have J:Below w.heap.size w WS:=ag.out.trans ((a6.out.mono ag.out.size).trans ((aM.out.mono (τ ag.out.size a6.out.size)).trans (a8.out.2.2.1.mono (by omega))));have cK:=η J
   have a4:∀ x,x < y.heap.size+1→(wr.setCell ⟨y.heap.size+1,43,none⟩ (.func (.func 116) #[] #[.pointer (some ⟨w.heap.size+1,0,none⟩),.pointer (some ⟨y.heap.size,0,none⟩)])).heap[x]? = WS.heap[x]?:=fun x I=>
    (π _ _ _ _ (by show x ≠ y.heap.size+1; omega)).trans (hK.grow.block x (by omega) (fun e=>by injection e with e; omega))
   have az:∀ x,x < y.heap.size→WS.heap[x]? = y.heap[x]?:=fun x I=>a8.out.2.2.1.block x I
   have aL:∀ x,x < w1.heap.size→y.heap[x]? = w1.heap[x]?:=fun x I=>(aM.out.block x (by simp; omega)).trans (Below.heap_alloc _ _ _ I)
   have S5:qW (aF r.body) fs rn bs (iE r.body) (eF r.body) (y.heap.size+1) sb (.slice A1 (iE r.body).length q1) (.slice U (eF r.body).length q2) b1 b2 (fun i=>gX (aF r.body) r.head.args i || (eF r.body).any fun n=>gX (aF r.body) n.args i) 0
     (.func (.func 116) #[] #[.pointer (some ⟨w.heap.size+1,0,none⟩),.pointer (some ⟨y.heap.size,0,none⟩)]) (fun k=>k ≠ y.heap.size+1∧¬ K k) []
     (wr.setCell ⟨y.heap.size+1,43,none⟩ (.func (.func 116) #[] #[.pointer (some ⟨w.heap.size+1,0,none⟩),.pointer (some ⟨y.heap.size,0,none⟩)])):=by
    refine ⟨hI.tell _,(a8.out.1.wt hK).tell cG _,jZ.nil _,fun p hp=>by simp at hp,ST.keep (fun x I=>?_) ?_,(dX _).keep a3.out.1 fun x I=>?_,(dX _).keep a3.out.2.1 fun x I=>?_,fun x I=>⟨?_,cm x I⟩,fun x I=>?_,fun x I=>?_⟩
    ·have:=ST.lt x I
     exact (a4 x (by omega)).trans (J.block x this)
    ·simp [World.setCell]; omega
    ·have:=(dX (aF r.body)).lt a3.out.1 x I
     exact (a4 x (by omega)).trans ((az x (by omega)).trans (aL x this))
    ·have:=(dX (aF r.body)).lt a3.out.2.1 x I
     exact (a4 x (by omega)).trans ((az x (by omega)).trans (aL x this))
    ·have:=ST.lt x I; omega
    ·have h1:=(dX (aF r.body)).lt a3.out.1 x I
     have h2:=a3.out.2.2.2 x (by simp [I]);have h4:=aD.out;exact ⟨by omega,fun hK=>by have:=TL.lt F x (TL.mine F x hK); omega⟩
    ·have h1:=(dX (aF r.body)).lt a3.out.2.1 x I
     have h2:=a3.out.2.2.2 x (by simp [I]);have h4:=aD.out;exact ⟨by omega,fun hK=>by have:=TL.lt F x (TL.mine F x hK); omega⟩
   have a9:∀ x,K x→x < w.heap.size:=fun x I=>TL.lt F x (TL.mine F x I)
   have a0:=cz.out
   have ck:FZ gf wR St (aF r.body) r.head Ah ch bh (y.heap.size+1) (w.heap.size+1) y.heap.size fb w.heap.size true (wr.setCell ⟨y.heap.size+1,43,none⟩ (.func (.func 116) #[] #[.pointer (some ⟨w.heap.size+1,0,none⟩),.pointer (some ⟨y.heap.size,0,none⟩)])) told:=by
    refine ⟨⟨fb,TL.keep F (fun x I=>?_) ?_,fun x I=>?_,fun x I=>.inl I⟩,?_,?_,(dw _).keep aq.out.2.1 fun x I=>?_,?_⟩
    ·have:=TL.lt F x I
     exact (a4 x (by omega)).trans (J.block x this)
    ·simp [World.setCell]; omega
    ·have:=TL.lt F x I; omega
    ·have h4:=aD.out
     have h9:=a6.out.block (w.heap.size+1) (by omega);rw [Below.heap_alloc _ _ _ (by omega)] at h9;exact (a4 _ (by omega)).trans ((az _ (by omega)).trans ((aL _ (by omega)).trans (h9.trans cr.out)))
    ·exact (a4 _ (by omega)).trans a8.out.2.2.2
    ·have:=a0 x I
     exact (a4 x (by omega)).trans (az x this)
    ·simp [World.setCell]; omega
   have cl:∀ x ∈ bh,x ≠ y.heap.size+1∧¬ K x:=fun x I=>by
    have h1:=a0 x I;have h2:=(aq.out.2.2.own x I).1;simp at h2;exact ⟨by omega,fun hK=>by have:=a9 x hK; omega⟩
   have b7:=GI (aF r.body) fs rn bs (iE r.body) (eF r.body) r.head (y.heap.size+1) sb A1 q1 U q2 b1 b2 (fun i=>gX (aF r.body) r.head.args i || (eF r.body).any fun n=>gX (aF r.body) n.args i) 0 ⟨w.heap.size+1,0,none⟩ ⟨y.heap.size,0,none⟩ (fun k=>k ≠ y.heap.size+1∧¬ K k)
    (FZ gf wR St (aF r.body) r.head Ah ch bh (y.heap.size+1) (w.heap.size+1) y.heap.size fb w.heap.size) go (JQ R bl bo fun i _=>rfl) (fun k hk=>hk.1)
    (Wy TL R hV hE.hin aq.out.1 ⟨by omega,fun hK=>by have:=a9 _ hK; omega⟩ ⟨by omega,fun hK=>by have:=a9 _ hK; omega⟩ cl (fun hK=>by have:=a9 _ hK; omega)) told _ S5 ck
   have b8:Hid (∀ w9 held more,jr (aF r.body) fs (iE r.body) (eF r.body) r.head (fun k=>k ≠ y.heap.size+1∧¬ K k) (y.heap.size+1) (FZ gf wR St (aF r.body) r.head Ah ch bh (y.heap.size+1) (w.heap.size+1) y.heap.size fb w.heap.size) go [] (2 ^ (iE r.body).length - 1) told held more
     (wr.setCell ⟨y.heap.size+1,43,none⟩ (.func (.func 116) #[] #[.pointer (some ⟨w.heap.size+1,0,none⟩),.pointer (some ⟨y.heap.size,0,none⟩)])) w9→
     ∃ ts a5 more,St more w9 (told ++ ts) a5∧(∀ x ∈ a5,x ∈ fb∨w.heap.size≤x)∧iw K w w9∧(∀ t ∈ ts,lW fs r t)∧(more=true→∀ t,lW fs r t→t ∈ ts)∧(more=false→go (told ++ ts)=false)):=η fun w9 held more hP=>by
    obtain ⟨ts,p1,_,p3,p4,p5,_,p7⟩:=hP;obtain ⟨a5,g1,g2,g3⟩:=p3.fnd;have cI:w.heap.size≤wr.heap.size:=by omega
    exact ⟨ts,a5,more,g1,g3,⟨p1.os.trans (hK.grow.os.trans J.os),p1.tape.trans (hK.grow.tape.trans J.tape),p1.output.trans (hK.grow.output.trans J.output),τ cI (τ (by simp [World.setCell]) p1.size),
     fun x I cJ=>(p1.block x (by simp [World.setCell]; omega) ⟨by omega,cJ⟩).trans ((a4 x (by omega)).trans (J.block x I))⟩,TI p4,fun h t=>(V7 R p4 (p5 h) t).2,p7⟩
   have cL:y.heap.size+1 < wr.heap.size:=by omega
   clear S5 ck cl hI hK J a4 az aL a0 hE
   go_wp2_with fail
   refine b7.mono ?_;rintro e w9 ⟨rfl,held,more,hP⟩;have HD:=η (b8.out w9 held more hP);clear b7 hP b8;go_wp2
   go_end0
   exact ⟨rfl,HD.out⟩
end
section
open Go.RowKit D
theorem D.YO {rs:List Ru} (h:uf rs) {r:Ru} (hr:r ∈ rs):fP rs r.head.name < rs.length:=by
 obtain ⟨i,y,rfl⟩:=List.getElem_of_mem hr;obtain ⟨h1,U⟩:=lG h.cyc;have I:=vS h1;have e:dQ rs i=rs[i]:=by unfold dQ; simp [List.getD,y]
 have J:=U i y;rw [e] at J;rw [← J];unfold mG at I;rw [List.any_eq_false] at I
 have h5:iZ (aA rs) i ∈ aA rs:=by
  unfold iZ; rw [List.getD_eq_getElem?_getD,Ψ (by rw [gu]; exact y)]; exact δ _
 have:=I _ h5;simpa using this
structure D.wQ (rs:List Ru) (given:List A) (L:Nat) (fs:List A) (rn:List Nat) (number:Nat) (r:Rd) (fuel:Nat):Prop where
 sim:X9 fs rn r
 ok:qB r
 fact:∀ x ∈ r.1,aW x
 len:r.1.length≤300
 num:number≤r.1.length
 fu:302≤fuel+r.1.length
 run:jb rs given=Ea rs (aA rs) (rs.length+1 - L) fuel r number
def D.ru (rs:List Ru) (given:List A) (L:Nat) (fs:List A) (rn:List Nat) (number:Nat):Prop:=∃ r fuel,wQ rs given L fs rn number r fuel
def D.rC (rs:List Ru) (given:List A) (L:Nat) (own next:List Ru) (fs:List A) (rn:List Nat) (number:Nat):Prop:=
 (∃ r fuel,wQ rs given L fs rn number r fuel∧(∀ q ∈ next,q ∈ own)∧∀ q ∈ own,q ∉ next→∀ t,lW fs q t→t ∈ fs)∨(next = []∧ru rs given (L+1) fs rn number)
open Classical in
noncomputable def D.Qa (own:List Ru) (new:List A):List Ru:=own.filter fun q=>q.body.any fun p=>!p.no && decide (∃ t ∈ new,t.name=p.atom.name)
section
variable {rs:List Ru} {given:List A} {L:Nat} {own next:List Ru} {fs:List A} {rn:List Nat} {number fuel:Nat} {r:Rd}
theorem D.wQ.XU (h:wQ rs given L fs rn number r fuel):fs.length=r.1.length:=(h.sim.fst h.ok).length_eq
theorem D.wQ.facts (h:wQ rs given L fs rn number r fuel):∀ x ∈ fs,aW x:=fun x y=>h.fact x ((h.sim.fst h.ok).mem_iff.1 y)
theorem D.ru.few (h:ru rs given L fs rn number):fs.length≤300∧rn.length=fs.length∧number≤fs.length∧∀ x ∈ fs,aW x:=by
 obtain ⟨r,fuel,h⟩:=h;have:=h.XU;exact ⟨by have:=h.len; omega,h.sim.len,by have:=h.num; omega,h.facts⟩
theorem D.rC.few (h:rC rs given L own next fs rn number):fs.length≤300∧rn.length=fs.length∧number≤fs.length∧∀ x ∈ fs,aW x:=by
 rcases h with ⟨r,fuel,h,_⟩ | ⟨_,h⟩
 ·exact ru.few ⟨r,fuel,h⟩
 ·exact h.few
theorem D.all_start (ha:gm given=true) (hf:∀ x ∈ given,aW x) (y:given.length≤300):ru rs given 0 given (List.replicate given.length 0) 0:=
 ⟨(given,List.replicate given.length 0),302,⟨by simp,List.Perm.refl _⟩,⟨ha,by simp⟩,hf,y,ε,by show 302≤302+given.length; omega,rfl⟩
theorem D.ru.enter (h:ru rs given L fs rn number):rC rs given L own own fs rn number:=by
 obtain ⟨r,fuel,h⟩:=h;exact .inl ⟨r,fuel,h,fun q hq=>hq,fun q hq hn=>absurd hq hn⟩
theorem D.wQ.go (h:wQ rs given L fs rn number r fuel) (y:L≤rs.length):∃ f,fuel=f+1∧jb rs given =
  if 300 < (fU rs (aA rs) L r (number+1)).1.length then (fU rs (aA rs) L r (number+1),false)
  else if (fU rs (aA rs) L r (number+1)).1.length=r.1.length then Ea rs (aA rs) (rs.length - L) 302 (fU rs (aA rs) L r (number+1)) number
  else Ea rs (aA rs) (rs.length - L+1) f (fU rs (aA rs) L r (number+1)) (number+1):=by
 have h1:=h.fu;have I:=h.len;obtain ⟨f,rfl⟩:∃ f,fuel=f+1:=⟨fuel - 1,by omega⟩;refine ⟨f,rfl,?_⟩;rw [h.run,show rs.length+1 - L=rs.length - L+1 by omega,Ea,show rs.length - (rs.length - L)=L by omega]
theorem D.wQ.WA (H:uf rs) (h:wQ rs given L fs rn number r fuel) (n:Nat):qB (fU rs (aA rs) L r n)∧∀ x ∈ (fU rs (aA rs) L r n).1,aW x:=
 ⟨(oU h.ok n _).1,(mF H h.fact L n).1⟩
theorem D.rC.done (H:uf rs) (J:L≤rs.length) (y:OwnAt rs L own) (h:rC rs given L own [] fs rn number):ru rs given (L+1) fs rn number:=by
 rcases h with ⟨r,fuel,h,_,U⟩ | ⟨_,h⟩
 ·obtain ⟨f,rfl,e⟩:=h.go J
  obtain ⟨s1,s2⟩:=IW (next:=[]) (new:=[]) (n:=number+1) H h.ok h.fact h.sim (fun q hq=>by simp at hq) (fun q hq I _ t hf=>U q ((y q).2 ⟨hq,I⟩) (by simp) t hf) List.nodup_nil (fun t=>by simp);have a0:=h.XU;have I:=h.len;simp only [List.length_nil,Nat.add_zero] at s2;rw [if_neg (by omega),if_pos (by omega)] at e;simp only [List.append_nil,List.length_nil,List.replicate_zero] at s1;obtain ⟨o1,o2⟩:=h.WA H (number+1);exact ⟨_,302,s1,o1,o2,by omega,by have:=h.num; omega,by omega,by rw [e,show rs.length+1 - (L+1)=rs.length - L by omega]⟩
 ·exact h
theorem D.rC.round (H:uf rs) (hL:L≤rs.length) (y:OwnAt rs L own) (h:rC rs given L own next fs rn number) {new:List A} (a0:next ≠ []) (hn:new.Nodup) (I:∀ t,t ∈ new ↔ t ∉ fs∧∃ q ∈ next,lW fs q t) (a5:fs.length+new.length≤300):
  (new = []→rC rs given L own [] fs rn number)∧(new ≠ []→rC rs given L own (Qa own new) (fs ++ new) (rn ++ List.replicate new.length (number+1)) (number+1)):=by
 classical
 rcases h with ⟨r,fuel,h,h1,h2⟩ | ⟨h,_⟩
 ·obtain ⟨f,rfl,e⟩:=h.go hL
  obtain ⟨s1,s2⟩:=IW (next:=next) (new:=new) (n:=number+1) H h.ok h.fact h.sim (fun q hq=>(y q).1 (h1 q hq)) (fun q hq hl a1 t hf=>h2 q ((y q).2 ⟨hq,hl⟩) a1 t hf) hn I;have a6:=h.XU;have hl:=h.len;obtain ⟨o1,o2⟩:=h.WA H (number+1);refine ⟨fun hz=>?_,fun hz=>?_⟩
  ·subst hz
   simp only [List.length_nil,Nat.add_zero] at s2;rw [if_neg (by omega),if_pos (by omega)] at e;simp only [List.append_nil,List.length_nil,List.replicate_zero] at s1;exact .inr ⟨rfl,_,302,s1,o1,o2,by omega,by have:=h.num; omega,by omega,by rw [e,show rs.length+1 - (L+1)=rs.length - L by omega]⟩
  ·have hp:0 < new.length:=List.length_pos_iff.2 hz
   rw [if_neg (by omega),if_neg (by omega)] at e;have a7:=h.fu;have a8:=h.num;refine .inl ⟨_,f,⟨s1,o1,o2,by omega,by omega,by omega,by rw [e,show rs.length+1 - L=rs.length - L+1 by omega]⟩,fun q hq=>(List.mem_filter.1 hq).1,fun q hq a2 t hf=>?_⟩;have a3:∀ p ∈ q.body,p.no=false→∀ t ∈ new,t.name ≠ p.atom.name:=fun p hp a4 t ht he=>a2 (List.mem_filter.2 ⟨hq,List.any_eq_true.2 ⟨p,hp,by simp [a4]; exact ⟨t,ht,he⟩⟩⟩)
   have J:=Og a3 hf;by_cases hm:t ∈ fs
   ·exact Ξ _ hm
   ·by_cases U:q ∈ next
    ·exact Ω _ ((I t).2 ⟨hm,q,U,J⟩)
    ·exact absurd (h2 q hq U t J) hm
 ·exact absurd h a0
theorem D.rC.over (H:uf rs) (U:L≤rs.length) (y:OwnAt rs L own) (h:rC rs given L own next fs rn number) {new:List A} (J:next ≠ []) (hn:new.Nodup) (I:∀ t ∈ new,t ∉ fs∧∃ q ∈ next,lW fs q t) (hm:300 < fs.length+new.length):(jb rs given).2=false:=by
 rcases h with ⟨r,fuel,h,h1,h2⟩ | ⟨h,_⟩
 ·obtain ⟨f,rfl,e⟩:=h.go U
  have:=Wu (n:=number+1) H h.ok h.fact h.sim (fun q hq=>(y q).1 (h1 q hq)) hn I hm;rw [e,if_pos this]
 ·exact absurd h J
theorem D.ru.fin (H:uf rs) (h:ru rs given rs.length fs rn number):(jb rs given).2=true∧X9 fs rn (jb rs given).1∧qB (jb rs given).1∧(∀ x ∈ fs,aW x)∧fs.length≤300:=by
 have I:OwnAt rs rs.length []:=fun q=>⟨fun h=>by simp at h,fun ⟨h1,y⟩=>by have:=YO H h1; omega⟩
 obtain ⟨r,fuel,y⟩:=(h.enter (own:=[])).done H ν I;have e:=y.run;rw [Nat.sub_self,Ea] at e;have hf:=y.XU;exact ⟨by rw [e],by rw [e]; exact y.sim,by rw [e]; exact y.ok,y.facts,by have:=y.len; omega⟩
end
end
section
open Go.RowKit D
attribute [local go_sem ↓] Go.wp_at_zero Go.wp_at_succ
def D.J4 (w:World):List Value→List A→List Nat→Prop
 | [],[],b=>b = []
 | v :: vs,a :: l,b=>∃ c y I,v=.agg #[.string a.name,c]∧b=y ++ I∧aJ w [.string a.name,c] a y∧J4 w vs l I
 | _,_,_=>False
theorem D.J4.len {w:World}:∀ {vs:List Value} {l:List A} {b:List Nat},J4 w vs l b→vs.length=l.length
 | [],[],_,_=>rfl
 | v :: vs,a :: l,b,h=>by
  obtain ⟨_,_,_,_,_,_,h⟩:=h;simp [h.len]
 | [],a :: l,_,h=>h.elim
 | v :: vs,[],_,h=>h.elim
theorem D.J4.keep {w w':World}:∀ {vs:List Value} {l:List A} {b:List Nat},J4 w vs l b→(∀ x ∈ b,w'.heap[x]? = w.heap[x]?)→J4 w' vs l b
 | [],[],_,h,_=>h
 | v :: vs,a :: l,b,h,hk=>by
  obtain ⟨c,I,J,h1,U,h3,h4⟩:=h;subst U;exact ⟨c,I,J,h1,rfl,ak.keep h3 fun x y=>hk x (Ξ _ y),h4.keep fun x y=>hk x (Ω _ y)⟩
 | [],a :: l,_,h,_=>h.elim
 | v :: vs,[],_,h,_=>h.elim
theorem D.J4.lt {w:World}:∀ {vs:List Value} {l:List A} {b:List Nat},J4 w vs l b→∀ x ∈ b,x < w.heap.size
 | [],[],b,h,x,y=>by rw [show b = [] from h] at y; simp at y
 | v :: vs,a :: l,b,h,x,y=>by
  obtain ⟨c,b1,b2,h1,I,J,U⟩:=h;subst I
  rcases μ.1 y with y | y
  ·exact ak.lt J x y
  ·exact U.lt x y
 | [],a :: l,_,h,_,_=>h.elim
 | v :: vs,[],_,h,_,_=>h.elim
theorem D.J4.snoc {w:World} {a:A} {c:Value} {ba:List Nat} (ha:aJ w [.string a.name,c] a ba):∀ {vs:List Value} {l:List A} {b:List Nat},J4 w vs l b→J4 w (vs ++ [.agg #[.string a.name,c]]) (l ++ [a]) (b ++ ba)
 | [],[],b,h=>by
  rw [show b = [] from h];exact ⟨c,ba,[],rfl,by simp,ha,rfl⟩
 | v :: vs,a' :: l,b,h=>by
  obtain ⟨y,I,J,h1,U,h3,h4⟩:=h;subst U;exact ⟨y,I,J ++ ba,h1,by simp,h3,h4.snoc ha⟩
 | [],a :: l,_,h=>h.elim
 | v :: vs,[],_,h=>h.elim
def D.zF (nr:Nat) (l:List A):List (Value × Value):=l.map fun a=>(.string (eX a),.int .i64 (nr:Nat))
theorem D.Qb {nr ms:Nat} {l:List A} {w:World} (h:oG isStr ms (zF nr l) w) (s:ByteArray) (U:s.size≤maxLen):
  ∃ i:Nat,(Instr.lookup 116 (.map (some ms)) (.string s) true).run Tryz.prog w=.ok (.tuple #[.int .i64 i,.bool (decide (s ∈ l.map eX))]) w:=by
 by_cases hm:s ∈ l.map eX
 ·obtain ⟨a,ha,rfl⟩:=List.mem_map.1 hm
  refine ⟨nr,?_⟩;rw [decide_eq_true hm];exact rJ nP trivial true Tryz.underlying116 h (List.mem_map.2 ⟨a,ha,rfl⟩)
 ·refine ⟨0,?_⟩
  rw [decide_eq_false hm]
  have y:∀ p ∈ zF nr l,p.1 ≠ .string s:=fun p hp e=>by
   obtain ⟨a,ha,rfl⟩:=List.mem_map.1 hp;simp at e;exact hm (List.mem_map.2 ⟨a,ha,e⟩)
  obtain ⟨⟨es,ck,hb,hL⟩,h2,h3⟩:=h;rw [← hL] at h2 y;have I:∀ e ∈ es.toList,isStr e.key:=fun e he=>h2 (e.key,e.val) (List.mem_map.2 ⟨e,he,rfl⟩)
  rcases mZ nP (w:=w) trivial (k:=.string s) ⟨s,rfl,U⟩ es.toList I with ⟨h5,h6⟩ | ⟨i,J,h5,h6,h7⟩
  ·simp [Instr.lookup,run_underlying Tryz.underlying116,MapKept.run_getObj_map hb,nP.check w _ ⟨s,rfl,U⟩,h5,Result.andThen]
  ·exact absurd h7 (y (J.key,J.val) (List.mem_map.2 ⟨J,List.mem_of_getElem? h6,rfl⟩))
theorem D.WB {S:Value→Prop} {b:Nat} {L:List (Value × Value)} {w:World} (h:oG S b L w) (y:TypeId):(Builtin.len_ #[116] y #[.map (some b)]).run Tryz.prog w=.ok (.int .i64 L.length) w:=by
 obtain ⟨⟨es,I,hb,J⟩,_,_⟩:=h;have e:L.length=es.size:=by rw [← J]; simp
 rw [e];exact run_len_map (P:=Tryz.prog) (w:=w) 116 y b es I (by kernel_rfl) hb
theorem D.TJ {nr:Nat} {l:List A}:(zF nr l).length=l.length:=by simp [zF]
structure D.rD where
 bM:Nat
 bS:Nat
 bN:Nat
 bF:Nat
 bC:Nat
 ms:Nat
 ch:Nat
 sb:Nat
 nr:Nat
def D.rD.own (x:rD):List Nat:=[x.bM,x.bS,x.bN,x.bF,x.bC,x.ms,x.ch]
def D.rD.K (x:rD) (k:Nat):Prop:=k=x.ms∨k=x.bF∨k=x.ch
def D.rD.wR (x:rD):Array Value:=#[.pointer (some ⟨x.bM,0,none⟩),.pointer (some ⟨x.bS,0,none⟩),.pointer (some ⟨x.bN,0,none⟩),.pointer (some ⟨x.bF,0,none⟩),.pointer (some ⟨x.bC,0,none⟩)]
structure D.nZ (x:rD) (n0:Nat) (fs:List A) (bst:List Nat) (w:World) (told:List A) (fb:List Nat):Prop where
 cM:w.heap[x.bM]? = some (.cells #[.map (some x.ms)] 116 (0,0))
 cS:w.heap[x.bS]? = some (.cells #[.pointer (some ⟨x.sb,0,none⟩)] 100 (0,0))
 cN:w.heap[x.bN]? = some (.cells #[.int .i64 x.nr] 3 (0,0))
 cF:w.heap[x.bF]? = some (.cells #[.bool true] 4 (0,0))
 cC:w.heap[x.bC]? = some (.cells #[.chan (some x.ch)] 262 (0,0))
 sn:oG isStr x.ms (zF x.nr (newL fs told)) w
 cH:∃ vs sd bb,w.heap[x.ch]? = some (.chan 301 ⟨vs⟩ false sd 0 false)∧J4 w vs (newL fs told) bb∧∀ k ∈ bb,k ∈ fb∧n0≤k∧k ∉ x.own
 st:∃ rn,kW x.sb fs rn bst w
 few:fs.length+(newL fs told).length≤300
 tok:∀ t ∈ told,aW t
 nd:x.own.Nodup
 ow:∀ k ∈ x.own,k ∈ fb
 uh:∀ k ∈ bst,k ∈ fb∧k ∉ x.own
 lo:n0≤x.bM
 lt:∀ k ∈ fb,k < w.heap.size
structure D.tu (x:rD) (w:World) (fb:List Nat):Prop where
 cF:w.heap[x.bF]? = some (.cells #[.bool false] 4 (0,0))
 ow:∀ k ∈ x.own,k ∈ fb
 lt:∀ k ∈ fb,k < w.heap.size
def D.WC (x:rD) (J:Nat) (fs:List A) (y:List Nat) (f:Bool) (w:World) (told:List A) (I:List Nat):Prop:=if f then nZ x J fs y w told I else tu x w I
theorem D.nZ.keep {x:rD} {n0:Nat} {fs:List A} {J:List Nat} {w w':World} {told:List A} {U:List Nat} (h:nZ x n0 fs J w told U) (hk:∀ k ∈ U,w'.heap[k]? = w.heap[k]?) (hs:w.heap.size≤w'.heap.size):nZ x n0 fs J w' told U:=by
 have I:∀ k ∈ x.own,w'.heap[k]? = w.heap[k]?:=fun k y=>hk k (h.ow k y)
 obtain ⟨vs,sd,bb,h1,h2,h3⟩:=h.cH;obtain ⟨rn,a0⟩:=h.st
 exact ⟨(I _ (by simp [rD.own])).trans h.cM,(I _ (by simp [rD.own])).trans h.cS,(I _ (by simp [rD.own])).trans h.cN,(I _ (by simp [rD.own])).trans h.cF,(I _ (by simp [rD.own])).trans h.cC,h.sn.same (I _ (by simp [rD.own])),
  ⟨vs,sd,bb,(I _ (by simp [rD.own])).trans h1,h2.keep fun k y=>hk k (h3 k y).1,h3⟩,⟨rn,a0.keep (fun k y=>hk k (h.uh k y).1) hs⟩,h.few,h.tok,h.nd,h.ow,h.uh,h.lo,fun k y=>κ (h.lt k y) hs⟩
theorem D.tu.keep {x:rD} {w w':World} {y:List Nat} (h:tu x w y) (J:∀ k ∈ y,w'.heap[k]? = w.heap[k]?) (U:w.heap.size≤w'.heap.size):tu x w' y:=
 ⟨(J _ (h.ow _ (by simp [rD.own]))).trans h.cF,h.ow,fun k I=>κ (h.lt k I) U⟩
theorem D.nZ.same {x:rD} {I:Nat} {fs:List A} {y:List Nat} {w w':World} {told:List A} {J:List Nat} (h:nZ x I fs y w told J) {a:A} (hok:aW a) (hm:a ∈ fs∨a ∈ newL fs told) (hb:Below w.heap.size w w'):
  Ws fs (told ++ [a])=true∧nZ x I fs y w' (told ++ [a]) J:=by
 classical
 have e:newL fs (told ++ [a])=newL fs told:=by rw [BO,if_pos hm]
 refine ⟨?_,?_⟩
 ·rw [Oe]
  exact decide_eq_true (hm.elim .inl fun h=>.inr (.inl h))
 ·have k:=h.keep (fun k U=>hb.block k (h.lt k U)) hb.size
  exact ⟨k.cM,k.cS,k.cN,k.cF,k.cC,e ▸ k.sn,e ▸ k.cH,k.st,e ▸ k.few,fun t ht=>(μ.1 ht).elim (k.tok t) fun h=>by rw [ώ.1 h]; exact hok,k.nd,k.ow,k.uh,k.lo,k.lt⟩
theorem GK (x:rD) (n0:Nat) (fs:List A) (b2:List Nat) (bu:∀ f ∈ fs,aW f) (told:List A) (fb:List Nat) (a:A) (c1:Value) (ba:List Nat) (b0:Nat) (w:World) (F:nZ x n0 fs b2 w told fb) (bf:∀ k ∈ fb,k < b0) (hn:New b0 w ba) (ha:aJ w [.string a.name,c1] a ba) (hok:aW a):
  Calls Tryz.prog 192 (#[.agg #[.string a.name,c1]] ++ x.wR) w fun e w'=>e=.returned (.bool (Ws fs (told ++ [a])))∧(∃ a5,WC x n0 fs b2 (Ws fs (told ++ [a])) w' (told ++ [a]) a5∧∀ k ∈ a5,k ∈ fb∨b0≤k)∧iw x.K w w':=by
 obtain ⟨Ae,ce,_,rfl⟩:=bG ha;have hA:Below w.heap.size w (w.alloc (.cells #[.string a.name,.slice Ae a.args.length ce] 33)):=ζ;have av:Kv a≤16777216:=by have:=JH hok.ok; omega
 have hT:=η (rV a (.string a.name) (.slice Ae a.args.length ce) ba _ (ak.below ha hA) av);have hx:w.heap.size < (w.alloc (.cells #[.string a.name,.slice Ae a.args.length ce] 33)).heap.size:=by simp
 have y0:(w.alloc (.cells #[.string a.name,.slice Ae a.args.length ce] 33)).heap[w.heap.size]? = some (.cells #[.string a.name,.slice Ae a.args.length ce] 33 (0,0)):=ω _ _;have z0:(w.alloc (.cells #[.string a.name,.slice Ae a.args.length ce] 33)).cell? ⟨w.heap.size,0,none⟩=some (.string a.name):=ai y0;have z1:(w.alloc (.cells #[.string a.name,.slice Ae a.args.length ce] 33)).cell? ⟨w.heap.size,1,none⟩=some (.slice Ae a.args.length ce):=ai y0;have HF:=η F;have HA:=η hA;have bg:=η bf;have HN:=η hn;have b9:=η ha;have bv:=η y0;clear F bf hn ha hA y0 av;unfold rD.wR
 go_enter Tryz.func192,Tryz.ntmps192
 go_wp2_with fail
 refine hT.out.mono ?_;rintro e w2 ⟨rfl,af⟩;have a6:=η (HA.out.trans (af.mono HA.out.size));have bh:=κ hx af.size;have z0:=ξ af z0;have z1:=ξ af z1;have aw:=η (HF.out.keep (fun k y=>a6.out.block k (HF.out.lt k y)) a6.out.size);have bi:=η (ak.below b9.out a6.out);have bj:Hid (w2.heap[w.heap.size]? = some (.cells #[.string a.name,.slice Ae a.args.length ce] 33 (0,0))):=η ((af.block _ hx).trans bv.out);clear hT af;have a2:∀ t ∈ newL fs told,aW t:=fun t ht=>HF.out.tok t (((rq fs told).2 t).1 ht).1
 have xM:w2.cell? ⟨x.bM,0,none⟩=some (.map (some x.ms)):=ai aw.out.cM;have xS:w2.cell? ⟨x.bS,0,none⟩=some (.pointer (some ⟨x.sb,0,none⟩)):=ai aw.out.cS;have xN:w2.cell? ⟨x.bN,0,none⟩=some (.int .i64 x.nr):=ai aw.out.cN;obtain ⟨vi,bc⟩:=Qb aw.out.sn (eX a) (sK hok.ok);have ag:=zu a2 hok;generalize decide (eX a ∈ (newL fs told).map eX)=s1 at bc ag;unfold eX at bc
 cases s1 with
 | true=>
  have HD:=η (HF.out.same hok (.inr (ag.1 rfl)) a6.out);clear ag a2;go_wp2;go_ret;obtain ⟨e1,h1⟩:=HD.out;rw [e1];exact ⟨rfl,⟨fb,h1,fun k y=>.inl y⟩,iw.of_below a6.out⟩
 | false=>
  have I:a ∉ newL fs told:=fun h=>by have:=ag.2 h; simp at this
  obtain ⟨rn,bk⟩:=aw.out.st;have a7:=BH x.sb fs rn b2 a _ _ ba w2 bk bi.out hok.ok;have az:=zu bu hok;generalize decide (eX a ∈ fs.map eX)=s2 at a7 az;clear bk
  go_wp2_with fail
  refine a7.mono ?_;rintro e w3 ⟨rfl,a3⟩;clear a7 bc;have a8:=η (a6.out.trans (a3.mono a6.out.size));have xM:=ξ a3 xM;have xS:=ξ a3 xS;have xN:=ξ a3 xN;have z0:=ξ a3 z0;have z1:=ξ a3 z1;have bw:=κ bh a3.size
  cases s2 with
  | true=>
   have HD:=η (HF.out.same hok (.inl (az.1 rfl)) a8.out);clear ag az a2;go_wp2;go_ret;obtain ⟨e1,h1⟩:=HD.out;rw [e1];exact ⟨rfl,⟨fb,h1,fun k y=>.inl y⟩,iw.of_below a8.out⟩
  | false=>
   have J:a ∉ fs:=fun h=>by have:=az.2 h; simp at this
   have U:=η (HF.out.keep (fun k y=>a8.out.block k (HF.out.lt k y)) a8.out.size)
   obtain ⟨w4,bl,a9,a0,-⟩:=yX nP (w:=w3) trivial Tryz.underlying116 (k:=.string (eX a)) (.int .i64 x.nr) U.out.sn ⟨_,rfl,sK hok.ok⟩ (fun p hp e=>by
    obtain ⟨t,ht,rfl⟩:=List.mem_map.1 hp;simp at e
    exact I (BF (a2 t ht).ok hok.ok e ▸ ht))
   unfold eX at bl
   go_upto_region 6 with fail
   have am:=a0.size;have nd:=HF.out.nd;simp only [rD.own,List.nodup_cons,ύ,List.not_mem_nil,or_false,not_or,List.nodup_nil,and_true,not_false_eq_true] at nd;have k4:∀ k,k < w3.heap.size→k ≠ x.ms→w4.heap[k]? = w3.heap[k]?:=fun k h1 h2=>a0.block k h1 (fun e=>h2 (by injection e))
   have ko:∀ k ∈ x.own,k < w3.heap.size:=fun k y=>U.out.lt k (U.out.ow k y)
   have aa:=(k4 _ (ko _ (by simp [rD.own])) (by omega)).trans U.out.cS;have ab:=(k4 _ (ko _ (by simp [rD.own])) (by omega)).trans U.out.cM;have a4:=(k4 _ (ko _ (by simp [rD.own])) (by omega)).trans U.out.cF;have ac:=(k4 _ (ko _ (by simp [rD.own])) (by omega)).trans U.out.cC;have ao:=(k4 _ bw (by have:=HF.out.lt x.ms (HF.out.ow _ (by simp [rD.own])); omega)).trans ((a3.block _ bh).trans (bj.out));have bx:=η (ι ab (ι aa (ι a4 (ι ac (ι ao (ι a9 (ι a0 (ι k4 (ι am (ι nd (ι I J)))))))))));have c0:w4.cell? ⟨x.bS,0,none⟩=some (.pointer (some ⟨x.sb,0,none⟩)):=ai aa;have c1:w4.cell? ⟨x.bM,0,none⟩=some (.map (some x.ms)):=ai ab;have c2:w4.cell? ⟨x.bF,0,none⟩=some (.bool true):=ai a4;have c3:w4.frozen? ⟨x.bF,0,none⟩=false:=ax a4;have l2:=lt_of_cell c2;obtain ⟨bL,aD⟩:=U.out.st
   obtain ⟨Af,cf,aE⟩:∃ Af cf,w3.cell? ⟨x.sb,0,none⟩=some (.slice Af fs.length cf):=by
    obtain ⟨⟨Af,cf,_,_,_,_,_,_,_,_,h1,_⟩,_,_⟩:=aD;exact ⟨Af,cf,ai h1⟩
   have c4:w4.cell? ⟨x.sb,0,none⟩=some (.slice Af fs.length cf):=(World.cell?_of_block (k4 _ (lt_of_cell aE) (fun e=>(U.out.uh _ aD.own).2 (by have e:x.sb=x.ms:=e; rw [e]; simp [rD.own])))).trans aE
   have bz:∀ ty,(Builtin.len_ #[116] ty #[.map (some x.ms)]).run Tryz.prog w4.drew=.ok (.int .i64 ((newL fs told).length+1:Nat)) w4.drew:=fun ty=>by
    have:=WB (w:=w4.drew) (a9.same rfl) ty;simpa [TJ] using this
   have bE:=HF.out.few;have bO:(0:Int)≤fs.length:=by omega
   have bR:(0:Int)≤((newL fs told).length+1:Nat):=by omega
   have bX:(fs.length:Int)+((newL fs told).length+1:Nat)≤301:=by omega
   clear aD aE bl aa ab a4 ac ao a9 a0 am nd k4 ko I J ag az a2 xM xS xN z0 z1;go_region;clear c0 c1 c2 c3 c4 bz l2;obtain ⟨ab,aa,a4,ac,ao,a9,a0,k4,am,nd,I,J⟩:=bx.out
   have ae:newL fs (told ++ [a])=newL fs told ++ [a]:=by
    classical
    rw [BO,if_neg (fun h=>h.elim J I)]
   have b4:Ws fs (told ++ [a])=decide ((fs.length:Int)+((newL fs told).length+1)≤300):=by
    classical
    rw [Oe];refine decide_eq_decide.2 ⟨fun h=>?_,fun h=>?_⟩
    ·rcases h with h | h | h
     ·exact absurd h J
     ·exact absurd h I
     ·rw [ae,χ,List.length_singleton] at h; omega
    ·rw [ae,χ,List.length_singleton]; exact .inr (.inr (by omega))
   have bo:∀ v,(w4.setCell ⟨x.bF,0,none⟩ v).drew.heap[x.bF]? = some (.cells #[v] 4 (0,0)):=fun v=>by
    have:=bY (o:=0) (u:=v) a4;exact this
   have k5:∀ v k,k ≠ x.bF→(w4.setCell ⟨x.bF,0,none⟩ v).drew.heap[k]? = w4.heap[k]?:=fun v k y=>π _ _ _ _ y
   have s5:∀ v,(w4.setCell ⟨x.bF,0,none⟩ v).drew.heap.size=w4.heap.size:=fun v=>by simp [World.setCell]
   have bq:∀ v,iw x.K w (w4.setCell ⟨x.bF,0,none⟩ v).drew:=fun v=>by
    have h3:=a8.out;refine ⟨a0.os.trans h3.os,a0.tape.trans h3.tape,a0.output.trans h3.output,?_,fun k y hK=>?_⟩
    ·rw [s5]; exact τ h3.size am
    ·rw [k5 _ _ (fun e=>hK (.inr (.inl e))),k4 k (κ y h3.size) (fun e=>hK (.inl e)),h3.block k y]
   rw [← b4];generalize hgv:Ws fs (told ++ [a])=g at *;generalize hW:(w4.setCell ⟨x.bF,0,none⟩ (.bool g)).drew=W5 at *;have aL:=hW ▸ bo (.bool g);have k6:=fun k y=>hW ▸ k5 (.bool g) k y
   have s6:=hW ▸ s5 (.bool g);have a1:=hW ▸ bq (.bool g);clear bo k5 s5 bq hW;have q0:W5.cell? ⟨x.bF,0,none⟩=some (.bool g):=ai aL;have aq:∀ k ∈ x.own,k < w.heap.size:=fun k y=>HF.out.lt k (HF.out.ow k y)
   have c6:=aq x.bF (by simp [rD.own]);have q1:W5.cell? ⟨x.bC,0,none⟩=some (.chan (some x.ch)):=ai ((k6 _ (by omega)).trans ac);have b5:=(k6 w.heap.size (by omega)).trans ao;have q2:W5.cell? ⟨w.heap.size,0,none⟩=some (.string a.name):=ai b5;have q3:W5.cell? ⟨w.heap.size,1,none⟩=some (.slice Ae a.args.length ce):=ai b5
   cases g with
   | false=>
    have HD:Hid (tu x W5 fb∧iw x.K w W5):=η ⟨⟨aL,HF.out.ow,fun k y=>κ (HF.out.lt k y) a1.size⟩,a1⟩;clear b4 ae ab aa a4 ac ao a9 a0 k4 am nd I J aL k6 s6 a1 b5 aq;go_wp2;go_ret;rw [hgv];exact ⟨rfl,⟨fb,HD.out.1,fun k y=>.inl y⟩,HD.out.2⟩
   | true=>
    have c8:=of_decide_eq_true b4.symm;clear b4
    go_upto_region 8 with fail
    refine xq ?_;obtain ⟨vs,sd,bb,b7,aM,ar⟩:=U.out.cH;have aR:W5.heap[x.ch]? = some (.chan 301 ⟨vs⟩ false sd 0 false):=(k6 _ (by omega)).trans ((k4 _ (κ (aq _ (by simp [rD.own])) a8.out.size) (by omega)).trans b7);have hlen:=aM.len;refine vP (i:=0) (by rfl) (by rfl) (v:=.chan (some x.ch)) (w':=W5) (by go_simp) ?_;refine vP (i:=1) (by rfl) (by rfl) (v:=.agg #[.string a.name,.slice Ae a.args.length ce]) (w':=W5) (by go_simp) ?_;refine UG (i:=2) (w':=W5) (v:=.agg #[.string a.name,.slice Ae a.args.length ce]) (by rfl) (by rfl) (by go_simp; rfl) aR (by show vs.length < 301; omega) ?_;refine Jh (show Exit.then _ _ Exit.normal _ _ from ?_);have br:x.ch < W5.heap.size:=ψ aR;have bt:=Go.Conc.heap_setChan W5 x.ch 301 ((⟨vs⟩:Array Value).push (.agg #[.string a.name,.slice Ae a.args.length ce])) false (sd+1) 0 false br
    have k7:∀ k,k ≠ x.ch→(W5.setChan x.ch 301 ((⟨vs⟩:Array Value).push (.agg #[.string a.name,.slice Ae a.args.length ce])) false (sd+1) 0 false).heap[k]? = W5.heap[k]?:=fun k y=>by
     simp only [World.setChan]; rw [Array.getElem?_setIfInBounds_ne (by omega)]
    have s7:(W5.setChan x.ch 301 ((⟨vs⟩:Array Value).push (.agg #[.string a.name,.slice Ae a.args.length ce])) false (sd+1) 0 false).heap.size=W5.heap.size:=by simp [World.setChan]
    have o7:(W5.setChan x.ch 301 ((⟨vs⟩:Array Value).push (.agg #[.string a.name,.slice Ae a.args.length ce])) false (sd+1) 0 false).os=W5.os∧(W5.setChan x.ch 301 ((⟨vs⟩:Array Value).push (.agg #[.string a.name,.slice Ae a.args.length ce])) false (sd+1) 0 false).tape=W5.tape∧(W5.setChan x.ch 301 ((⟨vs⟩:Array Value).push (.agg #[.string a.name,.slice Ae a.args.length ce])) false (sd+1) 0 false).output=W5.output:=⟨rfl,rfl,rfl⟩;generalize W5.setChan x.ch 301 ((⟨vs⟩:Array Value).push (.agg #[.string a.name,.slice Ae a.args.length ce])) false (sd+1) 0 false=W7 at *;have q0:W7.cell? ⟨x.bF,0,none⟩=some (.bool true):=(World.cell?_of_block (k7 _ (by show x.bF ≠ x.ch; omega))).trans q0
    have HD:Hid ((∃ a5,nZ x n0 fs b2 W7 (told ++ [a]) a5∧∀ k ∈ a5,k ∈ fb∨b0≤k)∧iw x.K w W7):=η (by
     have h3:=a8.out;have b3:=HF.out;have b6:w.heap.size≤W7.heap.size:=by rw [s7]; exact a1.size
     have kk:∀ k,k < w.heap.size→k ∉ x.own→W7.heap[k]? = w.heap[k]?:=fun k y bA=>by
      simp only [rD.own,ύ,List.not_mem_nil,or_false,not_or] at bA;rw [k7 k (by omega),k6 k (by omega),k4 k (κ y h3.size) (by omega),h3.block k y]
     have b1:∀ k ∈ ba,b0≤k∧k < w.heap.size∧k ∉ x.own:=fun k y=>by
      have h1:=HN.out.own k y;exact ⟨h1.1,(ak.lt b9.out k y),fun hm=>by have:=bg.out k (b3.ow k hm); omega⟩
     obtain ⟨bB,b8⟩:=b3.st;refine ⟨⟨fb ++ ba,⟨?_,?_,?_,?_,?_,?_,⟨vs ++ [.agg #[.string a.name,.slice Ae a.args.length ce]],sd+1,bb ++ ba,?_,?_,?_⟩,⟨bB,b8.keep (fun k y=>kk k (b8.lt k y) (b3.uh k y).2) b6⟩,?_,?_,b3.nd,?_,?_,b3.lo,?_⟩,?_⟩,?_⟩
     ·rw [k7 _ (by omega),k6 _ (by omega)]; exact ab
     ·rw [k7 _ (by omega),k6 _ (by omega)]; exact aa
     ·rw [k7 _ (by omega),k6 _ (by omega),k4 _ (κ (aq _ (by simp [rD.own])) h3.size) (by omega),h3.block _ (aq _ (by simp [rD.own]))]; exact b3.cN
     ·rw [k7 _ (by omega)]; exact aL
     ·rw [k7 _ (by omega),k6 _ (by omega)]; exact ac
     ·rw [ae]
      have e:zF x.nr (newL fs told ++ [a])=zF x.nr (newL fs told) ++ [(.string (eX a),.int .i64 (x.nr:Nat))]:=by simp [zF]
      rw [e];exact a9.same (by rw [k7 _ (by omega),k6 _ (by omega)])
     ·rw [bt]; simp
     ·rw [ae]
      have hw:J4 w vs (newL fs told) bb:=aM.keep fun k y=>(h3.block k (b3.lt k (ar k y).1)).symm
      exact (hw.keep fun k y=>kk k (b3.lt k (ar k y).1) (ar k y).2.2).snoc (ak.keep b9.out fun k y=>kk k (b1 k y).2.1 (b1 k y).2.2)
     ·intro k y
      rcases μ.1 y with y | y
      ·exact ⟨Ξ _ (ar k y).1,(ar k y).2⟩
      ·have h1:=b1 k y
       have h2:=bg.out x.bM (b3.ow _ (by simp [rD.own]));have h4:=b3.lo;exact ⟨Ω _ y,by omega,h1.2.2⟩
     ·rw [ae,χ,List.length_singleton]; omega
     ·intro t ht
      rcases μ.1 ht with ht | ht
      ·exact b3.tok t ht
      ·rw [ώ.1 ht]; exact hok
     ·exact fun k y=>Ξ _ (b3.ow k y)
     ·exact fun k y=>⟨Ξ _ (b3.uh k y).1,(b3.uh k y).2⟩
     ·intro k y
      rcases μ.1 y with y | y
      ·exact κ (b3.lt k y) b6
      ·exact κ (b1 k y).2.1 b6
     ·intro k y
      rcases μ.1 y with y | y
      ·exact .inl y
      ·exact .inr (b1 k y).1
     ·exact ⟨o7.1.trans a1.os,o7.2.1.trans a1.tape,o7.2.2.trans a1.output,b6,fun k y hK=>(k7 k (fun e=>hK (.inr (.inr e)))).trans (a1.block k y hK)⟩)
    clear ae ab aa a4 ac ao a9 a0 k4 am nd I J aL k6 s6 a1 b5 aq k7 s7 o7 bt aR aM ar b7;go_wp2;go_ret;rw [hgv];obtain ⟨⟨a5,h1,h2⟩,h3⟩:=HD.out;exact ⟨rfl,⟨a5,h1,h2⟩,h3⟩
theorem D.TK (x:rD) (n0:Nat) (fs:List A) (y:List Nat) (U:∀ f ∈ fs,aW f):Y5 192 x.wR x.K (WC x n0 fs y) (Ws fs):=by
 refine ⟨enters_of Tryz.func192 (by kernel_rfl) rfl,fun {f w told I} h=>?_,fun {f w told I} h k J=>?_,fun {f w w' told I} h J hs=>?_,fun w told I a c1 ba b0 h a0 hn ha hok=>GK x n0 fs y U told I a c1 ba b0 w h a0 hn ha hok⟩
 ·cases f with
  | true=>exact nZ.lt h
  | false=>exact tu.lt h
 ·have ho:k ∈ x.own:=by
   rcases J with rfl | rfl | rfl <;> simp [rD.own]
  cases f with
  | true=>exact nZ.ow h k ho
  | false=>exact tu.ow h k ho
 ·cases f with
  | true=>exact nZ.keep h J hs
  | false=>exact tu.keep h J hs
end
section
open Go.Shelf Go.RowKit Go.Lib Go.Sort D
structure D.Fc where
 t:A
 c1:Value
def D.Fc.enc (x:Fc):List Value:=[.string x.t.name,x.c1]
abbrev D.pX (w:World) (g:Nat):={ x:Fc // ∃ ba,aJ w [.string x.t.name,x.c1] x.t ba∧g ∉ ba }
def D.pX.enc {w:World} {g:Nat} (x:pX w g):List Value:=x.1.enc
def D.pX.cf {w:World} {g:Nat} (x y:pX w g):Int:=bV x.1.t y.1.t
theorem D.wI (w:World) (g:Nat) (f:Array Value→Array Value) {x:Nat} (h:x ≠ g):(mapBlock w g f).heap[x]? = w.heap[x]?:=by
 simp only [mapBlock,Array.getElem?_modify];rw [if_neg (fun e=>h e.symm)]
theorem D.Ol {α:Type} [Inhabited α] (enc:α→List Value) (k:Nat) (w:World) (g n:Nat) (d:Array α) (os:Array Obj) {x:Nat} (y:x < w.heap.size) (h:x ≠ g):(sortWorldK enc k w g 0 n d os).heap[x]? = w.heap[x]?:=by
 unfold sortWorldK
 have I:(grow (putRowK enc k (Go.Sort.ahead w n) g 0 d) os).heap[x]? = (putRowK enc k (Go.Sort.ahead w n) g 0 d).heap[x]?:=by
  show (_ ++ os)[x]? = _;rw [Array.getElem?_append_left (by rw [size_putRowK]; exact y)]
 rw [I];exact wI (Go.Sort.ahead w n) g _ h
theorem D.TM {α:Type} [Inhabited α] (enc:α→List Value) (k:Nat) (w:World) (g n:Nat) (d:Array α) (os:Array Obj) {I:Array Value} {e:TypeId} (h:w.heap[g]? = some (.cells I e (0,0))):∃ y,(sortWorldK enc k w g 0 n d os).heap[g]? = some (.cells y e (0,0))∧y.size=I.size:=by
 have J:g < w.heap.size:=(Array.getElem?_eq_some_iff.1 h).1;unfold sortWorldK
 have U:(grow (putRowK enc k (Go.Sort.ahead w n) g 0 d) os).heap[g]? = (putRowK enc k (Go.Sort.ahead w n) g 0 d).heap[g]?:=by
  show (_ ++ os)[g]? = _;rw [Array.getElem?_append_left (by rw [size_putRowK]; exact J)]
 refine ⟨putCells id 0 (flatK enc k d) I,?_,?_⟩
 ·rw [U]
  show (mapBlock (Go.Sort.ahead w n) g (putCells id 0 (flatK enc k d))).heap[g]? = _;simp only [mapBlock,Array.getElem?_modify];rw [if_pos trivial];show (w.heap[g]?).map _=_;rw [h];rfl
 ·simp [putCells]
theorem D.IX {α:Type} [Inhabited α] (enc:α→List Value) (k:Nat) (w:World) (g n:Nat) (d:Array α) (os:Array Obj) (I:g < w.heap.size):iw (fun x=>x=g) w (sortWorldK enc k w g 0 n d os):=
 ⟨rfl,rfl,rfl,size_sortWorldK_c enc k w g 0 n d os,fun x y h=>Ol enc k w g n d os y h⟩
theorem D.XV {w:World} {g:Nat}:SWO (ltOf (pX.cf (w:=w) (g:=g))) where
 irrefl x:=by unfold ltOf pX.cf; rw [vK]; rfl
 trans x y z h1 h2:=by
  unfold ltOf pX.cf at *;simp only [decide_eq_true_eq] at *;rw [jQ] at *;exact (oD iL).qc h1 (by omega)
 ntrans x y z h1 h2:=by
  unfold ltOf pX.cf at *;simp only [decide_eq_false_iff_not] at *;rw [jQ] at *;have I:=(oD iL).anti (tX x.1.t) (tX y.1.t);have J:=(oD iL).anti (tX y.1.t) (tX z.1.t);have U:=(oD iL).anti (tX x.1.t) (tX z.1.t);have a4:=(oD iL).trans (tX z.1.t) (tX y.1.t) (tX x.1.t) (by omega) (by omega);omega
theorem GL (g cap:Nat) (xs:List Fc) (w:World) (hg:g < w.heap.size) (hc:∀ k x,xs[k]? = some x→w.cell? ⟨g,k * 2,none⟩=some (.string x.t.name)∧w.cell? ⟨g,k * 2+1,none⟩=some x.c1) (a8:∀ q,w.frozen? ⟨g,q,none⟩=false)
  (a3:∀ x ∈ xs,∃ ba,aJ w [.string x.t.name,x.c1] x.t ba∧g ∉ ba) (a9:xs.length < 4611686018427387904):
  Calls Tryz.prog 103 #[.slice (some ⟨g,0,none⟩) xs.length cap,.func (.func 64) #[] #[]] w fun e w'=>e=.returned (.tuple #[])∧
   ∃ ys:List Fc,ys.Perm xs∧ys.Pairwise (fun a b=>¬ bV b.t a.t < 0)∧(∀ k y,ys[k]? = some y→w'.cell? ⟨g,k * 2,none⟩=some (.string y.t.name)∧w'.cell? ⟨g,k * 2+1,none⟩=some y.c1)∧iw (fun x=>x=g) w w'∧
    ∀ I e,w.heap[g]? = some (.cells I e (0,0))→∃ a0,w'.heap[g]? = some (.cells a0 e (0,0))∧a0.size=I.size:=by
 cases hx:xs with
 | nil=>
  refine (AnyF.slices_SortFunc_none Tryz.sortA (some ⟨g,0,none⟩) cap (.func (.func 64) #[] #[]) w).mono ?_;rintro e w' ⟨rfl,rfl⟩;exact ⟨rfl,[],List.Perm.refl _,List.Pairwise.nil,fun k y h=>by simp at h,iw.refl _ _,fun I e h=>⟨I,h,rfl⟩⟩
 | cons x0 rest=>
  rw [← hx];have aa:x0 ∈ xs:=by rw [hx]; exact Γ
  letI:Inhabited (pX w g):=⟨⟨x0,a3 x0 aa⟩⟩
  obtain ⟨L,hL⟩:∃ L:List (pX w g),L=xs.attach.map (fun x=>⟨x.1,a3 x.1 x.2⟩):=⟨_,rfl⟩;have a1:L.map (·.1)=xs:=by rw [hL,List.map_map]; exact List.attach_map_subtype_val xs
  have hlen:L.length=xs.length:=by rw [← a1]; simp
  have a4:∀ (d:List (pX w g)) (i:Nat) (h:i < d.length),d.toArray[i]! = d[i]:=fun d i h=>by simp [getElem!_pos,h]
  have hH:HoldsK pX.enc 2 w g 0 L.toArray:=by
   intro j hj;simp only [size_flatK,List.size_toArray] at hj;refine ⟨?_,a8 _⟩;show w.cell? _=some ((flatK pX.enc 2 L.toArray)[j]!);rw [get_flatK _ _ _ _ (by simpa using hj),a4 L (j / 2) (by omega)];have h1:=hc (j / 2) (L[j / 2]'(by omega)).1 (by rw [← a1,List.getElem?_map,Ψ (by omega)]; rfl);have e:0+j=j / 2 * 2+j % 2:=by omega
   rw [e]
   rcases (show j % 2=0∨j % 2=1 by omega) with h | h
   ·rw [h]; exact h1.1
   ·rw [h]; exact h1.2
  have a5:CmpLays Tryz.prog 64 #[] pX.enc 2 (pX.cf (w:=w) (g:=g)) g 0 L.toArray.size w:=fun m os dk ae x y=>by
   obtain ⟨b1,h1,n1⟩:=x.2;obtain ⟨b2,h2,n2⟩:=y.2;have hb:=IX pX.enc 2 w g m dk os hg;refine (EK x.1.t y.1.t (.string x.1.t.name) x.1.c1 (.string y.1.t.name) y.1.c1 b1 b2 (sortWorldK pX.enc 2 w g 0 m dk os) (ak.keep h1 fun b J=>hb.block b (ak.lt h1 b J) (fun e=>n1 (e ▸ J))) (ak.keep h2 fun b J=>hb.block b (ak.lt h2 b J) (fun e=>n2 (e ▸ J)))).mono ?_;rintro e w' ⟨rfl,ab⟩;exact ⟨rfl,ab.is⟩
  have U:=AnyQ.slices_SortFunc Tryz.sortA 2 Tryz.isAgg33 Tryz.sizeOf33 pX.enc (fun x=>rfl) (fun x v hv=>by
   obtain ⟨b1,h1,_⟩:=x.2;obtain ⟨Ad,cc,_,h3⟩:=bG h1;unfold pX.enc Fc.enc at hv;rw [h3] at hv;simp at hv
   rcases hv with rfl | rfl <;> rfl) pX.cf XV 64 #[] g 0 cap L.toArray w (enters_of Tryz.func64 (by kernel_rfl) rfl) a5 hH hg (by simpa [hlen] using a9)
  have hs:L.toArray.size=xs.length:=by simp [hlen]
  rw [hs] at U;change Calls Tryz.prog 103 _ _ _ at U;refine U.mono ?_;rintro e w' ⟨rfl,d',n,os,hp,a6,rfl⟩;have hd:d'.size=xs.length:=by rw [hp.1,hs]
  have a7:=holdsK_sortWorldK_c pX.enc 2 w g 0 L.toArray d' n os hH hg (by rw [hp.1]);refine ⟨rfl,d'.toList.map (·.1),?_,?_,fun k y hk=>?_,IX _ _ _ _ _ _ _ hg,fun I e h=>TM _ _ _ _ _ _ _ h⟩
  ·have h3:=hp.2.2
   rw [Array.extract_eq_self_of_le (by omega),Array.extract_eq_self_of_le (by omega)] at h3;have h4:=h3.map (·.1)
   rwa [List.toList_toArray,a1] at h4
  ·refine List.pairwise_map.2 (List.pairwise_iff_getElem.2 fun i j hi hj ac=>?_)
   have h3:=a6 i j ε ac (by simp at hj; omega);rw [getElem!_pos d' i (by simpa using hi),getElem!_pos d' j (by simpa using hj)] at h3;unfold ltOf pX.cf at h3;simpa using h3
  ·obtain ⟨z,hz,rfl⟩:∃ z,d'[k]? = some z∧z.1=y:=by
    rw [List.getElem?_map] at hk;obtain ⟨z,hz,rfl⟩:=Option.map_eq_some_iff.1 hk;exact ⟨z,by simpa using hz,rfl⟩
   obtain ⟨a2,rfl⟩:=Array.getElem?_eq_some_iff.1 hz;have c0:=(a7.cell (i:=k) (c:=0) a2 (by omega)).1;have c1:=(a7.cell (i:=k) (c:=1) a2 (by omega)).1;rw [getElem!_pos d' k a2] at c0 c1;rw [Nat.zero_add] at c0 c1;exact ⟨c0,c1⟩
end
section
open Go.RowKit D
theorem D.TN (w:World) (o:Obj) (k:Nat):(w.alloc o).heap[k]? = if k=w.heap.size then some o else w.heap[k]?:=by
 by_cases h:k=w.heap.size
 ·rw [if_pos h,h]; exact ω w o
 ·rw [if_neg h]
  by_cases y:k < w.heap.size
  ·exact Below.heap_alloc w o k y
  ·have I:(w.alloc o).heap.size=w.heap.size+1:=by simp
   rw [Array.getElem?_eq_none (by omega),Array.getElem?_eq_none (by omega)]
def D.rx (z sb nr:Nat):rD:=⟨z+1+1+1+1+1,z,z+1,z+1+1+1+1+1+1,z+1+1+1,z+1+1+1+1,z+1+1,sb,nr⟩
def D.rW (w:World) (sb nr:Nat):World:=(((((((w.alloc (.cells #[.pointer (some ⟨sb,0,none⟩)] 100)).alloc (.cells #[.int .i64 nr] 3)).alloc (.chan 301 #[] false 0 0 false)).alloc (.cells #[.chan (some (w.heap.size+1+1))] 262)).alloc (.map #[] 0)).alloc
 (.cells #[.map (some (w.heap.size+1+1+1+1))] 116)).alloc (.cells #[.bool true] 4))
theorem D.QM (w:World) (sb nr:Nat):(rW w sb nr).heap.size=w.heap.size+7:=by unfold rW; simp
theorem D.vC (w:World) (sb nr:Nat) (k:Nat):(rW w sb nr).heap[k]? = if k=w.heap.size+6 then some (.cells #[.bool true] 4) else if k=w.heap.size+5 then some (.cells #[.map (some (w.heap.size+1+1+1+1))] 116) else if k=w.heap.size+4 then some (.map #[] 0) else
  if k=w.heap.size+3 then some (.cells #[.chan (some (w.heap.size+1+1))] 262) else if k=w.heap.size+2 then some (.chan 301 #[] false 0 0 false) else if k=w.heap.size+1 then some (.cells #[.int .i64 nr] 3) else if k=w.heap.size then some (.cells #[.pointer (some ⟨sb,0,none⟩)] 100) else w.heap[k]?:=by
 unfold rW;simp only [TN];simp
theorem D.Om (w:World) (sb nr:Nat):Below w.heap.size w (rW w sb nr):=by
 refine ⟨rfl,rfl,rfl,by rw [QM]; omega,fun k y=>?_⟩;rw [vC];simp only [show ¬ k=w.heap.size+6 by omega,show ¬ k=w.heap.size+5 by omega,show ¬ k=w.heap.size+4 by omega,show ¬ k=w.heap.size+3 by omega,show ¬ k=w.heap.size+2 by omega,show ¬ k=w.heap.size+1 by omega,show ¬ k=w.heap.size by omega,if_false]
theorem D.TP (w:World) (sb nr:Nat) (fs:List A) (rn I:List Nat) (J:kW sb fs rn I w) (hl:fs.length≤300):nZ (rx w.heap.size sb nr) w.heap.size fs I (rW w sb nr) [] (I ++ (rx w.heap.size sb nr).own):=by
 have hb:=Om w sb nr;have U:newL fs [] = []:=rfl;have lt:=J.lt;have es:(rx w.heap.size sb nr).own = [w.heap.size+5,w.heap.size,w.heap.size+1,w.heap.size+6,w.heap.size+3,w.heap.size+4,w.heap.size+2]:=rfl;refine ⟨?_,?_,?_,?_,?_,?_,⟨[],0,[],?_,?_,?_⟩,⟨rn,J.below hb⟩,by rw [U]; simpa using hl,fun t ht=>by simp at ht,?_,?_,?_,?_,?_⟩
 ·show (rW w sb nr).heap[w.heap.size+5]? = _
  rw [vC]; simp; rfl
 ·show (rW w sb nr).heap[w.heap.size]? = _
  rw [vC]; simp; rfl
 ·show (rW w sb nr).heap[w.heap.size+1]? = _
  rw [vC]; simp; rfl
 ·show (rW w sb nr).heap[w.heap.size+6]? = _
  rw [vC]; simp
 ·show (rW w sb nr).heap[w.heap.size+3]? = _
  rw [vC]; simp; rfl
 ·rw [U]
  have:(rW w sb nr).heap[w.heap.size+4]? = some (.map #[] 0):=by rw [vC]; simp
  exact ⟨⟨#[],0,this,rfl⟩,fun p h=>by simp [zF] at h,List.Pairwise.nil⟩
 ·show (rW w sb nr).heap[w.heap.size+2]? = _
  rw [vC]; simp
 ·rw [U]; rfl
 ·exact fun k y=>by simp at y
 ·rw [es]; simp
 ·exact fun k y=>Ω _ y
 ·intro k y
  have:=lt k y;refine ⟨Ξ _ y,fun hm=>?_⟩;rw [es] at hm; simp at hm; omega
 ·show w.heap.size≤w.heap.size+5; omega
 ·intro k y
  rw [QM]
  rcases μ.1 y with y | y
  ·have:=lt k y; omega
  ·rw [es] at y; simp at y; omega
theorem D.WE {rs:List Ru} {xs:List A} {k:Nat} (h:k < rs.length) (t:A):(∃ r ∈ rs.take (k+1),lW xs r t) ↔ (∃ r ∈ rs.take k,lW xs r t)∨lW xs rs[k] t:=by
 rw [ρ h];constructor
 ·rintro ⟨r,hr,hf⟩
  rcases μ.1 hr with hr | hr
  ·exact .inl ⟨r,hr,hf⟩
  ·rw [ώ.1 hr] at hf; exact .inr hf
 ·rintro (⟨r,hr,hf⟩ | hf)
  ·exact ⟨r,Ξ _ hr,hf⟩
  ·exact ⟨_,Ω _ (ώ.2 rfl),hf⟩
structure D.Yb where
 B:Nat
 sb:Nat
 mu:Nat
 mp:Nat
 nr:Nat
 B0:Nat
 bS:Nat
 bN:Nat
 ch:Nat
 mc:Nat
 sd:Nat
 Fb:Nat→Prop
 fr:List Nat
 f2:List Nat
 fs:List A
 rn:List Nat
 new:List A
structure D.Oo (x:Yb):Prop where
 sub:∀ k ∈ x.fr,k ∈ x.f2
 mS:x.bS ∈ x.f2
 mN:x.bN ∈ x.f2
 mH:x.ch ∈ x.f2
 mM:x.mc ∈ x.f2
 nH:¬ x.Fb x.ch
 nM:¬ x.Fb x.mc
 df:x.bS ≠ x.ch∧x.bN ≠ x.ch∧x.mc ≠ x.ch∧x.mc ≠ x.bS∧x.mc ≠ x.bN
 fh:x.ch ∉ x.fr
 fm:x.mc ∉ x.fr
 lH:x.B0≤x.ch
 lM:x.B0≤x.mc
 b0:x.B0≤x.sb∧x.B0≤x.mu∧x.B0≤x.mp∧x.B0≤x.B
 fok:∀ f ∈ x.fs,aW f
 nok:∀ f ∈ x.new,aW f
 nd:x.new.Nodup
 no:∀ t ∈ x.new,t ∉ x.fs
 few:x.fs.length+x.new.length≤300
 rfew:x.rn.length≤300
structure D.F5 (x:Yb) (w:World) (k:Nat) (wr:World):Prop where
 bel:Below x.B0 w wr
 kep:∀ k ∈ x.fr,wr.heap[k]? = w.heap[k]?
 cS:wr.heap[x.bS]? = some (.cells #[.pointer (some ⟨x.sb,0,none⟩)] 100 (0,0))
 cN:wr.heap[x.bN]? = some (.cells #[.int .i64 x.nr] 3 (0,0))
 chn:∃ vs bb,wr.heap[x.ch]? = some (.chan 301 ⟨vs⟩ true x.sd k false)∧J4 wr vs (x.new.drop k) bb∧∀ k ∈ bb,k ∈ x.f2∧x.Fb k
 uh:jP x.B x.sb x.mu x.mp x.Fb x.f2 (x.fs ++ x.new.take k) (x.rn ++ List.replicate k x.nr) wr
 cam:∃ n L f,gB x.mc n L f wr∧n≤k∧(∀ s,s ∈ L ↔ ∃ t ∈ x.new.take k,t.name=s)∧∀ s ∈ L,1≤f s∧f s≤(k:Int)
structure D.tH (x:Yb) (w:World) (k:Nat) (a:A) (c:Value) (ba:List Nat) (wr:World):Prop where
 bel:Below x.B0 w wr
 kep:∀ k ∈ x.fr,wr.heap[k]? = w.heap[k]?
 cS:wr.heap[x.bS]? = some (.cells #[.pointer (some ⟨x.sb,0,none⟩)] 100 (0,0))
 cN:wr.heap[x.bN]? = some (.cells #[.int .i64 x.nr] 3 (0,0))
 chn:∃ vs bb,wr.heap[x.ch]? = some (.chan 301 ⟨vs⟩ true x.sd (k+1) false)∧J4 wr vs (x.new.drop (k+1)) bb∧∀ k ∈ bb,k ∈ x.f2∧x.Fb k
 uh:jP x.B x.sb x.mu x.mp x.Fb x.f2 (x.fs ++ x.new.take k) (x.rn ++ List.replicate k x.nr) wr
 cam:∃ n L f,gB x.mc n L f wr∧n≤k∧(∀ s,s ∈ L ↔ ∃ t ∈ x.new.take k,t.name=s)∧∀ s ∈ L,1≤f s∧f s≤(k:Int)
 at':aJ wr [.string a.name,c] a ba
 bas:∀ k ∈ ba,k ∈ x.f2∧x.Fb k
theorem D.F5.recv {x:Yb} (X:Oo x) {w:World} {k:Nat} {wr:World} (h:F5 x w k wr) (hk:k < x.new.length):
  ∃ c vs ba,wr.heap[x.ch]? = some (.chan 301 ⟨.agg #[.string x.new[k].name,c] :: vs⟩ true x.sd k false)∧tH x w k x.new[k] c ba (wr.setChan x.ch 301 ⟨vs⟩ true x.sd (k+1) false):=by
 obtain ⟨U,bb,h1,h2,J⟩:=h.chn;rw [List.drop_eq_getElem_cons hk] at h2
 cases U with
 | nil=>exact h2.elim
 | cons v vs=>
  obtain ⟨c,b1,b2,rfl,rfl,h4,h5⟩:=h2;have a0:=ψ h1;have hc:=Go.Conc.heap_setChan wr x.ch 301 ⟨vs⟩ true x.sd (k+1) false a0
  have I:∀ j,j ≠ x.ch→(wr.setChan x.ch 301 ⟨vs⟩ true x.sd (k+1) false).heap[j]? = wr.heap[j]?:=fun j y=>by
   simp only [World.setChan]; rw [Array.getElem?_setIfInBounds_ne (by omega)]
  have hs:(wr.setChan x.ch 301 ⟨vs⟩ true x.sd (k+1) false).heap.size=wr.heap.size:=by simp [World.setChan]
  have nF:∀ j,x.Fb j→j ≠ x.ch:=fun j y e=>X.nH (e ▸ y)
  obtain ⟨n,L,f,m1,m2⟩:=h.cam
  refine ⟨c,vs,b1,h1,⟨?_,fun j y=>(I j (fun e=>X.fh (e ▸ y))).trans (h.kep j y),(I _ X.df.1).trans h.cS,(I _ X.df.2.1).trans h.cN,⟨vs,b2,hc,h5.keep fun j y=>I j (nF j (J j (Ω _ y)).2),fun j y=>J j (Ω _ y)⟩,
   h.uh.other X.mH X.nH (by rw [hs]; exact ν) (fun j _ y=>I j y),⟨n,L,f,m1.same (I _ X.df.2.2.1),m2⟩,ak.keep h4 fun j y=>I j (nF j (J j (Ξ _ y)).2),fun j y=>J j (Ξ _ y)⟩⟩
  exact Go.Conc.below_setChan h.bel X.lH 301 ⟨vs⟩ true x.sd (k+1) false
theorem D.tH.later {x:Yb} (X:Oo x) {w:World} {k:Nat} {a:A} {c:Value} {ba:List Nat} {wr w':World} (h:tH x w k a c ba wr) (I:Below wr.heap.size wr w'):tH x w k a c ba w':=by
 have lt:=h.uh.lt;have b0:=X.b0;have k2:∀ j ∈ x.f2,w'.heap[j]? = wr.heap[j]?:=fun j y=>I.block j (lt.2.2 j y)
 obtain ⟨vs,bb,h1,U,J⟩:=h.chn;obtain ⟨n,L,f,m1,m2⟩:=h.cam
 exact ⟨h.bel.trans (I.mono (by omega)),fun j y=>(k2 j (X.sub j y)).trans (h.kep j y),(k2 _ X.mS).trans h.cS,(k2 _ X.mN).trans h.cN,⟨vs,bb,(k2 _ X.mH).trans h1,U.keep fun j y=>k2 j (J j y).1,J⟩,h.uh.later I,⟨n,L,f,m1.same (k2 _ X.mM),m2⟩,
  ak.keep h.at' fun j y=>k2 j (h.bas j y).1,h.bas⟩
theorem D.tH.done {x:Yb} (X:Oo x) {w:World} {k:Nat} (hk:k < x.new.length) {c:Value} {ba:List Nat} {wr U w6:World} (h:tH x w k x.new[k] c ba wr) (hb:Below x.B0 wr U) (hS:jP x.B x.sb x.mu x.mp x.Fb x.f2 (x.fs ++ x.new.take k ++ [x.new[k]]) (x.rn ++ List.replicate k x.nr ++ [x.nr]) U)
  (hf:∀ j ∈ x.f2,U.heap[j]? = wr.heap[j]?) {n:Nat} {L:List ByteArray} {f:ByteArray→Int} (hM:gB x.mc (n+1) (dZ L x.new[k].name) (fun t=>if t=x.new[k].name then (if x.new[k].name ∈ L then f x.new[k].name else 0)+1 else f t) w6) (hg:U.grownBy w6 (some x.mc))
  (hn:n≤k) (hL:∀ s,s ∈ L ↔ ∃ t ∈ x.new.take k,t.name=s) (hv:∀ s ∈ L,1≤f s∧f s≤(k:Int)):F5 x w (k+1) w6:=by
 have a0:=hS.lt;have k6:∀ j,j < U.heap.size→j ≠ x.mc→w6.heap[j]? = U.heap[j]?:=fun j h1 h2=>hg.block j h1 (fun e=>h2 (by injection e))
 have nF:∀ j,x.Fb j→j ≠ x.mc:=fun j y e=>X.nM (e ▸ y)
 have kk:∀ j ∈ x.f2,j ≠ x.mc→w6.heap[j]? = wr.heap[j]?:=fun j y I=>(k6 j (a0.2.2 j y) I).trans (hf j y)
 obtain ⟨vs,bb,h1,h2,h3⟩:=h.chn;have et:x.new.take (k+1)=x.new.take k ++ [x.new[k]]:=ρ hk;refine ⟨?_,fun j y=>(kk j (X.sub j y) (fun e=>X.fm (e ▸ y))).trans (h.kep j y),(kk _ X.mS X.df.2.2.2.1.symm).trans h.cS,(kk _ X.mN X.df.2.2.2.2.symm).trans h.cN,⟨vs,bb,(kk _ X.mH X.df.2.2.1.symm).trans h1,h2.keep fun j y=>kk j (h3 j y).1 (nF j (h3 j y).2),h3⟩,?_,⟨n+1,_,_,hM,by omega,fun s=>?_,fun s hs=>?_⟩⟩
 ·exact (h.bel.trans hb).grown hg (by have:=X.b0; omega) fun j e=>by injection e with e; have:=X.lM; omega
 ·rw [et,← List.append_assoc,List.replicate_succ',← List.append_assoc]
  exact hS.other X.mM X.nM hg.size (fun j h1 h2=>k6 j h1 h2)
 ·rw [dP,hL,et]
  constructor
  ·rintro (⟨t,J,e⟩ | e)
   ·exact ⟨t,Ξ _ J,e⟩
   ·exact ⟨x.new[k],Ω _ (ώ.2 rfl),e.symm⟩
  ·rintro ⟨t,J,e⟩
   rcases μ.1 J with J | J
   ·exact .inl ⟨t,J,e⟩
   ·rw [ώ.1 J] at e; exact .inr e.symm
 ·show 1≤(if s=x.new[k].name then _ else f s)∧(if s=x.new[k].name then _ else f s)≤((k+1:Nat):Int)
  split
  ·split
   ·rename_i hm
    have:=hv _ hm;omega
   ·omega
  ·rename_i I
   rcases dP.1 hs with h | h
   ·have:=hv s h; omega
   ·exact absurd h I
def D.rcv (B sb mu mp nr B0 z mc sd:Nat) (Fb:Nat→Prop) (fr bb:List Nat) (fs:List A) (rn:List Nat) (new:List A):Yb:=
 ⟨B,sb,mu,mp,nr,B0,z,z+1,z+1+1,mc,sd,fun k=>Fb k∧k ≠ z+2∧k ≠ mc,fr,fr ++ ([z,z+1,z+2,mc] ++ bb),fs,rn,new⟩
theorem D.YP {B sb mu mp nr B0 mc sd:Nat} {Fb:Nat→Prop} {fr bb y fb:List Nat} {fs told:List A} {rn:List Nat} {w wr:World} (S:jP B sb mu mp Fb fr fs rn w) (F:nZ (rx w.heap.size sb nr) w.heap.size fs y wr told fb) (hb:w.heap.size < wr.heap.size) (a0:mc=wr.heap.size) (I:B0≤sb∧B0≤mu∧B0≤mp∧B0≤B) (J:∀ f ∈ fs,aW f) (U:rn.length≤300):
  Oo (rcv B sb mu mp nr B0 w.heap.size mc sd Fb fr bb fs rn (newL fs told)):=by
 have lt:=S.lt;have hn:=rq fs told;have l2:w.heap.size+2 < wr.heap.size:=F.lt _ (F.ow (w.heap.size+2) (by show _ ∈ [_,_,_,_,_,_,_]; simp [rx]));refine ⟨fun k hk=>Ξ _ hk,by simp [rcv],by simp [rcv],by simp [rcv],by simp [rcv],fun h=>h.2.1 rfl,fun h=>h.2.2 rfl,?_,fun h=>?_,fun h=>?_,?_,?_,I,J,fun t ht=>F.tok t ((hn.2 t).1 ht).1,hn.1,fun t ht=>((hn.2 t).1 ht).2,F.few,U⟩
 ·simp only [rcv]; omega
 ·have h1:w.heap.size+2 < w.heap.size:=lt.2.2 _ h; omega
 ·have h1:mc < w.heap.size:=lt.2.2 _ h; omega
 ·simp only [rcv]; omega
 ·simp only [rcv]; omega
theorem D.TQ {B sb mu mp nr B0 sd:Nat} {Fb:Nat→Prop} {fr bb a1 fb:List Nat} {fs told:List A} {rn:List Nat} {w wr:World} {vs:List Value} (a2:∀ x,B≤x→Fb x) (S:jP B sb mu mp Fb fr fs rn w) (F:nZ (rx w.heap.size sb nr) w.heap.size fs a1 wr told fb) (hb:Below w.heap.size w wr) (a3:B0≤sb∧B0≤mu∧B0≤mp∧B0≤B)
  (h1:wr.heap[w.heap.size+1+1]? = some (.chan 301 ⟨vs⟩ false sd 0 false)) (h2:J4 wr vs (newL fs told) bb) (h3:∀ k ∈ bb,k ∈ fb∧w.heap.size≤k∧k ∉ (rx w.heap.size sb nr).own):
  F5 (rcv B sb mu mp nr B0 w.heap.size wr.heap.size sd Fb fr bb fs rn (newL fs told)) w 0 ((wr.setChan (w.heap.size+1+1) 301 ⟨vs⟩ true sd 0 false).alloc (.map #[] 0)):=by
 have lt:=S.lt;have I:(wr.setChan (w.heap.size+1+1) 301 ⟨vs⟩ true sd 0 false).heap.size=wr.heap.size:=by simp [World.setChan]
 have hH:=Go.Conc.heap_setChan wr (w.heap.size+1+1) 301 ⟨vs⟩ true sd 0 false (ψ h1)
 have ko:∀ j,j ≠ w.heap.size+1+1→(wr.setChan (w.heap.size+1+1) 301 ⟨vs⟩ true sd 0 false).heap[j]? = wr.heap[j]?:=fun j y=>by
  simp only [World.setChan]; rw [Array.getElem?_setIfInBounds_ne (by omega)]
 have J:∀ j,j < wr.heap.size→((wr.setChan (w.heap.size+1+1) 301 ⟨vs⟩ true sd 0 false).alloc (.map #[] 0)).heap[j]? = (wr.setChan (w.heap.size+1+1) 301 ⟨vs⟩ true sd 0 false).heap[j]?:=fun j y=>Below.heap_alloc _ _ _ (by rw [I]; exact y)
 have own:∀ j ∈ (rx w.heap.size sb nr).own,j < wr.heap.size:=fun j y=>F.lt j (F.ow j y)
 have o0:w.heap.size < wr.heap.size:=own _ (by show _ ∈ [_,_,_,_,_,_,_]; simp [rx]);have o1:w.heap.size+1 < wr.heap.size:=own _ (by show _ ∈ [_,_,_,_,_,_,_]; simp [rx]);have o2:w.heap.size+2 < wr.heap.size:=ψ h1;have a0:Below w.heap.size w ((wr.setChan (w.heap.size+1+1) 301 ⟨vs⟩ true sd 0 false).alloc (.map #[] 0)):=(Go.Conc.below_setChan hb (by omega) 301 ⟨vs⟩ true sd 0 false).alloc (by rw [I]; exact hb.size) _;have hz:((wr.setChan (w.heap.size+1+1) 301 ⟨vs⟩ true sd 0 false).alloc (.map #[] 0)).heap.size=wr.heap.size+1:=by simp [I]
 refine ⟨a0.mono (by show B0≤_; omega),fun j y=>a0.block j (lt.2.2 j y),?_,?_,⟨vs,bb,?_,?_,?_⟩,?_,⟨0,[],fun _=>0,?_,ν,fun s=>by simp,fun s hs=>by simp at hs⟩⟩
 ·show (World.alloc _ _).heap[w.heap.size]? = _
  rw [J _ o0,ko _ (by omega)]; exact F.cS
 ·show (World.alloc _ _).heap[w.heap.size+1]? = _
  rw [J _ o1,ko _ (by omega)]; exact F.cN
 ·show (World.alloc _ _).heap[w.heap.size+2]? = _
  rw [J _ o2]; exact hH
 ·show J4 _ vs (List.drop 0 (newL fs told)) bb
  rw [List.drop_zero];refine h2.keep fun j y=>?_
  have g:=h3 j y;rw [J _ (h2.lt j y),ko _ (fun e=>g.2.2 (by rw [e]; show _ ∈ [_,_,_,_,_,_,_]; simp [rx]))]
 ·intro j y
  have g:=h3 j y;have gl:=h2.lt j y;refine ⟨by simp [rcv,y],a2 j (by omega),fun e=>g.2.2 (by rw [e]; show _ ∈ [_,_,_,_,_,_,_]; simp [rx]),?_⟩;show j ≠ wr.heap.size;omega
 ·have h:=(S.mono (Fb':=fun k=>Fb k∧k ≠ w.heap.size+2∧k ≠ wr.heap.size) fun x U hl=>⟨U,by omega,by omega⟩).more a0 ([w.heap.size,w.heap.size+1,w.heap.size+2,wr.heap.size] ++ bb) (fun x U=>by
   rw [hz]
   rcases μ.1 U with U | U
   ·simp at U; omega
   ·have:=(h3 x U).2.1; have:=h2.lt x U; omega)
  simpa [rcv] using h
 ·have:=gB.made (wr.setChan (w.heap.size+1+1) 301 ⟨vs⟩ true sd 0 false) (fun _=>0)
  rw [I] at this;exact this
theorem D.TR {α β:Type} (f:α→β) {ys xs:List β} (h:ys.Perm xs):∀ L:List α,xs=L.map f→∃ I:List α,I.Perm L∧ys=I.map f:=by
 induction h with
 | nil=>intro L e; exact ⟨L,List.Perm.refl _,e⟩
 | cons x _ ih=>
  intro L e
  cases L with
  | nil=>simp at e
  | cons a L=>
   simp only [List.map_cons,List.cons.injEq] at e;obtain ⟨I,h1,J⟩:=ih L e.2;exact ⟨a :: I,h1.cons a,by rw [List.map_cons,e.1,J]⟩
 | swap x y l=>
  intro L e
  match L,e with
  | [],e=>simp at e
  | [a],e=>simp at e
  | a :: b :: L,e=>
   simp only [List.map_cons,List.cons.injEq] at e;exact ⟨b :: a :: L,List.Perm.swap a b L,by rw [List.map_cons,List.map_cons,e.1,e.2.1,e.2.2]⟩
 | trans _ _ ih1 ih2=>
  intro L e;obtain ⟨U,h1,J⟩:=ih2 L e;obtain ⟨L2,h3,h4⟩:=ih1 U J;exact ⟨L2,h3.trans h1,h4⟩
structure D.Fq where
 t:A
 c1:Value
 ba:List Nat
def D.Fq.cs (x:Fq):List Value:=[.string x.t.name,x.c1]
def D.Fq.fc (x:Fq):Fc:=⟨x.t,x.c1⟩
theorem D.chunks {L:List Value} {n:Nat} (h:L.length=n * 2):L=(List.range n).flatMap fun j=>(L.drop (j * 2)).take 2:=by
 have key:∀ k,k≤n→L.take (k * 2)=(List.range k).flatMap fun j=>(L.drop (j * 2)).take 2:=by
  intro k
  induction k with
  | zero=>intro _; simp
  | succ k ih=>
   intro y;rw [List.range_succ,List.flatMap_append,← ih (by omega),Nat.add_mul,Nat.one_mul];simp [List.take_add]
 have:=key n ν
 rwa [← h,List.take_length] at this
theorem D.TT {w:World} {L:List Value} {xs:List A} {bs:List Nat} (h:aT 2 aJ w L xs bs):∃ zs:List Fq,zs.map (·.t)=xs∧zs.flatMap (·.cs)=L∧zs.flatMap (·.ba)=bs∧∀ z ∈ zs,aJ w [.string z.t.name,z.c1] z.t z.ba:=by
 obtain ⟨h1,y,G,rfl,I⟩:=h
 have hex:∀ j:Fin xs.length,∃ s,(L.drop (j.1 * 2)).take 2 = [.string xs[j.1].name,s]:=fun j=>by
  obtain ⟨s,e,_⟩:=I j.1 j.2;exact ⟨s,e⟩
 let f:Fin xs.length→Fq:=fun j=>⟨xs[j.1],Classical.choose (hex j),G j.1⟩
 have hf:∀ j:Fin xs.length,(f j).cs=(L.drop (j.1 * 2)).take 2:=fun j=>(Classical.choose_spec (hex j)).symm
 have hr:∀ (γ:Type) (q:Nat→List γ),(List.finRange xs.length).flatMap (fun j=>q j.1)=(List.range xs.length).flatMap q:=fun γ q=>by
  have e:List.range xs.length=(List.finRange xs.length).map (fun j=>j.1):=by
   apply List.ext_getElem
   ·simp
   ·intro i h1 y
    simp
  rw [e,List.flatMap_map]
 refine ⟨(List.finRange xs.length).map f,?_,?_,?_,fun z J=>?_⟩
 ·apply List.ext_getElem
  ·simp
  ·intro i h1 y
   simp [f]
 ·rw [List.flatMap_map]
  rw [chunks h1]
  conv=>rhs; rw [← hr]
  refine congrArg (fun g=>List.flatMap g (List.finRange xs.length)) (funext fun j=>?_);exact hf j
 ·rw [List.flatMap_map]
  exact hr Nat G
 ·obtain ⟨j,_,rfl⟩:=List.mem_map.1 J
  have:=I j.1 j.2;rw [← hf j] at this;exact this
theorem D.IY {w:World}:∀ {zs:List Fq},(∀ z ∈ zs,aJ w [.string z.t.name,z.c1] z.t z.ba)→aT 2 aJ w (zs.flatMap (·.cs)) (zs.map (·.t)) (zs.flatMap (·.ba))
 | [],_=>aT.nil
 | z :: zs,h=>by
  have h1:aT 2 aJ w z.cs [z.t] z.ba:=aT.dJ eH (h z Γ);exact h1.append (IY fun y I=>h y (Δ _ I))
theorem D.Yc (zs:List Fq) (k:Nat) (h:k < zs.length):(zs.flatMap (·.cs))[k * 2]? = some (.string zs[k].t.name)∧(zs.flatMap (·.cs))[k * 2+1]? = some zs[k].c1:=by
 induction zs generalizing k with
 | nil=>simp at h
 | cons z zs ih=>
  cases k with
  | zero=>simp [Fq.cs]
  | succ k=>
   have:=ih k (by simpa using h);have y:(k+1) * 2=k * 2+2:=by omega
   have I:(k+1) * 2+1=k * 2+1+2:=by omega
   rw [y,show k * 2+2+1=k * 2+1+2 by omega];simp only [List.flatMap_cons,Fq.cs,List.cons_append,List.nil_append,List.getElem?_cons_succ,List.getElem_cons_succ];exact this
theorem D.WG (zs:List Fq):(zs.flatMap (·.cs)).length=zs.length * 2:=by
 induction zs with
 | nil=>rfl
 | cons z zs ih=>simp only [List.flatMap_cons,χ,ih,List.length_cons]; simp [Fq.cs]; omega
theorem JW (xs:List A) (v:Value) (L:List Value) (bs:List Nat) (base:Nat) (w:World) (C:aX 2 aJ base 33 w v L xs bs) (av:xs.length < 4611686018427387904):
  Calls Tryz.prog 103 #[v,.func (.func 64) #[] #[]] w fun e w'=>e=.returned (.tuple #[])∧
   ∃ ys L' bs',ys.Perm xs∧ys.Pairwise (fun a b=>¬ bV b a < 0)∧bs'.Perm bs∧aX 2 aJ base 33 w' v L' ys bs'∧iw (fun x=>v.ownBlock=some x) w w':=by
 obtain ⟨zs,e1,e2,e3,hz⟩:=TT C.row;obtain ⟨hlen,a3⟩:=C.own
 rcases a3 with ⟨rfl,hL⟩ | ⟨g,cap,a9,rfl,hg,hh,aa,ab,ac,ae⟩
 ·have hx:xs = []:=List.length_eq_zero_iff.1 hL
  subst hx;refine (Go.Proofs.AnyF.slices_SortFunc_none Tryz.sortA none 0 (.func (.func 64) #[] #[]) w).mono ?_;rintro e w' ⟨rfl,rfl⟩;exact ⟨rfl,[],L,bs,List.Perm.refl _,List.Pairwise.nil,List.Perm.refl _,C,iw.refl _ _⟩
 ·have af:g < w.heap.size:=ψ hh
  have a4:zs.length=xs.length:=by rw [← e1]; simp
  have a1:∀ z ∈ zs,g ∉ z.ba:=fun z I hm=>C.far g (by rw [← e3]; exact List.mem_flatMap.2 ⟨z,I,hm⟩) rfl
  have a5:∀ q,q < xs.length * 2→w.cell? ⟨g,q,none⟩=L[q]?:=fun q hq=>by
   rw [ai hh,← ae,List.getElem?_take_of_lt hq,Array.getElem?_toList]
  have hm:=GL g cap (zs.map Fq.fc) w af (fun k x hk=>by
   rw [List.getElem?_map] at hk;obtain ⟨z,ag,rfl⟩:=Option.map_eq_some_iff.1 hk;obtain ⟨am,rfl⟩:=List.getElem?_eq_some_iff.1 ag;have:=Yc zs k am;rw [e2] at this
   exact ⟨(a5 _ (by omega)).trans this.1,(a5 _ (by omega)).trans this.2⟩) (fun q=>ax hh) (fun x hx=>by
   obtain ⟨z,I,rfl⟩:=List.mem_map.1 hx
   exact ⟨z.ba,hz z I,a1 z I⟩) (by simp; omega)
  rw [List.length_map,a4] at hm;refine hm.mono ?_;rintro e w' ⟨rfl,ys,hp,hs,ao,y,a0⟩;obtain ⟨J,U,rfl⟩:=TR Fq.fc hp zs rfl;obtain ⟨a6,a7,a8⟩:=a0 a9 _ hh;have a2:J.length=xs.length:=by rw [U.length_eq,a4]
  have aq:∀ z ∈ J,aJ w' [.string z.t.name,z.c1] z.t z.ba:=fun z I=>by
   have h1:=hz z (U.mem_iff.1 I);exact ak.keep h1 fun b hb=>y.block b (ak.lt h1 b hb) (fun e=>a1 z (U.mem_iff.1 I) (e ▸ hb))
  refine ⟨rfl,J.map (·.t),J.flatMap (·.cs),J.flatMap (·.ba),by rw [← e1]; exact U.map _,?_,by rw [← e3]; exact U.flatMap_right _,⟨⟨?_,.inr ⟨g,cap,a6,?_,hg,a7,?_,ab,by rw [a8]; exact ac,?_⟩⟩,IY aq,fun b hb e=>?_⟩,?_⟩
  ·rw [List.pairwise_map] at hs ⊢
   exact hs
  ·rw [WG]; simp
  ·rw [List.length_map,a2]
  ·rw [List.length_map,a2]; exact aa
  ·apply List.ext_getElem?
   intro q;by_cases hq:q < xs.length * 2
   ·rw [List.getElem?_take_of_lt (by rw [List.length_map,a2]; exact hq),Array.getElem?_toList,← ai a7]
    have hk:q / 2 < J.length:=by omega
    have h1:=ao (q / 2) (J[q / 2].fc) (by rw [List.getElem?_map,Ψ hk]; rfl);have h2:=Yc J (q / 2) hk
    rcases (show q=q / 2 * 2∨q=q / 2 * 2+1 by omega) with e | e
    ·rw [e]
     have e':q / 2 * 2 / 2=q / 2:=by omega
     simp only [e'] at *;exact h1.1.trans h2.1.symm
    ·rw [e]
     have e':(q / 2 * 2+1) / 2=q / 2:=by omega
     simp only [e'] at *;exact h1.2.trans h2.2.symm
   ·rw [List.getElem?_eq_none (by simp; omega),List.getElem?_eq_none (by rw [WG]; omega)]
  ·obtain ⟨z,I,hb⟩:=List.mem_flatMap.1 hb
   injection e with e
   have e':g=b:=e;exact a1 z (U.mem_iff.1 I) (e' ▸ hb)
  ·exact ⟨y.os,y.tape,y.output,y.size,fun k hk ar=>y.block k hk fun e=>ar (by rw [e]; rfl)⟩
theorem D.Qc {y:List A} (hf:∀ t ∈ y,aW t) (hn:y.Nodup) (J:y.Pairwise (fun a b=>¬ bV b a < 0)):gm y=true:=by
 rw [yg];intro i I;have h1:=List.pairwise_iff_getElem.1 J i (i+1) (by omega) I (by omega);have U:=List.pairwise_iff_getElem.1 hn i (i+1) (by omega) I (by omega);by_cases h0:bV y[i] y[i+1]=0
 ·exact absurd (X5 (hf _ (δ _)).gr (hf _ (δ _)).gr h0) U
 ·rw [jQ] at h0 h1 ⊢
  have h4:=Je.anti (tX y[i+1]) (tX y[i]);omega
end
end Go.Proofs.YtkjinanbccloeaaGreatDoor
