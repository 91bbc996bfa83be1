/- Of the proof of FnDeltaBoth: RunI, SetP, AllI. -/
import Derived.Test.YtkjinanbccloeaaGreatDoorC31
set_option linter.unusedVariables false
set_option maxHeartbeats 8000000
set_option maxRecDepth 100000
namespace Go.Proofs.YtkjinanbccloeaaGreatDoor
section
open Go.RowKit D
attribute [local go_sem ↓] Go.wp_at_zero Go.wp_at_succ
section
variable (vars:List ByteArray) (fs:List A) (rn:List Nat) (bs:List Nat) (ps ns:List A) (head:A) (sk sb:Nat) (Ap:Option Addr) (cp:Nat) (An:Option Addr) (cn:Nat) (bp bn:List Nat) (wt:Nat→Bool) (ah:Int) (c5 c7:Addr) (K:Nat→Prop) (T:Bool→World→List A→Prop) (go:List A→Bool)
theorem run_stop (E:sS vars fs ps ns head wt) (hK:∀ k,K k→k ≠ sk) (hT:xZ vars head sk K c5 c7 T go) (left:Nat) (b:Bd) (told:List A) (w:World)
  (S:qW vars fs rn bs ps ns sk sb (.slice Ap ps.length cp) (.slice An ns.length cn) bp bn wt ah (.func (.func 116) #[] #[.pointer (some c5),.pointer (some c7)]) K b w)
  (a0:T true w told) (hS:setB vars b wt=true) (hH:zB fs ns b=true):
  Calls Tryz.prog 179 #[.pointer (some ⟨sk,0,none⟩),.int .i64 left] w (vw vars fs ps ns head K sk T go b left told w):=by
 have I:=(vk E.hv S.ok E.want E.hin E.nin).1 hS;have J:=uY vars b sk sb _ _ wt false ah _ w S.sea S.at_;rw [hS] at J;have U:=fun w1 (y:Below w.heap.size w w1)=>sN vars E.hv b S.ok fs rn bs ns An cn bn sk sb _ wt false ah _ w1 (S.below y).sea (S.below y).at_ (S.below y).tV (S.below y).pns E.nin (fun n hn=>(vX (E.nok n hn) S.wds (I.2 n hn)).ok) E.nl
 rw [hH] at U
 have a1:Hid (∀ w2,Below w.heap.size w w2→jr vars fs ps ns head K sk T go b left told false true w w2):=η fun w2 hb=>⟨[],dm.of_below S.sea.lt hb,S.at_.keep (hb.block _ S.sea.lt),
  by rw [List.append_nil]; exact hT.keep _ _ _ a0 (dN.of_below hb S.sea.lt),fun t ht=>by simp at ht,fun _ σ hσ=>absurd hσ (VF E S.wds I.2 hH σ),fun h=>by simp at h,fun h=>by simp at h⟩
 have a2:=η U;clear U S I a0 hT
 go_enter Tryz.func179,Tryz.ntmps179
 go_wp2_with fail
 refine J.mono ?_;rintro e w1 ⟨rfl,y⟩;have hh:=a2.out w1 y
 go_wp2_with fail
 refine hh.mono ?_;rintro e w2 ⟨rfl,a3⟩;have HD:=η (a1.out w2 (y.trans (a3.mono y.size)));clear J hh y a3 a1 a2;go_wp2;go_ret2;exact HD.out.ret
theorem VR (E:sS vars fs ps ns head wt) (hK:∀ k,K k→k ≠ sk) (hT:xZ vars head sk K c5 c7 T go) (b:Bd) (told:List A) (w:World)
  (S:qW vars fs rn bs ps ns sk sb (.slice Ap ps.length cp) (.slice An ns.length cn) bp bn wt ah (.func (.func 116) #[] #[.pointer (some c5),.pointer (some c7)]) K b w)
  (a0:∀ p ∈ ps,yO b p.args) (a1:T true w told) (hH:zB fs ns b=false):
  Calls Tryz.prog 179 #[.pointer (some ⟨sk,0,none⟩),.int .i64 ((0:Nat):Int)] w (vw vars fs ps ns head K sk T go b 0 told w):=by
 have hcv:=E.tight b a0;have hS:=(vk E.hv S.ok E.want E.hin E.nin).2 hcv;have I:=uY vars b sk sb _ _ wt false ah _ w S.sea S.at_;rw [hS] at I;have J:=fun w1 (y:Below w.heap.size w w1)=>sN vars E.hv b S.ok fs rn bs ns An cn bn sk sb _ wt false ah _ w1 (S.below y).sea (S.below y).at_ (S.below y).tV (S.below y).pns E.nin (fun n hn=>(vX (E.nok n hn) S.wds (hcv.2 n hn)).ok) E.nl
 rw [hH] at J;have a2:=fun w2 (hb:Below w.heap.size w w2)=>hT.call w2.drew b told S.ok S.wds hcv.1 (S.at_.keep ((hb.block _ S.sea.lt))) (hT.keep _ _ _ a1 (dN.of_below hb.drew S.sea.lt))
 have a3:Hid (∀ w2 w3:World,Below w.heap.size w w2→T (go (told ++ [dD head b])) w3 (told ++ [dD head b])→dm K sk w2.drew w3→w3.heap[sk]? = w2.drew.heap[sk]?→jr vars fs ps ns head K sk T go b 0 told true (go (told ++ [dD head b])) w w3):=η fun w2 w3 hb h1 h2 h3=>
  ⟨[dD head b],(dm.of_below S.sea.lt hb.drew).trans h2,(S.at_.keep (hb.block _ S.sea.lt)).keep h3,h1,fun t ht=>by
   rw [ώ.1 ht]
   exact ⟨jC b,⟨Jv b,fun j _ hj=>by simp at hj,fun n hn=>by rw [← yP]; exact VG E S.wds hcv.2 hH n hn⟩,(yP _ _).symm⟩,
   fun _ σ hσ=>by rw [← kQ hcv.1 hσ.1]; exact List.mem_singleton_self _,fun _=>by simp,fun h=>h⟩
 have a4:=η J;have a5:=η a2;have U:=η S.sea;clear J a2 S hcv a1 hT a0
 go_enter Tryz.func179,Tryz.ntmps179
 go_wp2_with fail
 refine I.mono ?_;rintro e w1 ⟨rfl,y⟩;have hh:=a4.out w1 y
 go_wp2_with fail
 refine hh.mono ?_;rintro e w2 ⟨rfl,a6⟩;have HB:=η (y.trans (a6.mono y.size));have a7:=η (a5.out w2 HB.out);have s0:=(U.out.keep (HB.out.block _ U.out.lt)).tl;clear I hh y a6 a4 a5;go_wp2
 go_region_law
  (first
   | (go_simp; go_at_call 116; refine a7.out.mono ?_; rintro e w3 ⟨rfl,a8,a9,aa⟩; have HD:=η (a3.out w2 w3 HB.out a8 a9 aa); clear a8 a9 aa))
 all_goals
  clear s0 a7 a3 U;go_wp2;go_ret2;exact HD.out.ret
theorem NQ (E : sS vars fs ps ns head wt) (hK : ∀ k, K k → k ≠ sk) (hT : xZ vars head sk K c5 c7 T go) (left : Nat) (c3 : left < 2 ^ ps.length) (cB : left ≠ 0)
    (IH : ∀ aq, aq < left → ∀ (b : Bd) (told : List A) (w : World), qW vars fs rn bs ps ns sk sb (.slice Ap ps.length cp) (.slice An ns.length cn) bp bn wt ah (.func (.func 116) #[] #[.pointer (some c5), .pointer (some c7)]) K b w →
      (∀ j (h : j < ps.length), aq.testBit j = false → yO b ps[j].args) → T true w told → Calls Tryz.prog 179 #[.pointer (some ⟨sk, 0, none⟩), .int .i64 aq] w (vw vars fs ps ns head K sk T go b aq told w))
    (b : Bd) (told : List A) (w : World)
    (S : qW vars fs rn bs ps ns sk sb (.slice Ap ps.length cp) (.slice An ns.length cn) bp bn wt ah (.func (.func 116) #[] #[.pointer (some c5), .pointer (some c7)]) K b w)
    (c4 : ∀ j (h : j < ps.length), left.testBit j = false → yO b ps[j].args) (cv : T true w told) (hH : setB vars b wt = true → zB fs ns b = false) :
    Calls Tryz.prog 179 #[.pointer (some ⟨sk, 0, none⟩), .int .i64 left] w (vw vars fs ps ns head K sk T go b left told w) := by
  have hl : left < 16 := Nat.lt_of_lt_of_le c3 (Nat.pow_le_pow_right (by omega) E.p4 : 2 ^ ps.length ≤ 2 ^ 4);have c6 := uY vars b sk sb _ _ wt false ah _ w S.sea S.at_;have c8 := fun w1 (a4 : Below w.heap.size w w1) => PG vars E.hv b fs rn bs ps Ap cp bp sk sb _ wt ah _ left w1 (S.below a4).sea (S.below a4).at_ (S.below a4).tV (S.below a4).pps E.pin (fun p hp => by have := oO (E.pok p hp); omega) E.p4 hl E.fl (VE left ps.length c3 E.p4 cB)
  have ca := fun (hs : setB vars b wt = true) w1 (a4 : Below w.heap.size w w1) => sN vars E.hv b S.ok fs rn bs ns An cn bn sk sb _ wt false ah _ w1 (S.below a4).sea (S.below a4).at_ (S.below a4).tV (S.below a4).pns E.nin (fun n hn => (vX (E.nok n hn) S.wds (((vk E.hv S.ok E.want E.hin E.nin).1 hs).2 n hn)).ok) E.nl
  have cb := Lib.hid ca;have bX := Lib.hid c8;have J := Lib.hid S;have cw := Lib.hid c4;have cx := Lib.hid cv;have cy := Lib.hid IH;have a7 := Lib.hid hT;have cc := Lib.hid hH;have cT : ¬ (left : Int) = 0 := by omega
  clear ca c8 S c4 cv IH hT hH;generalize hsb : setB vars b wt = s at *;have cD := Lib.hid hsb
  go_enter Tryz.func179, Tryz.ntmps179
  go_wp2_with fail
  refine c6.mono ?_;rintro e w1 ⟨rfl, a4⟩;clear c6 hsb;cases s
  · have aE := Lib.hid a4
    have b9 := bX.out w1 a4;clear a4;clear bX cb cc
    go_wp2_with fail
    refine b9.mono ?_;rintro e w3 ⟨m, A9, c9, key, bx, rfl, hC, bc⟩;have ar := Lib.hid (aE.out.trans (bc.mono aE.out.size));have HC := Lib.hid hC;have bh : Hid (jS w [.slice A9 (idxs fs key).length c9] (idxs fs key) bx) := Lib.hid (dW.keep hC.row fun x hx => (ar.out.block x (J.out.tV.lt x (hC.sub x hx))).symm);have hlen : (idxs fs key).length ≤ 1000000 := Nat.le_trans (nY _ _) E.fl;have a8 := hC.lt;have cd := E.p4
    have bi : Hid (iy vars fs ps ns head K sk T go b left m (idxs fs key) told [] false true 0 w w3) := Lib.hid ⟨dm.of_below J.out.sea.lt ar.out, J.out.at_.keep (ar.out.block _ J.out.sea.lt),
      by rw [List.append_nil]; exact a7.out.keep _ _ _ cx.out (dN.of_below ar.out J.out.sea.lt), fun t ht => by simp at ht, fun _ i hi => absurd hi (by omega), fun h => absurd h (by decide), fun h => absurd h (by decide)⟩
    clear b9 hC bc aE;go_wp2
    go_loopw [9, 40] (fun held i wr => ∃ (k : Nat) (ts : List A) (hd : Bool), k ≤ (idxs fs key).length ∧ i = .int .i64 k ∧ held = .bool hd ∧ iy vars fs ps ns head K sk T go b left m (idxs fs key) told ts hd true k w wr) (fun _ i _ => (idxs fs key).length - (intOf i).toNat)
    case atStart => exact ⟨0, [], false, Nat.zero_le _, rfl, rfl, bi.out⟩
    case round =>
      obtain ⟨k, ts, hd, hk, rfl, rfl, hI⟩ := hrel;clear bi;by_cases a9 : k < (idxs fs key).length
      · obtain ⟨b8, o8, rfl, ci, e0⟩ := qP (hI.kept.keep dW bh.out fun x hx => J.out.kbs x (HC.out.sub x hx)) a9
        obtain ⟨ac, _⟩ := FK.1 (List.getElem_mem a9);have cj := (J.out.sea.run hI.kept).io;have cE : (0 : Int) ≤ (k : Int) := by omega
        have cG : (k : Int) < ((idxs fs key).length : Int) := by omega
        have HI := Lib.hid hI;have av := Lib.hid a9;clear hI hk ci;go_wp2
        go_quiet (fail)
        have hI : iy vars fs ps ns head K sk T go b left m (idxs fs key) told ts hd true k w (wr.drewN nq) := HI.out.drewN a7.out J.out.sea.lt;clear HI cj e0;generalize wr.drewN nq = wr at *;have S1 := J.out.kept hI.kept hI.at_ J.out.ok J.out.wds;obtain ⟨⟨Af, cf, Ar, cr, mu, mp, bf, br, Lu, Lp, g1, g2, _, _, _, _, _, _, _, _, b1, _⟩, _, _⟩ := S1.tV;obtain ⟨bq, oq, Ae, ce, bk, rfl, bj, f0, f1, ⟨vv, bl, ck, bo⟩, aL⟩ := yR S1.pps a8;simp only [List.cons.injEq, and_true, true_and] at bl;subst bl;obtain ⟨b7, o7, Ag, cg, bg, rfl, bt, d0, d1, bu, ae⟩ := eG g2 ac;have aa := E.fok _ (List.getElem_mem ac)
        have a0 := FW vars E.hv b J.out.ok ps[m] fs[(idxs fs key)[k]] Ae Ag ce cg bk bg sk 18 wr.drew (S1.at_.keep rfl) ((dK vars).keep bo fun _ _ => rfl) (aT.keep (dQ bu) fun _ _ => rfl) (E.pin _ (List.getElem_mem a8)) (IL (E.pok _ (List.getElem_mem a8)))
          (fun t ht => ⟨(aa.names t ht).1, vg (aa.names t ht).2⟩) (fun h => hK _ (S1.kbp _ (aL _ h)) rfl) (fun h => hK _ (S1.kbs _ (b1 _ (ae _ h))) rfl) (by have := oO (E.pok _ (List.getElem_mem a8)); omega)
        have cl := Lib.hid (F6 (a := ps[m]) J.out.wds fun t ht => (aa.names t ht).2);have b2 := Lib.hid (fun (w5 : World) (hok : jZ vars (aF ps[m] fs[(idxs fs key)[k]] b).1) (cm : iR vars (aF ps[m] fs[(idxs fs key)[k]] b).1 sk 18 w5) => Nv vars E.hv (aF ps[m] fs[(idxs fs key)[k]] b).1 hok b.length (wQ _ _ _) sk 18 w5 cm);have bv := Lib.hid (xY ps[m] fs[(idxs fs key)[k]] b);have bw : Hid (∀ w6, (aF ps[m] fs[(idxs fs key)[k]] b).2 = false → dm K sk wr w6 → iR vars b sk 18 w6 → T true w6 (told ++ ts) → iy vars fs ps ns head K sk T go b left m (idxs fs key) told ts hd true (k + 1) w w6) := Lib.hid fun w6 h1 h2 h3 h4 => hI.skip a9 ac a8 h1 h2 h3 h4
        have bz : Hid (∀ (U w5 w6 : World) (I y : Bool), (aF ps[m] fs[(idxs fs key)[k]] b).2 = true → jr vars fs ps ns head K sk T go (aF ps[m] fs[(idxs fs key)[k]] b).1 (left - 2 ^ m) (told ++ ts) I y U w5 → dm K sk wr U → dm K sk w5 w6 → iR vars b sk 18 w6 → (∀ b3, T y w5 b3 → T y w6 b3) → ∃ af, iy vars fs ps ns head K sk T go b left m (idxs fs key) told af (hd || I) y (k + 1) w w6) :=
          Lib.hid fun U w5 w6 I y h1 h2 h3 h4 h5 h6 => hI.took hl cd a9 ac aa.gr a8 HC.out.bit h1 h2 h3 h4 h5 h6
        have aM : Hid (∀ U : World, (aF ps[m] fs[(idxs fs key)[k]] b).2 = true → dm K sk wr U → iR vars (aF ps[m] fs[(idxs fs key)[k]] b).1 sk 18 U → jZ vars (aF ps[m] fs[(idxs fs key)[k]] b).1 → T true U (told ++ ts) →
            Calls Tryz.prog 179 #[.pointer (some ⟨sk, 0, none⟩), .int .i64 ((left - 2 ^ m : Nat) : Int)] U (vw vars fs ps ns head K sk T go (aF ps[m] fs[(idxs fs key)[k]] b).1 (left - 2 ^ m) (told ++ ts) U)) :=
          Lib.hid fun U h1 h2 h3 h4 h5 => cy.out (left - 2 ^ m) (Qs left m hl (by omega) HC.out.bit) _ _ _ (S1.kept h2 h3 h4 cl.out) (fun j hj bA => by
            by_cases e : j = m
            · subst e; exact (nT aa.gr h1).1
            · rw [zD left m j hl (by omega) (by omega) HC.out.bit] at bA
              have : left.testBit j = false := by simpa [e] using bA
              exact (oV _ _ _).YN (cw.out j hj this)) h5
        have s0 := S1.sea.st;have s1 := S1.sea.p1;have bB : wr.cell? ⟨sk, 42, none⟩ = some (.int .i64 b.length) := S1.at_.ct;have ag : wr.cell? ⟨sb, 0, none⟩ = some (.slice (some ⟨b7, o7, none⟩) fs.length cf) := ai g1;have cI : (0 : Int) ≤ (m : Int) := by omega
        have cJ : (m : Int) < (ps.length : Int) := by omega
        have cK : (0 : Int) ≤ (((idxs fs key)[k] : Nat) : Int) := by omega
        have cL : (((idxs fs key)[k] : Nat) : Int) < (fs.length : Int) := by omega
        have cP := IK left m hl (by omega) HC.out.bit;have bE : ∀ x ∈ bp, x < wr.heap.size ∧ x ≠ sk := fun x hx => ⟨(eP vars).lt S1.pps x hx, hK x (S1.kbp x hx)⟩
        have b4 : ∀ x ∈ bs, x < wr.heap.size ∧ x ≠ sk := fun x hx => ⟨S1.tV.lt x hx, hK x (S1.kbs x hx)⟩
        have n1 := bE bq bj;have n2 := b4 b7 (b1 b7 bt);have n3 := b4 sb S1.tV.own;have HN := Lib.hid (And.intro n1 (And.intro n2 (And.intro n3 S1.sea.lt)));clear bE b4 n1 n2 n3;have bL := Lib.hid hI.st;have cQ := Lib.hid J.out.sea.lt;have aw := Lib.hid S1.sea.lt;clear hI S1 g1 g2 b1 aL ae bu ck bo bj bt;generalize (idxs fs key)[k] = j at *;generalize fs[j] = f at *;generalize ps[m] = p at *;obtain ⟨pn, a1⟩ := p;obtain ⟨fn, a2⟩ := f;dsimp only at *;clear a9 ac a8 aa
        have az : Hid (∀ U : World, dN sk 18 wr.drew U → U.cell? ⟨sk, 0, none⟩ = some (.pointer (some ⟨sb, 0, none⟩)) ∧ U.cell? ⟨sk, 1, none⟩ = some (.slice (some ⟨bq, oq, none⟩) ps.length cp) ∧ U.cell? ⟨bq, oq + m * 2, none⟩ = some (.string pn) ∧ U.cell? ⟨bq, oq + m * 2 + 1, none⟩ = some (.slice Ae a1.length ce) ∧ U.cell? ⟨sb, 0, none⟩ = some (.slice (some ⟨b7, o7, none⟩) fs.length cf) ∧ U.cell? ⟨b7, o7 + j * 2, none⟩ = some (.string fn) ∧ U.cell? ⟨b7, o7 + j * 2 + 1, none⟩ = some (.slice Ag a2.length cg)) := Lib.hid fun U co => by
          have h4 : dN sk 18 wr U := (dN.of_below ((Below.refl wr.heap.size wr).drew) HN.out.2.2.2).trans co
          exact ⟨(h4.rest _ (by omega)).trans s0, (h4.rest _ (by omega)).trans s1, (World.cell?_of_block (h4.block (b := bq) HN.out.1.1 HN.out.1.2)).trans f0, (World.cell?_of_block (h4.block (b := bq) HN.out.1.1 HN.out.1.2)).trans f1,
            (World.cell?_of_block (h4.block (b := sb) HN.out.2.2.1.1 HN.out.2.2.1.2)).trans ag, (World.cell?_of_block (h4.block (b := b7) HN.out.2.1.1 HN.out.2.1.2)).trans d0, (World.cell?_of_block (h4.block (b := b7) HN.out.2.1.1 HN.out.2.1.2)).trans d1⟩
        generalize hM : aF ⟨pn, a1⟩ ⟨fn, a2⟩ b = M at *;obtain ⟨b', r⟩ := M;dsimp only at *;clear hM;cases r
        · go_wp2
          go_region_held3 (fun w' => w'.cell? ⟨sk, 0, none⟩ = some (.pointer (some ⟨sb, 0, none⟩)) ∧ w'.cell? ⟨sk, 1, none⟩ = some (.slice (some ⟨bq, oq, none⟩) ps.length cp) ∧ w'.cell? ⟨bq, oq + m * 2, none⟩ = some (.string pn) ∧ w'.cell? ⟨bq, oq + m * 2 + 1, none⟩ = some (.slice Ae a1.length ce) ∧ w'.cell? ⟨sb, 0, none⟩ = some (.slice (some ⟨b7, o7, none⟩) fs.length cf) ∧ w'.cell? ⟨b7, o7 + j * 2, none⟩ = some (.string fn) ∧ w'.cell? ⟨b7, o7 + j * 2 + 1, none⟩ = some (.slice Ag a2.length cg))
            (first | exact ⟨s0, s1, f0, f1, ag, d0, d1⟩ | exact am)
            (first | (go_at_call 154; refine a0.mono ?_; rintro e U ⟨rfl, a3⟩; have am := az.out U a3.kept))
          all_goals
            have a5 := Lib.hid a3;have ab := b2.out U a3.ok a3.at_;clear a3 am az;have aD := Lib.hid ((dm.of_below (K := K) aw.out ((Below.refl wr.heap.size wr).drew)).trans (dm.CY hK a5.out.kept));have b5 := Lib.hid (a7.out.keep _ _ _ (a7.out.keep wr wr.drew _ bL.out (dN.of_below ((Below.refl wr.heap.size wr).drew) aw.out)) a5.out.kept);clear s0 s1 bB ag f0 f1 d0 d1 a0
            go_wp2_with fail
            refine ab.mono ?_;rintro e w6 ⟨rfl, a6⟩;rw [bv.out] at a6;have ao := Lib.hid (bw.out w6 (by trivial) (aD.out.trans (dm.CY hK a6.kept)) a6.at_ (a7.out.keep _ _ _ b5.out a6.kept));clear a6 ab;cases hd
            all_goals
              go_wp2;go_roundw
              case rel => exact ⟨k + 1, ts, _, av.out, by go_num, rfl, ao.out⟩
              case measure => have := av.out; simp [intOf]; omega
        · go_wp2
          go_region_held3 (fun w' => w'.cell? ⟨sk, 0, none⟩ = some (.pointer (some ⟨sb, 0, none⟩)) ∧ w'.cell? ⟨sk, 1, none⟩ = some (.slice (some ⟨bq, oq, none⟩) ps.length cp) ∧ w'.cell? ⟨bq, oq + m * 2, none⟩ = some (.string pn) ∧ w'.cell? ⟨bq, oq + m * 2 + 1, none⟩ = some (.slice Ae a1.length ce) ∧ w'.cell? ⟨sb, 0, none⟩ = some (.slice (some ⟨b7, o7, none⟩) fs.length cf) ∧ w'.cell? ⟨b7, o7 + j * 2, none⟩ = some (.string fn) ∧ w'.cell? ⟨b7, o7 + j * 2 + 1, none⟩ = some (.slice Ag a2.length cg))
            (first | exact ⟨s0, s1, f0, f1, ag, d0, d1⟩ | exact am)
            (first | (go_at_call 154; refine a0.mono ?_; rintro e U ⟨rfl, a3⟩; have am := az.out U a3.kept))
          all_goals
            have a5 := Lib.hid a3;clear a3 am az;have aD := Lib.hid ((dm.of_below (K := K) aw.out ((Below.refl wr.heap.size wr).drew)).trans (dm.CY hK a5.out.kept));have b5 := Lib.hid (a7.out.keep _ _ _ (a7.out.keep wr wr.drew _ bL.out (dN.of_below ((Below.refl wr.heap.size wr).drew) aw.out)) a5.out.kept);have aR := aM.out U (by trivial) aD.out a5.out.at_ a5.out.ok b5.out;clear s0 s1 bB ag f0 f1 d0 d1 a0
            go_wp2_with fail
            refine aR.mono ?_;rintro e w5 ⟨I, y, rfl, b6⟩;have ab := b2.out w5 a5.out.ok (jr.bd b6);have bO := Lib.hid b6;clear aR b6;have cq : Hid (∀ w6, kE vars sk 18 w5 b w6 → ∃ af, iy vars fs ps ns head K sk T go b left m (idxs fs key) told af (hd || I) y (k + 1) w w6) := Lib.hid fun w6 h6 => bz.out U w5 w6 I y (by trivial) bO.out aD.out (dm.CY hK h6.kept) h6.at_ fun b3 cu => a7.out.keep _ _ _ cu h6.kept
            rw [bv.out] at ab;clear bz aM b2 bw bO
            cases hd <;> cases I <;> cases y
            all_goals
              go_wp2_with fail
              refine ab.mono ?_;rintro e w6 ⟨rfl, a6⟩;obtain ⟨af, bR⟩ := cq.out w6 a6;have ao := Lib.hid bR;clear a6 ab bR;go_wp2
              first
                | (go_ret2; exact ao.out.off.ret)
                | (go_roundw
                   case rel => exact ⟨k + 1, af, _, av.out, by go_num, rfl, ao.out⟩
                   case measure => have := av.out; simp [intOf]; omega)
      · have he : ¬ (k : Int) < ((idxs fs key).length : Int) := by omega
        have HF := Lib.hid (hI.fin E HC.out rfl (by omega));clear hI;go_wp2;go_ret2;exact HF.out.ret
  · have hh := cb.out rfl w1 a4
    rw [cc.out rfl] at hh;have cz := Lib.hid ((vk E.hv J.out.ok E.want E.hin E.nin).1 cD.out).1
    go_wp2_with fail
    refine hh.mono ?_;rintro e w2 ⟨rfl, cA⟩;have aE := Lib.hid (a4.trans (cA.mono a4.size));have b9 := bX.out w2 aE.out;clear a4 cA hh;clear bX cb cc
    go_wp2_with fail
    refine b9.mono ?_;rintro e w3 ⟨m, A9, c9, key, bx, rfl, hC, bc⟩;have ar := Lib.hid (aE.out.trans (bc.mono aE.out.size));have HC := Lib.hid hC;have bh : Hid (jS w [.slice A9 (idxs fs key).length c9] (idxs fs key) bx) := Lib.hid (dW.keep hC.row fun x hx => (ar.out.block x (J.out.tV.lt x (hC.sub x hx))).symm);have hlen : (idxs fs key).length ≤ 1000000 := Nat.le_trans (nY _ _) E.fl;have a8 := hC.lt;have cd := E.p4
    have bi : Hid (iy vars fs ps ns head K sk T go b left m (idxs fs key) told [] false true 0 w w3) := Lib.hid ⟨dm.of_below J.out.sea.lt ar.out, J.out.at_.keep (ar.out.block _ J.out.sea.lt),
      by rw [List.append_nil]; exact a7.out.keep _ _ _ cx.out (dN.of_below ar.out J.out.sea.lt), fun t ht => by simp at ht, fun _ i hi => absurd hi (by omega), fun h => absurd h (by decide), fun h => absurd h (by decide)⟩
    clear b9 hC bc aE;go_wp2
    go_loopw [9, 40] (fun held i wr => ∃ (k : Nat) (ts : List A), k ≤ (idxs fs key).length ∧ i = .int .i64 k ∧ held = .bool false ∧ iy vars fs ps ns head K sk T go b left m (idxs fs key) told ts false true k w wr) (fun _ i _ => (idxs fs key).length - (intOf i).toNat)
    case atStart => exact ⟨0, [], Nat.zero_le _, rfl, rfl, bi.out⟩
    case round =>
      obtain ⟨k, ts, hk, rfl, rfl, hI⟩ := hrel;clear bi;by_cases a9 : k < (idxs fs key).length
      · obtain ⟨b8, o8, rfl, ci, e0⟩ := qP (hI.kept.keep dW bh.out fun x hx => J.out.kbs x (HC.out.sub x hx)) a9
        obtain ⟨ac, _⟩ := FK.1 (List.getElem_mem a9);have cj := (J.out.sea.run hI.kept).io;have cE : (0 : Int) ≤ (k : Int) := by omega
        have cG : (k : Int) < ((idxs fs key).length : Int) := by omega
        have HI := Lib.hid hI;have av := Lib.hid a9;clear hI hk ci;go_wp2
        go_quiet (fail)
        have hI : iy vars fs ps ns head K sk T go b left m (idxs fs key) told ts false true k w (wr.drewN nq) := HI.out.drewN a7.out J.out.sea.lt;clear HI cj e0;generalize wr.drewN nq = wr at *;have S1 := J.out.kept hI.kept hI.at_ J.out.ok J.out.wds;obtain ⟨⟨Af, cf, Ar, cr, mu, mp, bf, br, Lu, Lp, g1, g2, _, _, _, _, _, _, _, _, b1, _⟩, _, _⟩ := S1.tV;obtain ⟨bq, oq, Ae, ce, bk, rfl, bj, f0, f1, ⟨vv, bl, ck, bo⟩, aL⟩ := yR S1.pps a8;simp only [List.cons.injEq, and_true, true_and] at bl;subst bl;obtain ⟨b7, o7, Ag, cg, bg, rfl, bt, d0, d1, bu, ae⟩ := eG g2 ac;have aa := E.fok _ (List.getElem_mem ac)
        have a0 := FW vars E.hv b J.out.ok ps[m] fs[(idxs fs key)[k]] Ae Ag ce cg bk bg sk 18 wr.drew (S1.at_.keep rfl) ((dK vars).keep bo fun _ _ => rfl) (aT.keep (dQ bu) fun _ _ => rfl) (E.pin _ (List.getElem_mem a8)) (IL (E.pok _ (List.getElem_mem a8)))
          (fun t ht => ⟨(aa.names t ht).1, vg (aa.names t ht).2⟩) (fun h => hK _ (S1.kbp _ (aL _ h)) rfl) (fun h => hK _ (S1.kbs _ (b1 _ (ae _ h))) rfl) (by have := oO (E.pok _ (List.getElem_mem a8)); omega)
        have cl := Lib.hid (F6 (a := ps[m]) J.out.wds fun t ht => (aa.names t ht).2);have b2 := Lib.hid (fun (w5 : World) (hok : jZ vars (aF ps[m] fs[(idxs fs key)[k]] b).1) (cm : iR vars (aF ps[m] fs[(idxs fs key)[k]] b).1 sk 18 w5) => Nv vars E.hv (aF ps[m] fs[(idxs fs key)[k]] b).1 hok b.length (wQ _ _ _) sk 18 w5 cm);have bv := Lib.hid (xY ps[m] fs[(idxs fs key)[k]] b);have bw : Hid (∀ w6, (aF ps[m] fs[(idxs fs key)[k]] b).2 = false → dm K sk wr w6 → iR vars b sk 18 w6 → T true w6 (told ++ ts) → iy vars fs ps ns head K sk T go b left m (idxs fs key) told ts false true (k + 1) w w6) := Lib.hid fun w6 h1 h2 h3 h4 => hI.skip a9 ac a8 h1 h2 h3 h4
        have bz : Hid (∀ (U w5 w6 : World) (I y : Bool), (aF ps[m] fs[(idxs fs key)[k]] b).2 = true → jr vars fs ps ns head K sk T go (aF ps[m] fs[(idxs fs key)[k]] b).1 (left - 2 ^ m) (told ++ ts) I y U w5 → dm K sk wr U → dm K sk w5 w6 → iR vars b sk 18 w6 → (∀ b3, T y w5 b3 → T y w6 b3) → ∃ af, iy vars fs ps ns head K sk T go b left m (idxs fs key) told af (false || I) y (k + 1) w w6) :=
          Lib.hid fun U w5 w6 I y h1 h2 h3 h4 h5 h6 => hI.took hl cd a9 ac aa.gr a8 HC.out.bit h1 h2 h3 h4 h5 h6
        have aM : Hid (∀ U : World, (aF ps[m] fs[(idxs fs key)[k]] b).2 = true → dm K sk wr U → iR vars (aF ps[m] fs[(idxs fs key)[k]] b).1 sk 18 U → jZ vars (aF ps[m] fs[(idxs fs key)[k]] b).1 → T true U (told ++ ts) →
            Calls Tryz.prog 179 #[.pointer (some ⟨sk, 0, none⟩), .int .i64 ((left - 2 ^ m : Nat) : Int)] U (vw vars fs ps ns head K sk T go (aF ps[m] fs[(idxs fs key)[k]] b).1 (left - 2 ^ m) (told ++ ts) U)) :=
          Lib.hid fun U h1 h2 h3 h4 h5 => cy.out (left - 2 ^ m) (Qs left m hl (by omega) HC.out.bit) _ _ _ (S1.kept h2 h3 h4 cl.out) (fun j hj bA => by
            by_cases e : j = m
            · subst e; exact (nT aa.gr h1).1
            · rw [zD left m j hl (by omega) (by omega) HC.out.bit] at bA
              have : left.testBit j = false := by simpa [e] using bA
              exact (oV _ _ _).YN (cw.out j hj this)) h5
        have s0 := S1.sea.st;have s1 := S1.sea.p1;have bB : wr.cell? ⟨sk, 42, none⟩ = some (.int .i64 b.length) := S1.at_.ct;have ag : wr.cell? ⟨sb, 0, none⟩ = some (.slice (some ⟨b7, o7, none⟩) fs.length cf) := ai g1;have cI : (0 : Int) ≤ (m : Int) := by omega
        have cJ : (m : Int) < (ps.length : Int) := by omega
        have cK : (0 : Int) ≤ (((idxs fs key)[k] : Nat) : Int) := by omega
        have cL : (((idxs fs key)[k] : Nat) : Int) < (fs.length : Int) := by omega
        have cP := IK left m hl (by omega) HC.out.bit;have bE : ∀ x ∈ bp, x < wr.heap.size ∧ x ≠ sk := fun x hx => ⟨(eP vars).lt S1.pps x hx, hK x (S1.kbp x hx)⟩
        have b4 : ∀ x ∈ bs, x < wr.heap.size ∧ x ≠ sk := fun x hx => ⟨S1.tV.lt x hx, hK x (S1.kbs x hx)⟩
        have n1 := bE bq bj;have n2 := b4 b7 (b1 b7 bt);have n3 := b4 sb S1.tV.own;have HN := Lib.hid (And.intro n1 (And.intro n2 (And.intro n3 S1.sea.lt)));clear bE b4 n1 n2 n3;have bL := Lib.hid hI.st;have cQ := Lib.hid J.out.sea.lt;have aw := Lib.hid S1.sea.lt;clear hI S1 g1 g2 b1 aL ae bu ck bo bj bt;generalize (idxs fs key)[k] = j at *;generalize fs[j] = f at *;generalize ps[m] = p at *;obtain ⟨pn, a1⟩ := p;obtain ⟨fn, a2⟩ := f;dsimp only at *;clear a9 ac a8 aa
        have az : Hid (∀ U : World, dN sk 18 wr.drew U → U.cell? ⟨sk, 0, none⟩ = some (.pointer (some ⟨sb, 0, none⟩)) ∧ U.cell? ⟨sk, 1, none⟩ = some (.slice (some ⟨bq, oq, none⟩) ps.length cp) ∧ U.cell? ⟨bq, oq + m * 2, none⟩ = some (.string pn) ∧ U.cell? ⟨bq, oq + m * 2 + 1, none⟩ = some (.slice Ae a1.length ce) ∧ U.cell? ⟨sb, 0, none⟩ = some (.slice (some ⟨b7, o7, none⟩) fs.length cf) ∧ U.cell? ⟨b7, o7 + j * 2, none⟩ = some (.string fn) ∧ U.cell? ⟨b7, o7 + j * 2 + 1, none⟩ = some (.slice Ag a2.length cg)) := Lib.hid fun U co => by
          have h4 : dN sk 18 wr U := (dN.of_below ((Below.refl wr.heap.size wr).drew) HN.out.2.2.2).trans co
          exact ⟨(h4.rest _ (by omega)).trans s0, (h4.rest _ (by omega)).trans s1, (World.cell?_of_block (h4.block (b := bq) HN.out.1.1 HN.out.1.2)).trans f0, (World.cell?_of_block (h4.block (b := bq) HN.out.1.1 HN.out.1.2)).trans f1,
            (World.cell?_of_block (h4.block (b := sb) HN.out.2.2.1.1 HN.out.2.2.1.2)).trans ag, (World.cell?_of_block (h4.block (b := b7) HN.out.2.1.1 HN.out.2.1.2)).trans d0, (World.cell?_of_block (h4.block (b := b7) HN.out.2.1.1 HN.out.2.1.2)).trans d1⟩
        generalize hM : aF ⟨pn, a1⟩ ⟨fn, a2⟩ b = M at *;obtain ⟨b', r⟩ := M;dsimp only at *;clear hM;cases r
        · go_wp2
          go_region_held3 (fun w' => w'.cell? ⟨sk, 0, none⟩ = some (.pointer (some ⟨sb, 0, none⟩)) ∧ w'.cell? ⟨sk, 1, none⟩ = some (.slice (some ⟨bq, oq, none⟩) ps.length cp) ∧ w'.cell? ⟨bq, oq + m * 2, none⟩ = some (.string pn) ∧ w'.cell? ⟨bq, oq + m * 2 + 1, none⟩ = some (.slice Ae a1.length ce) ∧ w'.cell? ⟨sb, 0, none⟩ = some (.slice (some ⟨b7, o7, none⟩) fs.length cf) ∧ w'.cell? ⟨b7, o7 + j * 2, none⟩ = some (.string fn) ∧ w'.cell? ⟨b7, o7 + j * 2 + 1, none⟩ = some (.slice Ag a2.length cg))
            (first | exact ⟨s0, s1, f0, f1, ag, d0, d1⟩ | exact am)
            (first | (go_at_call 154; refine a0.mono ?_; rintro e U ⟨rfl, a3⟩; have am := az.out U a3.kept))
          all_goals
            have a5 := Lib.hid a3;have ab := b2.out U a3.ok a3.at_;clear a3 am az;have aD := Lib.hid ((dm.of_below (K := K) aw.out ((Below.refl wr.heap.size wr).drew)).trans (dm.CY hK a5.out.kept));have b5 := Lib.hid (a7.out.keep _ _ _ (a7.out.keep wr wr.drew _ bL.out (dN.of_below ((Below.refl wr.heap.size wr).drew) aw.out)) a5.out.kept);clear s0 s1 bB ag f0 f1 d0 d1 a0
            go_wp2_with fail
            refine ab.mono ?_;rintro e w6 ⟨rfl, a6⟩;rw [bv.out] at a6;have ao := Lib.hid (bw.out w6 (by trivial) (aD.out.trans (dm.CY hK a6.kept)) a6.at_ (a7.out.keep _ _ _ b5.out a6.kept));clear a6 ab;go_wp2;go_roundw
            case rel => exact ⟨k + 1, ts, av.out, by go_num, rfl, ao.out⟩
            case measure => have := av.out; simp [intOf]; omega
        · go_wp2
          go_region_held3 (fun w' => w'.cell? ⟨sk, 0, none⟩ = some (.pointer (some ⟨sb, 0, none⟩)) ∧ w'.cell? ⟨sk, 1, none⟩ = some (.slice (some ⟨bq, oq, none⟩) ps.length cp) ∧ w'.cell? ⟨bq, oq + m * 2, none⟩ = some (.string pn) ∧ w'.cell? ⟨bq, oq + m * 2 + 1, none⟩ = some (.slice Ae a1.length ce) ∧ w'.cell? ⟨sb, 0, none⟩ = some (.slice (some ⟨b7, o7, none⟩) fs.length cf) ∧ w'.cell? ⟨b7, o7 + j * 2, none⟩ = some (.string fn) ∧ w'.cell? ⟨b7, o7 + j * 2 + 1, none⟩ = some (.slice Ag a2.length cg))
            (first | exact ⟨s0, s1, f0, f1, ag, d0, d1⟩ | exact am)
            (first | (go_at_call 154; refine a0.mono ?_; rintro e U ⟨rfl, a3⟩; have am := az.out U a3.kept))
          all_goals
            have a5 := Lib.hid a3;clear a3 am az;have aD := Lib.hid ((dm.of_below (K := K) aw.out ((Below.refl wr.heap.size wr).drew)).trans (dm.CY hK a5.out.kept));have b5 := Lib.hid (a7.out.keep _ _ _ (a7.out.keep wr wr.drew _ bL.out (dN.of_below ((Below.refl wr.heap.size wr).drew) aw.out)) a5.out.kept);have aR := aM.out U (by trivial) aD.out a5.out.at_ a5.out.ok b5.out;clear s0 s1 bB ag f0 f1 d0 d1 a0
            go_wp2_with fail
            refine aR.mono ?_;rintro e w5 ⟨I, y, rfl, b6⟩;have ab := b2.out w5 a5.out.ok (jr.bd b6);have bO := Lib.hid b6;clear aR b6;have cq : Hid (∀ w6, kE vars sk 18 w5 b w6 → ∃ af, iy vars fs ps ns head K sk T go b left m (idxs fs key) told af (false || I) y (k + 1) w w6) := Lib.hid fun w6 h6 => bz.out U w5 w6 I y (by trivial) bO.out aD.out (dm.CY hK h6.kept) h6.at_ fun b3 cu => a7.out.keep _ _ _ cu h6.kept
            rw [bv.out] at ab;clear bz aM b2 bw bO
            cases I <;> cases y
            all_goals
              go_wp2_with fail
              refine ab.mono ?_;rintro e w6 ⟨rfl, a6⟩;obtain ⟨af, bR⟩ := cq.out w6 a6;have ao := Lib.hid bR;clear a6 ab bR;go_wp2
              first
                | (go_ret2; exact ao.out.off.ret)
                | (go_roundw
                   case rel => exact ⟨k + 1, af, av.out, by go_num, rfl, ao.out⟩
                   case measure => have := av.out; simp [intOf]; omega)
                | (go_ret2; exact (ao.out.brk cz.out).ret)
      · have he : ¬ (k : Int) < ((idxs fs key).length : Int) := by omega
        have HF := Lib.hid (hI.fin E HC.out rfl (by omega));clear hI;go_wp2;go_ret2;exact HF.out.ret
end
end
section
open Go.RowKit D
theorem D.XA {rs:List Ru} {lv:List Nat} (Inv:Nat→Rd→Nat→Prop) (hok:∀ k r n,Inv k r n→qG r)
  (y:∀ k r n,k≤rs.length→Inv (k+1) r n→(gq rs lv (rs.length - k) r (n+1)).1.length≤300→(gq rs lv (rs.length - k) r (n+1)).1.length ≠ r.1.length→Inv (k+1) (gq rs lv (rs.length - k) r (n+1)) (n+1))
  (J:∀ k r n,k≤rs.length→Inv (k+1) r n→(gq rs lv (rs.length - k) r (n+1)).1.length=r.1.length→Inv k (gq rs lv (rs.length - k) r (n+1)) n):
  ∀ (k fuel:Nat) (r:Rd) (n:Nat),k≤rs.length+1→Inv k r n→r.1.length≤300→302≤fuel+r.1.length→
   ((D8 rs lv k fuel r n).2=true∧(D8 rs lv k fuel r n).1.1.length≤300∧∃ n',Inv 0 (D8 rs lv k fuel r n).1 n') ∨
   ((D8 rs lv k fuel r n).2=false∧∃ k' r' n',k'≤rs.length∧Inv (k'+1) r' n'∧300 < (gq rs lv (rs.length - k') r' (n'+1)).1.length):=by
 intro k
 induction k with
 | zero=>
  intro fuel r n _ I hl _;rw [D8];exact .inl ⟨rfl,hl,n,I⟩
 | succ k ihk=>
  intro fuel
  induction fuel with
  | zero=>intro r n _ _ h1 U; omega
  | succ fuel ihf=>
   intro r n hk I hl hf;have a0:=(oW (hok _ _ _ I) (n+1) (jo r.1 (rs.length - k) (rs.zip lv))).2.1;have a1:r.1.length≤(gq rs lv (rs.length - k) r (n+1)).1.length:=a0;rw [D8];by_cases h1:300 < (gq rs lv (rs.length - k) r (n+1)).1.length
   ·rw [if_pos h1]
    exact .inr ⟨rfl,k,r,n,by omega,I,h1⟩
   ·rw [if_neg h1]
    by_cases U:(gq rs lv (rs.length - k) r (n+1)).1.length=r.1.length
    ·rw [if_pos U]
     exact ihk 302 _ n (by omega) (J k r n (by omega) I U) (by omega) (by omega)
    ·rw [if_neg U]
     exact ihf _ (n+1) hk (y k r n (by omega) I (by omega) U) (by omega) (by omega)
def D.S9 (S:A→Prop) (r:Ru) (t:A):Prop:=∃ σ:Wo,t=iF σ r.head∧(∀ p ∈ r.body,p.no=false→S (iF σ p.atom))∧∀ p ∈ r.body,p.no=true→¬ S (iF σ p.atom)
theorem D.sU {S y:A→Prop} {r:Ru} {t:A} (h:∀ x,(∃ p ∈ r.body,p.atom.name=x.name)→(S x ↔ y x)):S9 S r t ↔ S9 y r t:=by
 have key:∀ (S y:A→Prop),(∀ x,(∃ p ∈ r.body,p.atom.name=x.name)→(S x ↔ y x))→S9 S r t→S9 y r t:=by
  rintro S y h ⟨σ,rfl,h1,J⟩;exact ⟨σ,rfl,fun p I hn=>(h (iF σ p.atom) ⟨p,I,rfl⟩).1 (h1 p I hn),fun p I hn U=>J p I hn ((h (iF σ p.atom) ⟨p,I,rfl⟩).2 U)⟩
 exact ⟨key S y h,key y S fun x hx=>(h x hx).symm⟩
def D.TS (rs:List Ru) (k:Nat) (S:A→Prop) (t:A):Prop:=∃ r ∈ rs,ja rs r.head.name=k∧S9 S r t
def D.PN (rs:List Ru) (k:Nat) (S:A→Prop):Nat→A→Prop
 | 0=>S
 | j+1=>fun t=>PN rs k S j t∨TS rs k (PN rs k S j) t
def D.XB (rs:List Ru) (k:Nat) (S:A→Prop):A→Prop:=fun t=>∃ j,PN rs k S j t
def D.JQ (rs:List Ru) (S:A→Prop):Nat→A→Prop
 | 0=>S
 | k+1=>XB rs k (JQ rs S k)
def D.PO (rs:List Ru) (S:A→Prop):A→Prop:=JQ rs S (rs.length+1)
theorem D.VS {rs:List Ru} {k:Nat} {S:A→Prop} {i j:Nat} (h:i≤j) {t:A} (y:PN rs k S i t):PN rs k S j t:=by
 induction h with
 | refl=>exact y
 | step _ ih=>exact .inl ih
theorem D.XC {rs:List Ru} {S:A→Prop} {i j:Nat} (h:i≤j) {t:A} (y:JQ rs S i t):JQ rs S j t:=by
 induction h with
 | refl=>exact y
 | step _ ih=>exact ⟨0,ih⟩
theorem D.NR {rs:List Ru} {k:Nat} {S y:A→Prop} (h:∀ x,S x ↔ y x) (t:A):TS rs k S t ↔ TS rs k y t:=by
 have:S=y:=funext fun x=>propext (h x)
 rw [this]
theorem D.Tc {rs:List Ru} {k:Nat} {S:A→Prop} {j:Nat} (h:∀ t,TS rs k (PN rs k S j) t→PN rs k S j t) (t:A):XB rs k S t ↔ PN rs k S j t:=by
 constructor
 ·rintro ⟨i,J⟩
  rcases Nat.le_total i j with y | y
  ·exact VS y J
  ·have:∀ d t,PN rs k S (j+d) t→PN rs k S j t:=by
    intro d
    induction d with
    | zero=>intro t I; exact I
    | succ d ih=>
     intro t I
     rcases I with I | ⟨r,hr,U,hf⟩
     ·exact ih t I
     ·refine h t ⟨r,hr,U,(sU fun x _=>?_).1 hf⟩
      exact ⟨ih x,fun hx=>VS (Nat.le_add_right _ _) hx⟩
   obtain ⟨d,rfl⟩:=Nat.exists_eq_add_of_le y;exact this d t J
 ·exact fun h=>⟨j,h⟩
theorem D.Qz {rs:List Ru} (hc:Closed rs (aA rs)) {p:Ru × Nat} (J:p ∈ rs.zip (aA rs)):p.1 ∈ rs∧p.2=ja rs p.1.head.name:=by
 obtain ⟨i,y,rfl⟩:=List.getElem_of_mem J;simp only [List.length_zip,gU,Nat.min_self] at y;have I:=(pO hc).2 i y;have U:eH rs i=rs[i]:=by unfold eH; simp [List.getD,y]
 have e2:jb (aA rs) i=(aA rs)[i]'(by rw [gU]; exact y):=by unfold jb; simp [List.getD,gU,y]
 rw [U,e2] at I;simp only [List.getElem_zip];exact ⟨δ _,I⟩
theorem D.VT {rs:List Ru} (hc:Closed rs (aA rs)) {r:Ru} (hr:r ∈ rs):(r,ja rs r.head.name) ∈ rs.zip (aA rs):=by
 obtain ⟨i,y,rfl⟩:=List.getElem_of_mem hr;refine List.mem_iff_getElem.2 ⟨i,by simp [gU]; exact y,?_⟩;have:=(Qz hc (δ (l:=rs.zip (aA rs)) (n:=i) (by simp [gU]; exact y))).2;simp only [List.getElem_zip] at this ⊢;rw [this]
structure D.x9 (rs:List Ru):Prop where
 fol:∀ r ∈ rs,lD r
 cyc:Closed rs (aA rs)
theorem D.VU {rs:List Ru} (h:fV rs=0):x9 rs:=by
 refine ⟨fun r hr=>VO h hr,?_⟩;unfold fV at h
 split at h
 ·cases h
 ·split at h
  ·cases h
  ·split at h
   ·cases h
   ·split at h
    ·cases h
    ·split at h
     ·cases h
     ·rename_i hc
      exact OE (by simpa using hc)
theorem D.QA {rs:List Ru} (h:x9 rs) {xs:List A} (J:∀ x ∈ xs,bG x) (level:Nat):gB (jo xs level (rs.zip (aA rs)))=true∧(∀ t ∈ jo xs level (rs.zip (aA rs)),bG t)∧∀ t,t ∈ jo xs level (rs.zip (aA rs)) ↔ TS rs level (fun x=>x ∈ xs) t:=by
 obtain ⟨k1,k2,U⟩:=SY (level:=level) J (rl:=rs.zip (aA rs)) fun p y=>h.fol _ (List.of_mem_zip y).1
 refine ⟨k1,k2,fun t=>(U t).trans ⟨?_,?_⟩⟩
 ·rintro ⟨p,y,I,hf⟩
  obtain ⟨g1,g2⟩:=Qz h.cyc y;exact ⟨p.1,g1,by rw [← g2]; exact I,hf⟩
 ·rintro ⟨r,hr,I,hf⟩
  exact ⟨_,VT h.cyc hr,I,hf⟩
theorem D.PS {r:Rd} (hr:∀ x ∈ r.1,bG x) (n:Nat):∀ more:List A,(∀ x ∈ more,bG x)→(∀ x ∈ (jB more n r).1,bG x)∧∀ t,t ∈ (jB more n r).1 ↔ t ∈ r.1∨t ∈ more:=by
 intro more
 induction more generalizing r with
 | nil=>intro _; exact ⟨hr,fun t=>by simp [jB]⟩
 | cons a more ih=>
  intro hm;have ha:=hm a Γ;have h1:∀ x,x ∈ (iM r a n).1 ↔ x ∈ r.1∨x=a:=fun x=>by rw [vW]; exact zH hr ha x
  obtain ⟨I,J⟩:=ih (r:=iM r a n) (fun x y=>((h1 x).1 y).elim (hr x) fun e=>e ▸ ha) fun x y=>hm x (Δ _ y)
  refine ⟨I,fun t=>?_⟩;have:jB (a :: more) n r=jB more n (iM r a n):=rfl;rw [this,J,h1,ύ,or_assoc]
theorem D.mD {rs:List Ru} (h:x9 rs) {r:Rd} (hr:∀ x ∈ r.1,bG x) (level n:Nat):(∀ x ∈ (gq rs (aA rs) level r n).1,bG x)∧∀ t,t ∈ (gq rs (aA rs) level r n).1 ↔ t ∈ r.1∨TS rs level (fun x=>x ∈ r.1) t:=by
 obtain ⟨_,k2,y⟩:=QA h hr level;obtain ⟨I,J⟩:=PS hr n _ k2;exact ⟨I,fun t=>by rw [← y t]; exact J t⟩
theorem D.NS {xs ys:List A} (h1:xs.Nodup) (J:∀ x ∈ xs,x ∈ ys) (h3:ys.length≤xs.length):∀ y ∈ ys,y ∈ xs:=by
 intro y U;by_cases hm:y ∈ xs
 ·exact hm
 ·exfalso
  have h4:(y :: xs).Nodup:=List.nodup_cons.2 ⟨hm,h1⟩
  have h5:=List.Nodup.length_le_of_subset h4 (l₂:=ys) (fun x I=>by
   rcases ύ.1 I with rfl | I
   ·exact U
   ·exact J x I)
  simp at h5;omega
structure D.Yw (rs:List Ru) (S:A→Prop) (k:Nat) (r:Rd) (n:Nat):Prop where
 ok:qG r
 fact:∀ x ∈ r.1,bG x
 set:match k with
  | 0=>∀ t,t ∈ r.1 ↔ PO rs S t
  | k+1=>∃ j,∀ t,t ∈ r.1 ↔ PN rs (rs.length - k) (JQ rs S (rs.length - k)) j t
theorem D.F8 {rs:List Ru} (h:x9 rs) {r:Rd} (hr:∀ x ∈ r.1,bG x) {level j n:Nat} {S:A→Prop} (y:∀ t,t ∈ r.1 ↔ PN rs level S j t) (t:A):t ∈ (gq rs (aA rs) level r n).1 ↔ PN rs level S (j+1) t:=by
 rw [(mD h hr level n).2 t,y t,NR y t];exact Iff.rfl
theorem D.NT {rs:List Ru} (h:x9 rs) {given:List A} (ha:gB given=true) (hf:∀ x ∈ given,bG x) (hl:given.length≤300):
  ((iO rs given).2=true∧(iO rs given).1.1.length≤300∧qG (iO rs given).1∧(∀ x ∈ (iO rs given).1.1,bG x)∧∀ t,t ∈ (iO rs given).1.1 ↔ PO rs (fun x=>x ∈ given) t) ∨
  ((iO rs given).2=false∧∃ L:List A,L.Nodup∧300 < L.length∧∀ t ∈ L,PO rs (fun x=>x ∈ given) t):=by
 have main:=XA (rs:=rs) (lv:=aA rs) (Yw rs fun x=>x ∈ given) (fun k r n y=>y.ok)
  (fun k r n hk y _ _=>by
   obtain ⟨j,I⟩:=y.set
   exact ⟨(oW y.ok _ _).1,(mD h y.fact _ _).1,j+1,F8 h y.fact I⟩)
  (fun k r n hk y he=>by
   obtain ⟨j,I⟩:=y.set;have hs:=F8 (n:=n+1) h y.fact I
   have a0:∀ t,XB rs (rs.length - k) (JQ rs (fun x=>x ∈ given) (rs.length - k)) t ↔ PN rs (rs.length - k) (JQ rs (fun x=>x ∈ given) (rs.length - k)) j t:=Tc fun t U=>by
    refine (I t).1 (NS (jV y.ok.gB) (fun x hx=>((mD h y.fact _ (n+1)).2 x).2 (.inl hx)) (Nat.le_of_eq he) t ?_);exact ((mD h y.fact _ (n+1)).2 t).2 (.inr ((NR I t).2 U))
   have J:∀ t,t ∈ (gq rs (aA rs) (rs.length - k) r (n+1)).1 ↔ JQ rs (fun x=>x ∈ given) (rs.length - k+1) t:=fun t=>by
    show _ ↔ XB rs _ _ t;rw [a0,← I t];constructor
    ·exact fun U=>NS (jV y.ok.gB) (fun x hx=>((mD h y.fact _ (n+1)).2 x).2 (.inl hx)) (Nat.le_of_eq he) t U
    ·exact fun U=>((mD h y.fact _ (n+1)).2 t).2 (.inl U)
   refine ⟨(oW y.ok _ _).1,(mD h y.fact _ _).1,?_⟩
   cases k with
   | zero=>exact J
   | succ k=>
    have e:rs.length - k=rs.length - (k+1)+1:=by omega
    refine ⟨0,fun t=>?_⟩;rw [e]
    exact J t)
  (rs.length+1) 302 (given,List.replicate given.length 0) 0 ν ⟨⟨ha,by simp⟩,hf,⟨0,fun t=>by simp [PN,JQ]⟩⟩ hl (by simp)
 rcases main with ⟨h1,h2,n',y⟩ | ⟨h1,k',r',n',hk,y,hlen⟩
 ·exact .inl ⟨h1,h2,y.ok,y.fact,y.set⟩
 ·refine .inr ⟨h1,_,jV (oW y.ok (n'+1) _).1.gB,hlen,fun t U=>?_⟩
  obtain ⟨j,I⟩:=y.set;have h3:=(F8 h y.fact I t).1 U;exact XC (show rs.length - k'+1≤rs.length+1 by omega) ⟨j+1,h3⟩
end
section
open Go.RowKit D
attribute [local go_sem ↓] Go.wp_at_zero Go.wp_at_succ
section
variable (vars:List ByteArray) (fs:List A) (rn:List Nat) (bs:List Nat) (ps ns:List A) (head:A) (sk sb:Nat) (Ap:Option Addr) (cp:Nat) (An:Option Addr) (cn:Nat) (bp bn:List Nat) (wt:Nat→Bool) (ah:Int) (c5 c7:Addr) (K:Nat→Prop) (T:Bool→World→List A→Prop) (go:List A→Bool)
theorem VW (E:sS vars fs ps ns head wt) (hK:∀ k,K k→k ≠ sk) (hT:xZ vars head sk K c5 c7 T go):∀ (left:Nat),left < 2 ^ ps.length→∀ (b:Bd) (told:List A) (w:World),
  qW vars fs rn bs ps ns sk sb (.slice Ap ps.length cp) (.slice An ns.length cn) bp bn wt ah (.func (.func 116) #[] #[.pointer (some c5),.pointer (some c7)]) K b w→
  (∀ j (h:j < ps.length),left.testBit j=false→yO b ps[j].args)→T true w told→
  Calls Tryz.prog 179 #[.pointer (some ⟨sk,0,none⟩),.int .i64 left] w (vw vars fs ps ns head K sk T go b left told w):=by
 intro left
 induction left using Nat.strongRecOn with
 | ind left IH=>
  intro hl b told w S I J;by_cases hs:setB vars b wt=true
  ·cases hh:zB fs ns b
   ·by_cases h0:left=0
    ·subst h0
     exact VR vars fs rn bs ps ns head sk sb Ap cp An cn bp bn wt ah c5 c7 K T go E hK hT b told w S (fun p hp=>by
      obtain ⟨j,hj,e⟩:=List.getElem_of_mem hp
      rw [← e]; exact I j hj (by simp)) J hh
    ·exact NQ vars fs rn bs ps ns head sk sb Ap cp An cn bp bn wt ah c5 c7 K T go E hK hT left hl h0 (fun l' U b' y w' S' c' t'=>IH l' U (by omega) b' y w' S' c' t') b told w S I J (fun _=>hh)
   ·exact run_stop vars fs rn bs ps ns head sk sb Ap cp An cn bp bn wt ah c5 c7 K T go E hK hT left b told w S J hs hh
  ·by_cases h0:left=0
   ·subst h0
    exfalso;apply hs
    exact (vk E.hv S.ok E.want E.hin E.nin).2 (E.tight b fun p hp=>by
     obtain ⟨j,hj,e⟩:=List.getElem_of_mem hp
     rw [← e]; exact I j hj (by simp))
   ·exact NQ vars fs rn bs ps ns head sk sb Ap cp An cn bp bn wt ah c5 c7 K T go E hK hT left hl h0 (fun l' U b' y w' S' c' t'=>IH l' U (by omega) b' y w' S' c' t') b told w S I J (fun h=>absurd h hs)
theorem D.VX (n:Nat) (h:n≤4):wrap64 (wrap64 (2 ^ n) - 1)=((2 ^ n - 1:Nat):Int):=by
 have H:∀ n:Nat,n < 5→wrap64 (wrap64 (2 ^ n) - 1)=((2 ^ n - 1:Nat):Int):=by decide +kernel
 exact H n (by omega)
theorem D.VY (n j:Nat) (h:n≤4) (y:j < n):(2 ^ n - 1).testBit j=true:=by
 rw [Nat.testBit_two_pow_sub_one]; simpa using y
theorem GL (E:sS vars fs ps ns head wt) (hK:∀ k,K k→k ≠ sk) (J:xZ vars head sk K c5 c7 T go) (told:List A) (w:World)
  (S:qW vars fs rn bs ps ns sk sb (.slice Ap ps.length cp) (.slice An ns.length cn) bp bn wt ah (.func (.func 116) #[] #[.pointer (some c5),.pointer (some c7)]) K [] w) (I:T true w told):
  Calls Tryz.prog 118 #[.pointer (some ⟨sk,0,none⟩)] w fun e w'=>e=.returned (.tuple #[])∧∃ held more,jr vars fs ps ns head K sk T go [] (2 ^ ps.length - 1) told held more w w':=by
 have y:=VW vars fs rn bs ps ns head sk sb Ap cp An cn bp bn wt ah c5 c7 K T go E hK J (2 ^ ps.length - 1) (by have:=Nat.two_pow_pos ps.length; omega) [] told w S (fun j hj hb=>by rw [VY _ _ E.p4 hj] at hb; cases hb) I;have y0:=S.sea.p1;have hp:=VX ps.length E.p4;have a0:(ps.length:Int)≤4:=by have:=E.p4; omega
 clear S I J
 go_enter Tryz.func118,Tryz.ntmps118
 go_wp2_with fail
 refine y.mono ?_;rintro e w2 ⟨held,more,rfl,U⟩;have HP:=η U;clear y U;go_wp2
 go_end0
 exact ⟨rfl,held,more,HP.out⟩
end
end
end Go.Proofs.YtkjinanbccloeaaGreatDoor
