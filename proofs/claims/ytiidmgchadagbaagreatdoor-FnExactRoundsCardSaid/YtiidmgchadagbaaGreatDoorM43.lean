/- Of the proof of FnExactRounds: RunI. -/
import Derived.Test.YtiidmgchadagbaaGreatDoorM41
set_option linter.unusedVariables false
set_option maxHeartbeats 8000000
set_option maxRecDepth 100000
namespace Go.Proofs.YtiidmgchadagbaaGreatDoor
open Go.RowKit D
attribute [local go_sem ↓] Go.wp_at_zero Go.wp_at_succ
section
variable (vars:List ByteArray) (fs:List A) (rn:List Nat) (bs:List Nat) (ps ns:List A) (head:A) (sk sb:Nat) (Ap:Option Addr) (cp:Nat) (An:Option Addr) (cn:Nat) (bp bn:List Nat) (wt:Nat→Bool) (ah:Int) (c5 c7:Addr) (K:Nat→Prop) (T:Bool→World→List A→Prop) (go:List A→Bool)
theorem run_stop (E:RunEnv vars fs ps ns head wt) (hK:∀ k,K k→k ≠ sk) (hT:TellOk vars head sk K c5 c7 T go) (left:Nat) (b:Bd) (told:List A) (w:World)
  (S:RunSt vars fs rn bs ps ns sk sb (.slice Ap ps.length cp) (.slice An ns.length cn) bp bn wt ah (.func (.func 142) #[] #[.pointer (some c5),.pointer (some c7)]) K b w)
  (hTw:T true w told) (hS:setB vars b wt=true) (hH:hinB fs ns b=true):
  Calls Tryz.prog 179 #[.pointer (some ⟨sk,0,none⟩),.int .i64 left] w (RunRet vars fs ps ns head K sk T go b left told w):=by
 have hcov:=(setB_cov E.hv S.ok E.want E.hin E.nin).1 hS
 have hset:=settled_any vars b sk sb _ _ wt false ah _ w S.sea S.at_
 rw [hS] at hset
 have hhin:=fun w1 (hb1:Below w.heap.size w w1)=>hindered_any vars E.hv b S.ok fs rn bs ns An cn bn sk sb _ wt false ah _ w1 (S.below hb1).sea (S.below hb1).at_ (S.below hb1).sto (S.below hb1).pns E.nin (fun n hn=>(fill_ok (E.nok n hn) S.wds (hcov.2 n hn)).ok) E.nl
 rw [hH] at hhin
 have HPO:Hid (∀ w2,Below w.heap.size w w2→RunPost vars fs ps ns head K sk T go b left told false true w w2):=η fun w2 hb=>⟨[],RunKept.of_below S.sea.lt hb,S.at_.keep (hb.block _ S.sea.lt),
  by rw [List.append_nil]; exact hT.keep _ _ _ hTw (BdKept.of_below hb S.sea.lt),fun t ht=>by simp at ht,fun _ σ hσ=>absurd hσ (none_hin E S.wds hcov.2 hH σ),fun h=>by simp at h,fun h=>by simp at h⟩
 have HHI:=η hhin
 clear hhin S hcov hTw hT
 go_enter Tryz.func179,Tryz.ntmps179
 go_wp2_with fail
 refine hset.mono ?_
 rintro e w1 ⟨rfl,hb1⟩
 have hh:=HHI.out w1 hb1
 go_wp2_with fail
 refine hh.mono ?_
 rintro e w2 ⟨rfl,hb2⟩
 have HD:=η (HPO.out w2 (hb1.trans (hb2.mono hb1.size)))
 clear hset hh hb1 hb2 HPO HHI
 go_wp2
 go_ret2
 exact HD.out.ret
theorem run_zero (E:RunEnv vars fs ps ns head wt) (hK:∀ k,K k→k ≠ sk) (hT:TellOk vars head sk K c5 c7 T go) (b:Bd) (told:List A) (w:World)
  (S:RunSt vars fs rn bs ps ns sk sb (.slice Ap ps.length cp) (.slice An ns.length cn) bp bn wt ah (.func (.func 142) #[] #[.pointer (some c5),.pointer (some c7)]) K b w)
  (hcov:∀ p ∈ ps,Cov b p.args) (hTw:T true w told) (hH:hinB fs ns b=false):
  Calls Tryz.prog 179 #[.pointer (some ⟨sk,0,none⟩),.int .i64 ((0:Nat):Int)] w (RunRet vars fs ps ns head K sk T go b 0 told w):=by
 have hcv:=E.tight b hcov
 have hS:=(setB_cov E.hv S.ok E.want E.hin E.nin).2 hcv
 have hset:=settled_any vars b sk sb _ _ wt false ah _ w S.sea S.at_
 rw [hS] at hset
 have hhin:=fun w1 (hb1:Below w.heap.size w w1)=>hindered_any vars E.hv b S.ok fs rn bs ns An cn bn sk sb _ wt false ah _ w1 (S.below hb1).sea (S.below hb1).at_ (S.below hb1).sto (S.below hb1).pns E.nin (fun n hn=>(fill_ok (E.nok n hn) S.wds (hcv.2 n hn)).ok) E.nl
 rw [hH] at hhin
 have htl:=fun w2 (hb:Below w.heap.size w w2)=>hT.call w2.drew b told S.ok S.wds hcv.1 (S.at_.keep ((hb.block _ S.sea.lt))) (hT.keep _ _ _ hTw (BdKept.of_below hb.drew S.sea.lt))
 have HPO:Hid (∀ w2 w3:World,Below w.heap.size w w2→T (go (told ++ [fillB head b])) w3 (told ++ [fillB head b])→RunKept K sk w2.drew w3→w3.heap[sk]? = w2.drew.heap[sk]?→RunPost vars fs ps ns head K sk T go b 0 told true (go (told ++ [fillB head b])) w w3):=η fun w2 w3 hb h1 h2 h3=>
  ⟨[fillB head b],(RunKept.of_below S.sea.lt hb.drew).trans h2,(S.at_.keep (hb.block _ S.sea.lt)).keep h3,h1,fun t ht=>by
   rw [List.mem_singleton.1 ht]
   exact ⟨valB b,⟨agr_val b,fun j _ hj=>by simp at hj,fun n hn=>by rw [← fillB_W]; exact hin_none E S.wds hcv.2 hH n hn⟩,(fillB_W _ _).symm⟩,
   fun _ σ hσ=>by rw [← fillB_cov hcv.1 hσ.1]; exact List.mem_singleton_self _,fun _=>by simp,fun h=>h⟩
 have HHI:=η hhin
 have HTL:=η htl
 have HSEA:=η S.sea
 clear hhin htl S hcv hTw hT hcov
 go_enter Tryz.func179,Tryz.ntmps179
 go_wp2_with fail
 refine hset.mono ?_
 rintro e w1 ⟨rfl,hb1⟩
 have hh:=HHI.out w1 hb1
 go_wp2_with fail
 refine hh.mono ?_
 rintro e w2 ⟨rfl,hb2⟩
 have HB:=η (hb1.trans (hb2.mono hb1.size))
 have HT2:=η (HTL.out w2 HB.out)
 have s0:=(HSEA.out.keep (HB.out.block _ HSEA.out.lt)).tl
 clear hset hh hb1 hb2 HHI HTL
 go_wp2
 go_region_law
  (first
   | (go_simp; go_at_call 142; refine HT2.out.mono ?_; rintro e w3 ⟨rfl,h31,h32,h33⟩; have HD:=η (HPO.out w2 w3 HB.out h31 h32 h33); clear h31 h32 h33))
 all_goals
  clear s0 HT2 HPO HSEA
  go_wp2
  go_ret2
  exact HD.out.ret
theorem run_loop (E : RunEnv vars fs ps ns head wt) (hK : ∀ k, K k → k ≠ sk) (hT : TellOk vars head sk K c5 c7 T go) (left : Nat) (hl16 : left < 2 ^ ps.length) (hl0 : left ≠ 0)
    (IH : ∀ left', left' < left → ∀ (b : Bd) (told : List A) (w : World), RunSt vars fs rn bs ps ns sk sb (.slice Ap ps.length cp) (.slice An ns.length cn) bp bn wt ah (.func (.func 142) #[] #[.pointer (some c5), .pointer (some c7)]) K b w →
      (∀ j (h : j < ps.length), left'.testBit j = false → Cov b ps[j].args) → T true w told → Calls Tryz.prog 179 #[.pointer (some ⟨sk, 0, none⟩), .int .i64 left'] w (RunRet vars fs ps ns head K sk T go b left' told w))
    (b : Bd) (told : List A) (w : World)
    (S : RunSt vars fs rn bs ps ns sk sb (.slice Ap ps.length cp) (.slice An ns.length cn) bp bn wt ah (.func (.func 142) #[] #[.pointer (some c5), .pointer (some c7)]) K b w)
    (hcov : ∀ j (h : j < ps.length), left.testBit j = false → Cov b ps[j].args) (hTw : T true w told) (hH : setB vars b wt = true → hinB fs ns b = false) :
    Calls Tryz.prog 179 #[.pointer (some ⟨sk, 0, none⟩), .int .i64 left] w (RunRet vars fs ps ns head K sk T go b left told w) := by
  have hl : left < 16 := Nat.lt_of_lt_of_le hl16 (Nat.pow_le_pow_right (by omega) E.p4 : 2 ^ ps.length ≤ 2 ^ 4)
  have hset := settled_any vars b sk sb _ _ wt false ah _ w S.sea S.at_
  have hcho := fun w1 (hb1 : Below w.heap.size w w1) => choose_any vars E.hv b fs rn bs ps Ap cp bp sk sb _ wt ah _ left w1 (S.below hb1).sea (S.below hb1).at_ (S.below hb1).sto (S.below hb1).pps E.pin (fun p hp => by have := arg_few (E.pok p hp); omega) E.p4 hl E.fl (bit_some left ps.length hl16 E.p4 hl0)
  have hhin := fun (hs : setB vars b wt = true) w1 (hb1 : Below w.heap.size w w1) => hindered_any vars E.hv b S.ok fs rn bs ns An cn bn sk sb _ wt false ah _ w1 (S.below hb1).sea (S.below hb1).at_ (S.below hb1).sto (S.below hb1).pns E.nin (fun n hn => (fill_ok (E.nok n hn) S.wds (((setB_cov E.hv S.ok E.want E.hin E.nin).1 hs).2 n hn)).ok) E.nl
  have HHI := Lib.hid hhin
  have HCH := Lib.hid hcho
  have HS0 := Lib.hid S
  have HCV := Lib.hid hcov
  have HTW := Lib.hid hTw
  have HIH := Lib.hid IH
  have HTO := Lib.hid hT
  have HHH := Lib.hid hH
  have h0i : ¬ (left : Int) = 0 := by omega
  clear hhin hcho S hcov hTw IH hT hH
  generalize hsb : setB vars b wt = s at *
  have HSB := Lib.hid hsb
  go_enter Tryz.func179, Tryz.ntmps179
  go_wp2_with fail
  refine hset.mono ?_
  rintro e w1 ⟨rfl, hb1⟩
  clear hset hsb
  cases s
  · have HB2 := Lib.hid hb1
    have hch := HCH.out w1 hb1
    clear hb1
    clear HCH HHI HHH
    go_wp2_with fail
    refine hch.mono ?_
    rintro e w3 ⟨m, A9, c9, key, bx, rfl, hC, hb3⟩
    have HB3 := Lib.hid (HB2.out.trans (hb3.mono HB2.out.size))
    have HC := Lib.hid hC
    have HROW : Hid (intsK w [.slice A9 (idxs fs key).length c9] (idxs fs key) bx) := Lib.hid (intsK_good.keep hC.row fun x hx => (HB3.out.block x (HS0.out.sto.lt x (hC.sub x hx))).symm)
    have hlen : (idxs fs key).length ≤ 1000000 := Nat.le_trans (idxs_len _ _) E.fl
    have hmp := hC.lt
    have hp4 := E.p4
    have HI0 : Hid (RunInv vars fs ps ns head K sk T go b left m (idxs fs key) told [] false true 0 w w3) := Lib.hid ⟨RunKept.of_below HS0.out.sea.lt HB3.out, HS0.out.at_.keep (HB3.out.block _ HS0.out.sea.lt),
      by rw [List.append_nil]; exact HTO.out.keep _ _ _ HTW.out (BdKept.of_below HB3.out HS0.out.sea.lt), fun t ht => by simp at ht, fun _ i hi => absurd hi (by omega), fun h => absurd h (by decide), fun h => absurd h (by decide)⟩
    clear hch hC hb3 HB2
    go_wp2
    go_loopw [9, 40] (fun held i wr => ∃ (k : Nat) (ts : List A) (hd : Bool), k ≤ (idxs fs key).length ∧ i = .int .i64 k ∧ held = .bool hd ∧ RunInv vars fs ps ns head K sk T go b left m (idxs fs key) told ts hd true k w wr) (fun _ i _ => (idxs fs key).length - (intOf i).toNat)
    case atStart => exact ⟨0, [], false, Nat.zero_le _, rfl, rfl, HI0.out⟩
    case round =>
      obtain ⟨k, ts, hd, hk, rfl, rfl, hI⟩ := hrel
      clear HI0
      by_cases hlt : k < (idxs fs key).length
      · obtain ⟨b8, o8, rfl, hb8, e0⟩ := intsK_at (hI.kept.keep intsK_good HROW.out fun x hx => HS0.out.kbs x (HC.out.sub x hx)) hlt
        obtain ⟨hjl, _⟩ := idxs_mem.1 (List.getElem_mem hlt)
        have s16 := (HS0.out.sea.run hI.kept).io
        have hk0 : (0 : Int) ≤ (k : Int) := by omega
        have hk1 : (k : Int) < ((idxs fs key).length : Int) := by omega
        have HI := Lib.hid hI
        have HLT := Lib.hid hlt
        clear hI hk hb8
        go_wp2
        go_quiet (fail)
        have hI : RunInv vars fs ps ns head K sk T go b left m (idxs fs key) told ts hd true k w (wr.drewN nq) := HI.out.drewN HTO.out HS0.out.sea.lt
        clear HI s16 e0
        generalize wr.drewN nq = wr at *
        have S1 := HS0.out.kept hI.kept hI.at_ HS0.out.ok HS0.out.wds
        obtain ⟨⟨Af, cf, Ar, cr, mu, mp, bf, br, Lu, Lp, g1, g2, _, _, _, _, _, _, _, _, g11, _⟩, _, _⟩ := S1.sto
        obtain ⟨bq, oq, Ae, ce, bk, rfl, hbq, f0, f1, ⟨vv, hvv, hnm, hsl⟩, hsub⟩ := pats_at S1.pps hmp
        simp only [List.cons.injEq, and_true, true_and] at hvv
        subst hvv
        obtain ⟨b7, o7, Ag, cg, bg, rfl, hb7, d0, d1, hfa, hsub2⟩ := atoms_el g2 hjl
        have hfo := E.fok _ (List.getElem_mem hjl)
        have hcall := matchI_any vars E.hv b HS0.out.ok ps[m] fs[(idxs fs key)[k]] Ae Ag ce cg bk bg sk 18 wr.drew (S1.at_.keep rfl) ((slotsK_good vars).keep hsl fun _ _ => rfl) (termsK_good.keep (atom_args hfa) fun _ _ => rfl) (E.pin _ (List.getElem_mem hmp)) (arg_const (E.pok _ (List.getElem_mem hmp)))
          (fun t ht => ⟨(hfo.names t ht).1, nameOk_full (hfo.names t ht).2⟩) (fun h => hK _ (S1.kbp _ (hsub _ h)) rfl) (fun h => hK _ (S1.kbs _ (g11 _ (hsub2 _ h))) rfl) (by have := arg_few (E.pok _ (List.getElem_mem hmp)); omega)
        have HWD := Lib.hid (matchB_wds (a := ps[m]) HS0.out.wds fun t ht => (hfo.names t ht).2)
        have HUN := Lib.hid (fun (w5 : World) (hok : BdOk vars (matchB ps[m] fs[(idxs fs key)[k]] b).1) (hat : BdAt vars (matchB ps[m] fs[(idxs fs key)[k]] b).1 sk 18 w5) => undo_any vars E.hv (matchB ps[m] fs[(idxs fs key)[k]] b).1 hok b.length (matchB_len_le _ _ _) sk 18 w5 hat)
        have HPR := Lib.hid (matchB_pre ps[m] fs[(idxs fs key)[k]] b)
        have HSK : Hid (∀ w6, (matchB ps[m] fs[(idxs fs key)[k]] b).2 = false → RunKept K sk wr w6 → BdAt vars b sk 18 w6 → T true w6 (told ++ ts) → RunInv vars fs ps ns head K sk T go b left m (idxs fs key) told ts hd true (k + 1) w w6) := Lib.hid fun w6 h1 h2 h3 h4 => hI.skip hlt hjl hmp h1 h2 h3 h4
        have HTK : Hid (∀ (w4 w5 w6 : World) (held' more' : Bool), (matchB ps[m] fs[(idxs fs key)[k]] b).2 = true → RunPost vars fs ps ns head K sk T go (matchB ps[m] fs[(idxs fs key)[k]] b).1 (left - 2 ^ m) (told ++ ts) held' more' w4 w5 → RunKept K sk wr w4 → RunKept K sk w5 w6 → BdAt vars b sk 18 w6 → (∀ ts', T more' w5 ts' → T more' w6 ts') → ∃ ts2, RunInv vars fs ps ns head K sk T go b left m (idxs fs key) told ts2 (hd || held') more' (k + 1) w w6) :=
          Lib.hid fun w4 w5 w6 held' more' h1 h2 h3 h4 h5 h6 => hI.took hl hp4 hlt hjl hfo.gr hmp HC.out.bit h1 h2 h3 h4 h5 h6
        have HREC : Hid (∀ w4 : World, (matchB ps[m] fs[(idxs fs key)[k]] b).2 = true → RunKept K sk wr w4 → BdAt vars (matchB ps[m] fs[(idxs fs key)[k]] b).1 sk 18 w4 → BdOk vars (matchB ps[m] fs[(idxs fs key)[k]] b).1 → T true w4 (told ++ ts) →
            Calls Tryz.prog 179 #[.pointer (some ⟨sk, 0, none⟩), .int .i64 ((left - 2 ^ m : Nat) : Int)] w4 (RunRet vars fs ps ns head K sk T go (matchB ps[m] fs[(idxs fs key)[k]] b).1 (left - 2 ^ m) (told ++ ts) w4)) :=
          Lib.hid fun w4 h1 h2 h3 h4 h5 => HIH.out (left - 2 ^ m) (less_lt left m hl (by omega) HC.out.bit) _ _ _ (S1.kept h2 h3 h4 HWD.out) (fun j hj hjb => by
            by_cases e : j = m
            · subst e; exact (matchB_fill hfo.gr h1).1
            · rw [less_bit left m j hl (by omega) (by omega) HC.out.bit] at hjb
              have : left.testBit j = false := by simpa [e] using hjb
              exact (matchB_le _ _ _).cov (HCV.out j hj this)) h5
        have s0 := S1.sea.st
        have s1 := S1.sea.p1
        have s42 : wr.cell? ⟨sk, 42, none⟩ = some (.int .i64 b.length) := S1.at_.ct
        have st0 : wr.cell? ⟨sb, 0, none⟩ = some (.slice (some ⟨b7, o7, none⟩) fs.length cf) := cell_of_blk g1
        have hm0 : (0 : Int) ≤ (m : Int) := by omega
        have hm1 : (m : Int) < (ps.length : Int) := by omega
        have hj0 : (0 : Int) ≤ (((idxs fs key)[k] : Nat) : Int) := by omega
        have hj1 : (((idxs fs key)[k] : Nat) : Int) < (fs.length : Int) := by omega
        have hbl := bits_less left m hl (by omega) HC.out.bit
        have nbq : ∀ x ∈ bp, x < wr.heap.size ∧ x ≠ sk := fun x hx => ⟨(patsK_good vars).lt S1.pps x hx, hK x (S1.kbp x hx)⟩
        have nbs : ∀ x ∈ bs, x < wr.heap.size ∧ x ≠ sk := fun x hx => ⟨S1.sto.lt x hx, hK x (S1.kbs x hx)⟩
        have n1 := nbq bq hbq
        have n2 := nbs b7 (g11 b7 hb7)
        have n3 := nbs sb S1.sto.own
        have HN := Lib.hid (And.intro n1 (And.intro n2 (And.intro n3 S1.sea.lt)))
        clear nbq nbs n1 n2 n3
        have HST := Lib.hid hI.st
        have HSW := Lib.hid HS0.out.sea.lt
        have HWR := Lib.hid S1.sea.lt
        clear hI S1 g1 g2 g11 hsub hsub2 hfa hnm hsl hbq hb7
        generalize (idxs fs key)[k] = j at *
        generalize fs[j] = f at *
        generalize ps[m] = p at *
        obtain ⟨pn, pargs⟩ := p
        obtain ⟨fn, fargs⟩ := f
        dsimp only at *
        clear hlt hjl hmp hfo
        have HCK : Hid (∀ w4 : World, BdKept sk 18 wr.drew w4 → w4.cell? ⟨sk, 0, none⟩ = some (.pointer (some ⟨sb, 0, none⟩)) ∧ w4.cell? ⟨sk, 1, none⟩ = some (.slice (some ⟨bq, oq, none⟩) ps.length cp) ∧ w4.cell? ⟨bq, oq + m * 2, none⟩ = some (.string pn) ∧ w4.cell? ⟨bq, oq + m * 2 + 1, none⟩ = some (.slice Ae pargs.length ce) ∧ w4.cell? ⟨sb, 0, none⟩ = some (.slice (some ⟨b7, o7, none⟩) fs.length cf) ∧ w4.cell? ⟨b7, o7 + j * 2, none⟩ = some (.string fn) ∧ w4.cell? ⟨b7, o7 + j * 2 + 1, none⟩ = some (.slice Ag fargs.length cg)) := Lib.hid fun w4 h40 => by
          have h4 : BdKept sk 18 wr w4 := (BdKept.of_below ((Below.refl wr.heap.size wr).drew) HN.out.2.2.2).trans h40
          exact ⟨(h4.rest _ (by omega)).trans s0, (h4.rest _ (by omega)).trans s1, (World.cell?_of_block (h4.block (b := bq) HN.out.1.1 HN.out.1.2)).trans f0, (World.cell?_of_block (h4.block (b := bq) HN.out.1.1 HN.out.1.2)).trans f1,
            (World.cell?_of_block (h4.block (b := sb) HN.out.2.2.1.1 HN.out.2.2.1.2)).trans st0, (World.cell?_of_block (h4.block (b := b7) HN.out.2.1.1 HN.out.2.1.2)).trans d0, (World.cell?_of_block (h4.block (b := b7) HN.out.2.1.1 HN.out.2.1.2)).trans d1⟩
        generalize hM : matchB ⟨pn, pargs⟩ ⟨fn, fargs⟩ b = M at *
        obtain ⟨b', r⟩ := M
        dsimp only at *
        clear hM
        cases r
        · go_wp2
          go_region_held3 (fun w' => w'.cell? ⟨sk, 0, none⟩ = some (.pointer (some ⟨sb, 0, none⟩)) ∧ w'.cell? ⟨sk, 1, none⟩ = some (.slice (some ⟨bq, oq, none⟩) ps.length cp) ∧ w'.cell? ⟨bq, oq + m * 2, none⟩ = some (.string pn) ∧ w'.cell? ⟨bq, oq + m * 2 + 1, none⟩ = some (.slice Ae pargs.length ce) ∧ w'.cell? ⟨sb, 0, none⟩ = some (.slice (some ⟨b7, o7, none⟩) fs.length cf) ∧ w'.cell? ⟨b7, o7 + j * 2, none⟩ = some (.string fn) ∧ w'.cell? ⟨b7, o7 + j * 2 + 1, none⟩ = some (.slice Ag fargs.length cg))
            (first | exact ⟨s0, s1, f0, f1, st0, d0, d1⟩ | exact hS4)
            (first | (go_at_call 200; refine hcall.mono ?_; rintro e w4 ⟨rfl, hP4⟩; have hS4 := HCK.out w4 hP4.kept))
          all_goals
            have HP4 := Lib.hid hP4
            have hun := HUN.out w4 hP4.ok hP4.at_
            clear hP4 hS4 HCK
            have HK4 := Lib.hid ((RunKept.of_below (K := K) HWR.out ((Below.refl wr.heap.size wr).drew)).trans (RunKept.of_bd hK HP4.out.kept))
            have HT4 := Lib.hid (HTO.out.keep _ _ _ (HTO.out.keep wr wr.drew _ HST.out (BdKept.of_below ((Below.refl wr.heap.size wr).drew) HWR.out)) HP4.out.kept)
            clear s0 s1 s42 st0 f0 f1 d0 d1 hcall
            go_wp2_with fail
            refine hun.mono ?_
            rintro e w6 ⟨rfl, hP6⟩
            rw [HPR.out] at hP6
            have HI6 := Lib.hid (HSK.out w6 (by trivial) (HK4.out.trans (RunKept.of_bd hK hP6.kept)) hP6.at_ (HTO.out.keep _ _ _ HT4.out hP6.kept))
            clear hP6 hun
            cases hd
            all_goals
              go_wp2
              go_roundw
              case rel => exact ⟨k + 1, ts, _, HLT.out, by go_num, rfl, HI6.out⟩
              case measure => have := HLT.out; simp [intOf]; omega
        · go_wp2
          go_region_held3 (fun w' => w'.cell? ⟨sk, 0, none⟩ = some (.pointer (some ⟨sb, 0, none⟩)) ∧ w'.cell? ⟨sk, 1, none⟩ = some (.slice (some ⟨bq, oq, none⟩) ps.length cp) ∧ w'.cell? ⟨bq, oq + m * 2, none⟩ = some (.string pn) ∧ w'.cell? ⟨bq, oq + m * 2 + 1, none⟩ = some (.slice Ae pargs.length ce) ∧ w'.cell? ⟨sb, 0, none⟩ = some (.slice (some ⟨b7, o7, none⟩) fs.length cf) ∧ w'.cell? ⟨b7, o7 + j * 2, none⟩ = some (.string fn) ∧ w'.cell? ⟨b7, o7 + j * 2 + 1, none⟩ = some (.slice Ag fargs.length cg))
            (first | exact ⟨s0, s1, f0, f1, st0, d0, d1⟩ | exact hS4)
            (first | (go_at_call 200; refine hcall.mono ?_; rintro e w4 ⟨rfl, hP4⟩; have hS4 := HCK.out w4 hP4.kept))
          all_goals
            have HP4 := Lib.hid hP4
            clear hP4 hS4 HCK
            have HK4 := Lib.hid ((RunKept.of_below (K := K) HWR.out ((Below.refl wr.heap.size wr).drew)).trans (RunKept.of_bd hK HP4.out.kept))
            have HT4 := Lib.hid (HTO.out.keep _ _ _ (HTO.out.keep wr wr.drew _ HST.out (BdKept.of_below ((Below.refl wr.heap.size wr).drew) HWR.out)) HP4.out.kept)
            have hrec := HREC.out w4 (by trivial) HK4.out HP4.out.at_ HP4.out.ok HT4.out
            clear s0 s1 s42 st0 f0 f1 d0 d1 hcall
            go_wp2_with fail
            refine hrec.mono ?_
            rintro e w5 ⟨held', more', rfl, hP5⟩
            have hun := HUN.out w5 HP4.out.ok (RunPost.bd hP5)
            have HP5 := Lib.hid hP5
            clear hrec hP5
            have HFI : Hid (∀ w6, MatPost vars sk 18 w5 b w6 → ∃ ts2, RunInv vars fs ps ns head K sk T go b left m (idxs fs key) told ts2 (hd || held') more' (k + 1) w w6) := Lib.hid fun w6 h6 => HTK.out w4 w5 w6 held' more' (by trivial) HP5.out HK4.out (RunKept.of_bd hK h6.kept) h6.at_ fun ts' hts => HTO.out.keep _ _ _ hts h6.kept
            rw [HPR.out] at hun
            clear HTK HREC HUN HSK HP5
            cases hd <;> cases held' <;> cases more'
            all_goals
              go_wp2_with fail
              refine hun.mono ?_
              rintro e w6 ⟨rfl, hP6⟩
              obtain ⟨ts2, hI6⟩ := HFI.out w6 hP6
              have HI6 := Lib.hid hI6
              clear hP6 hun hI6
              go_wp2
              first
                | (go_ret2; exact HI6.out.off.ret)
                | (go_roundw
                   case rel => exact ⟨k + 1, ts2, _, HLT.out, by go_num, rfl, HI6.out⟩
                   case measure => have := HLT.out; simp [intOf]; omega)
      · have he : ¬ (k : Int) < ((idxs fs key).length : Int) := by omega
        have HF := Lib.hid (hI.fin E HC.out rfl (by omega))
        clear hI
        go_wp2
        go_ret2
        exact HF.out.ret
  · have hh := HHI.out rfl w1 hb1
    rw [HHH.out rfl] at hh
    have HCVH := Lib.hid ((setB_cov E.hv HS0.out.ok E.want E.hin E.nin).1 HSB.out).1
    go_wp2_with fail
    refine hh.mono ?_
    rintro e w2 ⟨rfl, hb2⟩
    have HB2 := Lib.hid (hb1.trans (hb2.mono hb1.size))
    have hch := HCH.out w2 HB2.out
    clear hb1 hb2 hh
    clear HCH HHI HHH
    go_wp2_with fail
    refine hch.mono ?_
    rintro e w3 ⟨m, A9, c9, key, bx, rfl, hC, hb3⟩
    have HB3 := Lib.hid (HB2.out.trans (hb3.mono HB2.out.size))
    have HC := Lib.hid hC
    have HROW : Hid (intsK w [.slice A9 (idxs fs key).length c9] (idxs fs key) bx) := Lib.hid (intsK_good.keep hC.row fun x hx => (HB3.out.block x (HS0.out.sto.lt x (hC.sub x hx))).symm)
    have hlen : (idxs fs key).length ≤ 1000000 := Nat.le_trans (idxs_len _ _) E.fl
    have hmp := hC.lt
    have hp4 := E.p4
    have HI0 : Hid (RunInv vars fs ps ns head K sk T go b left m (idxs fs key) told [] false true 0 w w3) := Lib.hid ⟨RunKept.of_below HS0.out.sea.lt HB3.out, HS0.out.at_.keep (HB3.out.block _ HS0.out.sea.lt),
      by rw [List.append_nil]; exact HTO.out.keep _ _ _ HTW.out (BdKept.of_below HB3.out HS0.out.sea.lt), fun t ht => by simp at ht, fun _ i hi => absurd hi (by omega), fun h => absurd h (by decide), fun h => absurd h (by decide)⟩
    clear hch hC hb3 HB2
    go_wp2
    go_loopw [9, 40] (fun held i wr => ∃ (k : Nat) (ts : List A), k ≤ (idxs fs key).length ∧ i = .int .i64 k ∧ held = .bool false ∧ RunInv vars fs ps ns head K sk T go b left m (idxs fs key) told ts false true k w wr) (fun _ i _ => (idxs fs key).length - (intOf i).toNat)
    case atStart => exact ⟨0, [], Nat.zero_le _, rfl, rfl, HI0.out⟩
    case round =>
      obtain ⟨k, ts, hk, rfl, rfl, hI⟩ := hrel
      clear HI0
      by_cases hlt : k < (idxs fs key).length
      · obtain ⟨b8, o8, rfl, hb8, e0⟩ := intsK_at (hI.kept.keep intsK_good HROW.out fun x hx => HS0.out.kbs x (HC.out.sub x hx)) hlt
        obtain ⟨hjl, _⟩ := idxs_mem.1 (List.getElem_mem hlt)
        have s16 := (HS0.out.sea.run hI.kept).io
        have hk0 : (0 : Int) ≤ (k : Int) := by omega
        have hk1 : (k : Int) < ((idxs fs key).length : Int) := by omega
        have HI := Lib.hid hI
        have HLT := Lib.hid hlt
        clear hI hk hb8
        go_wp2
        go_quiet (fail)
        have hI : RunInv vars fs ps ns head K sk T go b left m (idxs fs key) told ts false true k w (wr.drewN nq) := HI.out.drewN HTO.out HS0.out.sea.lt
        clear HI s16 e0
        generalize wr.drewN nq = wr at *
        have S1 := HS0.out.kept hI.kept hI.at_ HS0.out.ok HS0.out.wds
        obtain ⟨⟨Af, cf, Ar, cr, mu, mp, bf, br, Lu, Lp, g1, g2, _, _, _, _, _, _, _, _, g11, _⟩, _, _⟩ := S1.sto
        obtain ⟨bq, oq, Ae, ce, bk, rfl, hbq, f0, f1, ⟨vv, hvv, hnm, hsl⟩, hsub⟩ := pats_at S1.pps hmp
        simp only [List.cons.injEq, and_true, true_and] at hvv
        subst hvv
        obtain ⟨b7, o7, Ag, cg, bg, rfl, hb7, d0, d1, hfa, hsub2⟩ := atoms_el g2 hjl
        have hfo := E.fok _ (List.getElem_mem hjl)
        have hcall := matchI_any vars E.hv b HS0.out.ok ps[m] fs[(idxs fs key)[k]] Ae Ag ce cg bk bg sk 18 wr.drew (S1.at_.keep rfl) ((slotsK_good vars).keep hsl fun _ _ => rfl) (termsK_good.keep (atom_args hfa) fun _ _ => rfl) (E.pin _ (List.getElem_mem hmp)) (arg_const (E.pok _ (List.getElem_mem hmp)))
          (fun t ht => ⟨(hfo.names t ht).1, nameOk_full (hfo.names t ht).2⟩) (fun h => hK _ (S1.kbp _ (hsub _ h)) rfl) (fun h => hK _ (S1.kbs _ (g11 _ (hsub2 _ h))) rfl) (by have := arg_few (E.pok _ (List.getElem_mem hmp)); omega)
        have HWD := Lib.hid (matchB_wds (a := ps[m]) HS0.out.wds fun t ht => (hfo.names t ht).2)
        have HUN := Lib.hid (fun (w5 : World) (hok : BdOk vars (matchB ps[m] fs[(idxs fs key)[k]] b).1) (hat : BdAt vars (matchB ps[m] fs[(idxs fs key)[k]] b).1 sk 18 w5) => undo_any vars E.hv (matchB ps[m] fs[(idxs fs key)[k]] b).1 hok b.length (matchB_len_le _ _ _) sk 18 w5 hat)
        have HPR := Lib.hid (matchB_pre ps[m] fs[(idxs fs key)[k]] b)
        have HSK : Hid (∀ w6, (matchB ps[m] fs[(idxs fs key)[k]] b).2 = false → RunKept K sk wr w6 → BdAt vars b sk 18 w6 → T true w6 (told ++ ts) → RunInv vars fs ps ns head K sk T go b left m (idxs fs key) told ts false true (k + 1) w w6) := Lib.hid fun w6 h1 h2 h3 h4 => hI.skip hlt hjl hmp h1 h2 h3 h4
        have HTK : Hid (∀ (w4 w5 w6 : World) (held' more' : Bool), (matchB ps[m] fs[(idxs fs key)[k]] b).2 = true → RunPost vars fs ps ns head K sk T go (matchB ps[m] fs[(idxs fs key)[k]] b).1 (left - 2 ^ m) (told ++ ts) held' more' w4 w5 → RunKept K sk wr w4 → RunKept K sk w5 w6 → BdAt vars b sk 18 w6 → (∀ ts', T more' w5 ts' → T more' w6 ts') → ∃ ts2, RunInv vars fs ps ns head K sk T go b left m (idxs fs key) told ts2 (false || held') more' (k + 1) w w6) :=
          Lib.hid fun w4 w5 w6 held' more' h1 h2 h3 h4 h5 h6 => hI.took hl hp4 hlt hjl hfo.gr hmp HC.out.bit h1 h2 h3 h4 h5 h6
        have HREC : Hid (∀ w4 : World, (matchB ps[m] fs[(idxs fs key)[k]] b).2 = true → RunKept K sk wr w4 → BdAt vars (matchB ps[m] fs[(idxs fs key)[k]] b).1 sk 18 w4 → BdOk vars (matchB ps[m] fs[(idxs fs key)[k]] b).1 → T true w4 (told ++ ts) →
            Calls Tryz.prog 179 #[.pointer (some ⟨sk, 0, none⟩), .int .i64 ((left - 2 ^ m : Nat) : Int)] w4 (RunRet vars fs ps ns head K sk T go (matchB ps[m] fs[(idxs fs key)[k]] b).1 (left - 2 ^ m) (told ++ ts) w4)) :=
          Lib.hid fun w4 h1 h2 h3 h4 h5 => HIH.out (left - 2 ^ m) (less_lt left m hl (by omega) HC.out.bit) _ _ _ (S1.kept h2 h3 h4 HWD.out) (fun j hj hjb => by
            by_cases e : j = m
            · subst e; exact (matchB_fill hfo.gr h1).1
            · rw [less_bit left m j hl (by omega) (by omega) HC.out.bit] at hjb
              have : left.testBit j = false := by simpa [e] using hjb
              exact (matchB_le _ _ _).cov (HCV.out j hj this)) h5
        have s0 := S1.sea.st
        have s1 := S1.sea.p1
        have s42 : wr.cell? ⟨sk, 42, none⟩ = some (.int .i64 b.length) := S1.at_.ct
        have st0 : wr.cell? ⟨sb, 0, none⟩ = some (.slice (some ⟨b7, o7, none⟩) fs.length cf) := cell_of_blk g1
        have hm0 : (0 : Int) ≤ (m : Int) := by omega
        have hm1 : (m : Int) < (ps.length : Int) := by omega
        have hj0 : (0 : Int) ≤ (((idxs fs key)[k] : Nat) : Int) := by omega
        have hj1 : (((idxs fs key)[k] : Nat) : Int) < (fs.length : Int) := by omega
        have hbl := bits_less left m hl (by omega) HC.out.bit
        have nbq : ∀ x ∈ bp, x < wr.heap.size ∧ x ≠ sk := fun x hx => ⟨(patsK_good vars).lt S1.pps x hx, hK x (S1.kbp x hx)⟩
        have nbs : ∀ x ∈ bs, x < wr.heap.size ∧ x ≠ sk := fun x hx => ⟨S1.sto.lt x hx, hK x (S1.kbs x hx)⟩
        have n1 := nbq bq hbq
        have n2 := nbs b7 (g11 b7 hb7)
        have n3 := nbs sb S1.sto.own
        have HN := Lib.hid (And.intro n1 (And.intro n2 (And.intro n3 S1.sea.lt)))
        clear nbq nbs n1 n2 n3
        have HST := Lib.hid hI.st
        have HSW := Lib.hid HS0.out.sea.lt
        have HWR := Lib.hid S1.sea.lt
        clear hI S1 g1 g2 g11 hsub hsub2 hfa hnm hsl hbq hb7
        generalize (idxs fs key)[k] = j at *
        generalize fs[j] = f at *
        generalize ps[m] = p at *
        obtain ⟨pn, pargs⟩ := p
        obtain ⟨fn, fargs⟩ := f
        dsimp only at *
        clear hlt hjl hmp hfo
        have HCK : Hid (∀ w4 : World, BdKept sk 18 wr.drew w4 → w4.cell? ⟨sk, 0, none⟩ = some (.pointer (some ⟨sb, 0, none⟩)) ∧ w4.cell? ⟨sk, 1, none⟩ = some (.slice (some ⟨bq, oq, none⟩) ps.length cp) ∧ w4.cell? ⟨bq, oq + m * 2, none⟩ = some (.string pn) ∧ w4.cell? ⟨bq, oq + m * 2 + 1, none⟩ = some (.slice Ae pargs.length ce) ∧ w4.cell? ⟨sb, 0, none⟩ = some (.slice (some ⟨b7, o7, none⟩) fs.length cf) ∧ w4.cell? ⟨b7, o7 + j * 2, none⟩ = some (.string fn) ∧ w4.cell? ⟨b7, o7 + j * 2 + 1, none⟩ = some (.slice Ag fargs.length cg)) := Lib.hid fun w4 h40 => by
          have h4 : BdKept sk 18 wr w4 := (BdKept.of_below ((Below.refl wr.heap.size wr).drew) HN.out.2.2.2).trans h40
          exact ⟨(h4.rest _ (by omega)).trans s0, (h4.rest _ (by omega)).trans s1, (World.cell?_of_block (h4.block (b := bq) HN.out.1.1 HN.out.1.2)).trans f0, (World.cell?_of_block (h4.block (b := bq) HN.out.1.1 HN.out.1.2)).trans f1,
            (World.cell?_of_block (h4.block (b := sb) HN.out.2.2.1.1 HN.out.2.2.1.2)).trans st0, (World.cell?_of_block (h4.block (b := b7) HN.out.2.1.1 HN.out.2.1.2)).trans d0, (World.cell?_of_block (h4.block (b := b7) HN.out.2.1.1 HN.out.2.1.2)).trans d1⟩
        generalize hM : matchB ⟨pn, pargs⟩ ⟨fn, fargs⟩ b = M at *
        obtain ⟨b', r⟩ := M
        dsimp only at *
        clear hM
        cases r
        · go_wp2
          go_region_held3 (fun w' => w'.cell? ⟨sk, 0, none⟩ = some (.pointer (some ⟨sb, 0, none⟩)) ∧ w'.cell? ⟨sk, 1, none⟩ = some (.slice (some ⟨bq, oq, none⟩) ps.length cp) ∧ w'.cell? ⟨bq, oq + m * 2, none⟩ = some (.string pn) ∧ w'.cell? ⟨bq, oq + m * 2 + 1, none⟩ = some (.slice Ae pargs.length ce) ∧ w'.cell? ⟨sb, 0, none⟩ = some (.slice (some ⟨b7, o7, none⟩) fs.length cf) ∧ w'.cell? ⟨b7, o7 + j * 2, none⟩ = some (.string fn) ∧ w'.cell? ⟨b7, o7 + j * 2 + 1, none⟩ = some (.slice Ag fargs.length cg))
            (first | exact ⟨s0, s1, f0, f1, st0, d0, d1⟩ | exact hS4)
            (first | (go_at_call 200; refine hcall.mono ?_; rintro e w4 ⟨rfl, hP4⟩; have hS4 := HCK.out w4 hP4.kept))
          all_goals
            have HP4 := Lib.hid hP4
            have hun := HUN.out w4 hP4.ok hP4.at_
            clear hP4 hS4 HCK
            have HK4 := Lib.hid ((RunKept.of_below (K := K) HWR.out ((Below.refl wr.heap.size wr).drew)).trans (RunKept.of_bd hK HP4.out.kept))
            have HT4 := Lib.hid (HTO.out.keep _ _ _ (HTO.out.keep wr wr.drew _ HST.out (BdKept.of_below ((Below.refl wr.heap.size wr).drew) HWR.out)) HP4.out.kept)
            clear s0 s1 s42 st0 f0 f1 d0 d1 hcall
            go_wp2_with fail
            refine hun.mono ?_
            rintro e w6 ⟨rfl, hP6⟩
            rw [HPR.out] at hP6
            have HI6 := Lib.hid (HSK.out w6 (by trivial) (HK4.out.trans (RunKept.of_bd hK hP6.kept)) hP6.at_ (HTO.out.keep _ _ _ HT4.out hP6.kept))
            clear hP6 hun
            go_wp2
            go_roundw
            case rel => exact ⟨k + 1, ts, HLT.out, by go_num, rfl, HI6.out⟩
            case measure => have := HLT.out; simp [intOf]; omega
        · go_wp2
          go_region_held3 (fun w' => w'.cell? ⟨sk, 0, none⟩ = some (.pointer (some ⟨sb, 0, none⟩)) ∧ w'.cell? ⟨sk, 1, none⟩ = some (.slice (some ⟨bq, oq, none⟩) ps.length cp) ∧ w'.cell? ⟨bq, oq + m * 2, none⟩ = some (.string pn) ∧ w'.cell? ⟨bq, oq + m * 2 + 1, none⟩ = some (.slice Ae pargs.length ce) ∧ w'.cell? ⟨sb, 0, none⟩ = some (.slice (some ⟨b7, o7, none⟩) fs.length cf) ∧ w'.cell? ⟨b7, o7 + j * 2, none⟩ = some (.string fn) ∧ w'.cell? ⟨b7, o7 + j * 2 + 1, none⟩ = some (.slice Ag fargs.length cg))
            (first | exact ⟨s0, s1, f0, f1, st0, d0, d1⟩ | exact hS4)
            (first | (go_at_call 200; refine hcall.mono ?_; rintro e w4 ⟨rfl, hP4⟩; have hS4 := HCK.out w4 hP4.kept))
          all_goals
            have HP4 := Lib.hid hP4
            clear hP4 hS4 HCK
            have HK4 := Lib.hid ((RunKept.of_below (K := K) HWR.out ((Below.refl wr.heap.size wr).drew)).trans (RunKept.of_bd hK HP4.out.kept))
            have HT4 := Lib.hid (HTO.out.keep _ _ _ (HTO.out.keep wr wr.drew _ HST.out (BdKept.of_below ((Below.refl wr.heap.size wr).drew) HWR.out)) HP4.out.kept)
            have hrec := HREC.out w4 (by trivial) HK4.out HP4.out.at_ HP4.out.ok HT4.out
            clear s0 s1 s42 st0 f0 f1 d0 d1 hcall
            go_wp2_with fail
            refine hrec.mono ?_
            rintro e w5 ⟨held', more', rfl, hP5⟩
            have hun := HUN.out w5 HP4.out.ok (RunPost.bd hP5)
            have HP5 := Lib.hid hP5
            clear hrec hP5
            have HFI : Hid (∀ w6, MatPost vars sk 18 w5 b w6 → ∃ ts2, RunInv vars fs ps ns head K sk T go b left m (idxs fs key) told ts2 (false || held') more' (k + 1) w w6) := Lib.hid fun w6 h6 => HTK.out w4 w5 w6 held' more' (by trivial) HP5.out HK4.out (RunKept.of_bd hK h6.kept) h6.at_ fun ts' hts => HTO.out.keep _ _ _ hts h6.kept
            rw [HPR.out] at hun
            clear HTK HREC HUN HSK HP5
            cases held' <;> cases more'
            all_goals
              go_wp2_with fail
              refine hun.mono ?_
              rintro e w6 ⟨rfl, hP6⟩
              obtain ⟨ts2, hI6⟩ := HFI.out w6 hP6
              have HI6 := Lib.hid hI6
              clear hP6 hun hI6
              go_wp2
              first
                | (go_ret2; exact HI6.out.off.ret)
                | (go_roundw
                   case rel => exact ⟨k + 1, ts2, HLT.out, by go_num, rfl, HI6.out⟩
                   case measure => have := HLT.out; simp [intOf]; omega)
                | (go_ret2; exact (HI6.out.brk HCVH.out).ret)
      · have he : ¬ (k : Int) < ((idxs fs key).length : Int) := by omega
        have HF := Lib.hid (hI.fin E HC.out rfl (by omega))
        clear hI
        go_wp2
        go_ret2
        exact HF.out.ret
end
end Go.Proofs.YtiidmgchadagbaaGreatDoor
