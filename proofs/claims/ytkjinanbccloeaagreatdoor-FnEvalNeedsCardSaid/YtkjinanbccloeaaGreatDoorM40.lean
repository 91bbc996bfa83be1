/- Of the proof of FnEvalNeeds: jd, RunI. -/
import Derived.Test.YtkjinanbccloeaaGreatDoorM39
set_option linter.unusedVariables false
set_option maxHeartbeats 8000000
set_option maxRecDepth 100000
namespace Go.Proofs.YtkjinanbccloeaaGreatDoor
section
open Go.RowKit D
def D.jd (B sb mu mp:Nat) (Fb:Nat→Prop) (fr:List Nat) (fs:List A) (rn:List Nat) (w:World):Prop:=
 ∃ y cf Lf I J Lr U bf,kE B sb mu mp y fs.length cf Lf fs bf I rn.length J Lr rn (yw fs) (idxs fs) U w∧(∀ x ∈ bf,Fb x)∧∀ x ∈ fr,Free B sb mu mp (.slice y fs.length cf) (.slice I rn.length J) U x∧x < w.heap.size
section
variable {B sb mu mp:Nat} {Fb:Nat→Prop} {fr:List Nat} {fs:List A} {rn:List Nat} {w w':World}
theorem D.kE.fresh {y:Option Addr} {I cf:Nat} {Lf:List Value} {bf:List Nat} {J:Option Addr} {nr U:Nat} {Lr:List Value} {Lp:List (Value × Value)} {G:WK→List Nat} {ou:List Nat} (h:kE B sb mu mp y I cf Lf fs bf J nr U Lr rn Lp G ou w) {x:Nat} (hx:w.heap.size≤x):Free B sb mu mp (.slice y I cf) (.slice J nr U) ou x:=by
 obtain ⟨l1,l2,l3,_⟩:=h.lo;have hs:=h.oD;exact ⟨fun e=>by have:=(aZ h.cF.own e).2; omega,fun e=>by have:=(aZ h.cR.own e).2; omega,fun e=>by have:=(h.ous x e).2; omega,by omega⟩
theorem D.jd.more (h:jd B sb mu mp Fb fr fs rn w) (I:Below w.heap.size w w') (xs:List Nat) (J:∀ x ∈ xs,w.heap.size≤x∧x < w'.heap.size):jd B sb mu mp Fb (fr ++ xs) fs rn w':=by
 obtain ⟨Af,cf,Lf,Ar,cr,Lr,ou,bf,S,h1,U⟩:=h;refine ⟨Af,cf,Lf,Ar,cr,Lr,ou,bf,S.later I,h1,fun x y=>?_⟩
 rcases μ.1 y with g | g
 ·exact ⟨(U x g).1,κ (U x g).2 I.size⟩
 ·exact ⟨S.fresh (J x g).1,(J x g).2⟩
theorem D.jd.later (h:jd B sb mu mp Fb fr fs rn w) (y:Below w.heap.size w w'):jd B sb mu mp Fb fr fs rn w':=by
 have:=h.more y [] (fun x I=>by simp at I);simpa using this
theorem D.jd.sub (h:jd B sb mu mp Fb fr fs rn w) {y:List Nat} (I:∀ x ∈ y,x ∈ fr):jd B sb mu mp Fb y fs rn w:=by
 obtain ⟨J,cf,Lf,U,cr,Lr,ou,bf,S,h1,h2⟩:=h;exact ⟨J,cf,Lf,U,cr,Lr,ou,bf,S,h1,fun x hx=>h2 x (I x hx)⟩
theorem D.jd.mono (h:jd B sb mu mp Fb fr fs rn w) {Fb':Nat→Prop} (I:∀ x,Fb x→x < w.heap.size→Fb' x):jd B sb mu mp Fb' fr fs rn w:=by
 obtain ⟨J,cf,Lf,U,cr,Lr,ou,bf,S,h1,h2⟩:=h;exact ⟨J,cf,Lf,U,cr,Lr,ou,bf,S,fun x y=>I x (h1 x y) (S.cF.row.lt aj x y),h2⟩
theorem D.jd.other (h:jd B sb mu mp Fb fr fs rn w) {c:Nat} (hc:c ∈ fr) (hb:¬ Fb c) (J:w.heap.size≤w'.heap.size) (I:∀ k,k < w.heap.size→k ≠ c→w'.heap[k]? = w.heap[k]?):jd B sb mu mp Fb fr fs rn w':=by
 obtain ⟨Af,cf,Lf,Ar,cr,Lr,ou,bf,S,h1,U⟩:=h;obtain ⟨l1,l2,l3,_⟩:=S.lo;have hz:=S.oD;obtain ⟨f,r,u,s⟩:=(U c hc).1
 refine ⟨Af,cf,Lf,Ar,cr,Lr,ou,bf,⟨(I sb (by omega) (by omega)).trans S.blk,S.ef,S.er,S.cF.lQ aj (fun x y=>I x (aZ S.cF.own y).2 (fun e=>f (e ▸ y))) (fun x y=>I x (S.cF.row.lt aj x y) (fun e=>hb (e ▸ h1 x y))),
  S.cR.lQ iC (fun x y=>I x (aZ S.cR.own y).2 (fun e=>r (e ▸ y))) (fun x y=>by simp at y),S.un.keep (I mu (by omega) (by omega)) (fun x y=>I x (S.ous x y).2 (fun e=>u (e ▸ y))),S.pl.same (I mp (by omega) (by omega)),S.dFR,S.dF,S.dR,S.bfs,S.lo,
  fun x y=>⟨(S.ous x y).1,κ (S.ous x y).2 J⟩,τ hz J⟩,h1,fun x y=>⟨(U x y).1,κ (U x y).2 J⟩⟩
theorem D.jd.view (h:jd B sb mu mp Fb fr fs rn w):∃ bs,jL sb fs rn bs w:=by
 obtain ⟨y,cf,Lf,I,J,U,ou,bf,S,h1,h2⟩:=h;obtain ⟨bs,g,_⟩:=S.view 0 (by omega);exact ⟨bs,g⟩
theorem D.jd.lt (h:jd B sb mu mp Fb fr fs rn w):B≤w.heap.size∧sb < B∧∀ x ∈ fr,x < w.heap.size:=by
 obtain ⟨J,cf,Lf,U,cr,Lr,ou,bf,S,h1,y⟩:=h;exact ⟨S.oD,S.lo.1,fun x I=>(y x I).2⟩
theorem U4 (h:jd B sb mu mp Fb fr fs rn w) {a:A} {c1:Value} {ba:List Nat} (ha:aI w [.string a.name,c1] a ba) (J:∀ x ∈ ba,x ∈ fr) (U:∀ x ∈ ba,Fb x) (a0:∀ f ∈ fs,aT f) (hok:aT a) (a1:a ∉ fs) (a2:fs.length≤1000000) (a3:rn.length≤1000000) (rd B0:Nat) (a4:B0≤sb∧B0≤mu∧B0≤mp∧B0≤B):
  Calls Tryz.prog 112 #[.pointer (some ⟨sb,0,none⟩),.agg #[.string a.name,c1],.int .i64 rd] w fun e w'=>e=.returned (.tuple #[])∧Below B0 w w'∧jd B sb mu mp Fb fr (fs ++ [a]) (rn ++ [rd]) w'∧∀ x ∈ fr,w'.heap[x]? = w.heap[x]?:=by
 obtain ⟨Af,cf,Lf,Ar,cr,Lr,ou,bf,S,h1,h2⟩:=h;refine (put_any B sb mu mp Af cf Lf fs bf Ar cr Lr rn (yw fs) ou a c1 ba fr rd w S ha J (fun x y=>(h2 x y).1) (fun x y=>(h2 x y).2) hok.ok (Kr a0 hok a1) a2 a3 B0 a4).mono ?_;rintro e w' ⟨rfl,hb,a5,a6,a7,a8,a9,aa,ab,S',I⟩;refine ⟨rfl,hb,⟨a5,a6,a7,a8,a9,aa,ab,bf ++ ba,?_,fun x y=>(μ.1 y).elim (h1 x) (U x),fun x y=>⟨?_,κ (h2 x y).2 hb.size⟩⟩,fun x y=>(I x y).2⟩
 ·rw [FD,χ,χ]; exact S'
 ·have:=(I x y).1
  rw [χ,χ]; exact this
end
theorem D.GZ.qK {xs:List A} {I:List Nat} {y w:World} (h:GZ xs I y xs.length w) (J:∀ x ∈ I,x < y.heap.size):Below y.heap.size y w∧jd (y.heap.size+3) (y.heap.size+2) y.heap.size (y.heap.size+1) (fun x=>x ∈ I) [] xs (List.replicate xs.length 0) w:=by
 obtain ⟨h1,U,cf,Lf,Ar,cr,Lr,ou,bf,S,h2⟩:=h.all;exact ⟨h1,U,cf,Lf,Ar,cr,Lr,ou,bf,S,h2,fun x hx=>by simp at hx⟩
end
section
open Go.RowKit D
attribute [local go_sem ↓] Go.wp_at_zero Go.wp_at_succ
section
variable (vars:List ByteArray) (fs:List A) (rn:List Nat) (bs:List Nat) (ps ns:List A) (head:A) (sk sb:Nat) (Ap:Option Addr) (cp:Nat) (An:Option Addr) (cn:Nat) (bp bn:List Nat) (wt:Nat→Bool) (ah:Int) (c5 c7:Addr) (K:Nat→Prop) (T:Bool→World→List A→Prop) (go:List A→Bool)
theorem run_stop (E:qy vars fs ps ns head wt) (hK:∀ k,K k→k ≠ sk) (hT:uT vars head sk K c5 c7 T go) (left:Nat) (b:Bd) (told:List A) (w:World)
  (S:oP vars fs rn bs ps ns sk sb (.slice Ap ps.length cp) (.slice An ns.length cn) bp bn wt ah (.func (.func 116) #[] #[.pointer (some c5),.pointer (some c7)]) K b w)
  (a0:T true w told) (hS:setB vars b wt=true) (hH:wV fs ns b=true):
  Calls Tryz.prog 179 #[.pointer (some ⟨sk,0,none⟩),.int .i64 left] w (rQ vars fs ps ns head K sk T go b left told w):=by
 have I:=(rP E.hv S.ok E.want E.hin E.nin).1 hS;have J:=rJ vars b sk sb _ _ wt false ah _ w S.sea S.at_;rw [hS] at J;have U:=fun w1 (y:Below w.heap.size w w1)=>qp vars E.hv b S.ok fs rn bs ns An cn bn sk sb _ wt false ah _ w1 (S.below y).sea (S.below y).at_ (S.below y).qK (S.below y).pns E.nin (fun n hn=>(sS (E.nok n hn) S.wds (I.2 n hn)).ok) E.nl
 rw [hH] at U
 have a1:Hid (∀ w2,Below w.heap.size w w2→iH vars fs ps ns head K sk T go b left told false true w w2):=η fun w2 hb=>⟨[],bK.of_below S.sea.lt hb,S.at_.keep (hb.block _ S.sea.lt),
  by rw [List.append_nil]; exact hT.keep _ _ _ a0 (cO.of_below hb S.sea.lt),fun t ht=>by simp at ht,fun _ σ hσ=>absurd hσ (SN E S.wds I.2 hH σ),fun h=>by simp at h,fun h=>by simp at h⟩
 have a2:=η U;clear U S I a0 hT
 go_enter Tryz.func179,Tryz.ntmps179
 go_wp2_with fail
 refine J.mono ?_;rintro e w1 ⟨rfl,y⟩;have hh:=a2.out w1 y
 go_wp2_with fail
 refine hh.mono ?_;rintro e w2 ⟨rfl,a3⟩;have HD:=η (a1.out w2 (y.trans (a3.mono y.size)));clear J hh y a3 a1 a2;go_wp2;go_ret2;exact HD.out.ret
theorem Tj (E:qy vars fs ps ns head wt) (hK:∀ k,K k→k ≠ sk) (hT:uT vars head sk K c5 c7 T go) (b:Bd) (told:List A) (w:World)
  (S:oP vars fs rn bs ps ns sk sb (.slice Ap ps.length cp) (.slice An ns.length cn) bp bn wt ah (.func (.func 116) #[] #[.pointer (some c5),.pointer (some c7)]) K b w)
  (a0:∀ p ∈ ps,vY b p.args) (a1:T true w told) (hH:wV fs ns b=false):
  Calls Tryz.prog 179 #[.pointer (some ⟨sk,0,none⟩),.int .i64 ((0:Nat):Int)] w (rQ vars fs ps ns head K sk T go b 0 told w):=by
 have hcv:=E.tight b a0;have hS:=(rP E.hv S.ok E.want E.hin E.nin).2 hcv;have I:=rJ vars b sk sb _ _ wt false ah _ w S.sea S.at_;rw [hS] at I;have J:=fun w1 (y:Below w.heap.size w w1)=>qp vars E.hv b S.ok fs rn bs ns An cn bn sk sb _ wt false ah _ w1 (S.below y).sea (S.below y).at_ (S.below y).qK (S.below y).pns E.nin (fun n hn=>(sS (E.nok n hn) S.wds (hcv.2 n hn)).ok) E.nl
 rw [hH] at J;have a2:=fun w2 (hb:Below w.heap.size w w2)=>hT.call w2.drew b told S.ok S.wds hcv.1 (S.at_.keep ((hb.block _ S.sea.lt))) (hT.keep _ _ _ a1 (cO.of_below hb.drew S.sea.lt))
 have a3:Hid (∀ w2 w3:World,Below w.heap.size w w2→T (go (told ++ [bU head b])) w3 (told ++ [bU head b])→bK K sk w2.drew w3→w3.heap[sk]? = w2.drew.heap[sk]?→iH vars fs ps ns head K sk T go b 0 told true (go (told ++ [bU head b])) w w3):=η fun w2 w3 hb h1 h2 h3=>
  ⟨[bU head b],(bK.of_below S.sea.lt hb.drew).trans h2,(S.at_.keep (hb.block _ S.sea.lt)).keep h3,h1,fun t ht=>by
   rw [List.mem_singleton.1 ht]
   exact ⟨iO b,⟨Gt b,fun j _ hj=>by simp at hj,fun n hn=>by rw [← vZ]; exact SQ E S.wds hcv.2 hH n hn⟩,(vZ _ _).symm⟩,
   fun _ σ hσ=>by rw [← jH hcv.1 hσ.1]; exact List.mem_singleton_self _,fun _=>by simp,fun h=>h⟩
 have a4:=η J;have a5:=η a2;have U:=η S.sea;clear J a2 S hcv a1 hT a0
 go_enter Tryz.func179,Tryz.ntmps179
 go_wp2_with fail
 refine I.mono ?_;rintro e w1 ⟨rfl,y⟩;have hh:=a4.out w1 y
 go_wp2_with fail
 refine hh.mono ?_;rintro e w2 ⟨rfl,a6⟩;have HB:=η (y.trans (a6.mono y.size));have a7:=η (a5.out w2 HB.out);have s0:=(U.out.keep (HB.out.block _ U.out.lt)).tl;clear I hh y a6 a4 a5;go_wp2
 go_region_law
  (first
   | (go_simp; go_at_call 116; refine a7.out.mono ?_; rintro e w3 ⟨rfl,a8,a9,aa⟩; have HD:=η (a3.out w2 w3 HB.out a8 a9 aa); clear a8 a9 aa))
 all_goals
  clear s0 a7 a3 U;go_wp2;go_ret2;exact HD.out.ret
theorem Kw (E : qy vars fs ps ns head wt) (hK : ∀ k, K k → k ≠ sk) (hT : uT vars head sk K c5 c7 T go) (left : Nat) (bX : left < 2 ^ ps.length) (cA : left ≠ 0)
    (IH : ∀ ap, ap < left → ∀ (b : Bd) (told : List A) (w : World), oP vars fs rn bs ps ns sk sb (.slice Ap ps.length cp) (.slice An ns.length cn) bp bn wt ah (.func (.func 116) #[] #[.pointer (some c5), .pointer (some c7)]) K b w →
      (∀ j (h : j < ps.length), ap.testBit j = false → vY b ps[j].args) → T true w told → Calls Tryz.prog 179 #[.pointer (some ⟨sk, 0, none⟩), .int .i64 ap] w (rQ vars fs ps ns head K sk T go b ap told w))
    (b : Bd) (told : List A) (w : World)
    (S : oP vars fs rn bs ps ns sk sb (.slice Ap ps.length cp) (.slice An ns.length cn) bp bn wt ah (.func (.func 116) #[] #[.pointer (some c5), .pointer (some c7)]) K b w)
    (c0 : ∀ j (h : j < ps.length), left.testBit j = false → vY b ps[j].args) (cq : T true w told) (hH : setB vars b wt = true → wV fs ns b = false) :
    Calls Tryz.prog 179 #[.pointer (some ⟨sk, 0, none⟩), .int .i64 left] w (rQ vars fs ps ns head K sk T go b left told w) := by
  have hl : left < 16 := Nat.lt_of_lt_of_le bX (Nat.pow_le_pow_right (by omega) E.p4 : 2 ^ ps.length ≤ 2 ^ 4);have c3 := rJ vars b sk sb _ _ wt false ah _ w S.sea S.at_;have c4 := fun w1 (a4 : Below w.heap.size w w1) => MS vars E.hv b fs rn bs ps Ap cp bp sk sb _ wt ah _ left w1 (S.below a4).sea (S.below a4).at_ (S.below a4).qK (S.below a4).pps E.pin (fun p hp => by have := mF (E.pok p hp); omega) E.p4 hl E.fl (SH left ps.length bX E.p4 cA)
  have c6 := fun (hs : setB vars b wt = true) w1 (a4 : Below w.heap.size w w1) => qp vars E.hv b S.ok fs rn bs ns An cn bn sk sb _ wt false ah _ w1 (S.below a4).sea (S.below a4).at_ (S.below a4).qK (S.below a4).pns E.nin (fun n hn => (sS (E.nok n hn) S.wds (((rP E.hv S.ok E.want E.hin E.nin).1 hs).2 n hn)).ok) E.nl
  have c8 := Lib.hid c6;have bR := Lib.hid c4;have U := Lib.hid S;have cv := Lib.hid c0;have cw := Lib.hid cq;have cx := Lib.hid IH;have a7 := Lib.hid hT;have ca := Lib.hid hH;have cQ : ¬ (left : Int) = 0 := by omega
  clear c6 c4 S c0 cq IH hT hH;generalize hsb : setB vars b wt = s at *;have cB := Lib.hid hsb
  go_enter Tryz.func179, Tryz.ntmps179
  go_wp2_with fail
  refine c3.mono ?_;rintro e w1 ⟨rfl, a4⟩;clear c3 hsb;cases s
  · have aD := Lib.hid a4
    have b6 := bR.out w1 a4;clear a4;clear bR c8 ca
    go_wp2_with fail
    refine b6.mono ?_;rintro e w3 ⟨m, A9, c9, y, bx, rfl, hC, b9⟩;have aq := Lib.hid (aD.out.trans (b9.mono aD.out.size));have HC := Lib.hid hC;have bc : Hid (jf w [.slice A9 (idxs fs y).length c9] (idxs fs y) bx) := Lib.hid (dB.keep hC.row fun x hx => (aq.out.block x (U.out.qK.lt x (hC.sub x hx))).symm);have hlen : (idxs fs y).length ≤ 1000000 := Nat.le_trans (lT _ _) E.fl;have a8 := hC.lt;have cb := E.p4
    have bh : Hid (fM vars fs ps ns head K sk T go b left m (idxs fs y) told [] false true 0 w w3) := Lib.hid ⟨bK.of_below U.out.sea.lt aq.out, U.out.at_.keep (aq.out.block _ U.out.sea.lt),
      by rw [List.append_nil]; exact a7.out.keep _ _ _ cw.out (cO.of_below aq.out U.out.sea.lt), fun t ht => by simp at ht, fun _ i hi => absurd hi (by omega), fun h => absurd h (by decide), fun h => absurd h (by decide)⟩
    clear b6 hC b9 aD;go_wp2
    go_loopw [9, 40] (fun held i wr => ∃ (k : Nat) (ts : List A) (hd : Bool), k ≤ (idxs fs y).length ∧ i = .int .i64 k ∧ held = .bool hd ∧ fM vars fs ps ns head K sk T go b left m (idxs fs y) told ts hd true k w wr) (fun _ i _ => (idxs fs y).length - (intOf i).toNat)
    case atStart => exact ⟨0, [], false, Nat.zero_le _, rfl, rfl, bh.out⟩
    case round =>
      obtain ⟨k, ts, hd, hk, rfl, rfl, hI⟩ := hrel;clear bh;by_cases a9 : k < (idxs fs y).length
      · obtain ⟨b8, o8, rfl, cc, e0⟩ := oM (hI.kept.keep dB bc.out fun x hx => U.out.kbs x (HC.out.sub x hx)) a9
        obtain ⟨ac, _⟩ := Dl.1 (List.getElem_mem a9);have cd := (U.out.sea.run hI.kept).io;have cD : (0 : Int) ≤ (k : Int) := by omega
        have cE : (k : Int) < ((idxs fs y).length : Int) := by omega
        have HI := Lib.hid hI;have ar := Lib.hid a9;clear hI hk cc;go_wp2
        go_quiet (fail)
        have hI : fM vars fs ps ns head K sk T go b left m (idxs fs y) told ts hd true k w (wr.drewN nq) := HI.out.drewN a7.out U.out.sea.lt;clear HI cd e0;generalize wr.drewN nq = wr at *;have S1 := U.out.kept hI.kept hI.at_ U.out.ok U.out.wds;obtain ⟨⟨Af, cf, Ar, cr, mu, mp, bf, br, Lu, Lp, g1, g2, _, _, _, _, _, _, _, _, aR, _⟩, _, _⟩ := S1.qK;obtain ⟨bq, oq, Ae, ce, bk, rfl, bi, f0, f1, ⟨vv, bj, ci, bl⟩, aE⟩ := wB S1.pps a8;simp only [List.cons.injEq, and_true, true_and] at bj;subst bj;obtain ⟨b7, o7, Ag, cg, bg, rfl, bo, d0, d1, bt, ae⟩ := dY g2 ac;have aa := E.fok _ (List.getElem_mem ac)
        have a0 := Dw vars E.hv b U.out.ok ps[m] fs[(idxs fs y)[k]] Ae Ag ce cg bk bg sk 18 wr.drew (S1.at_.keep rfl) ((bY vars).keep bl fun _ _ => rfl) (aN.keep (cZ bt) fun _ _ => rfl) (E.pin _ (List.getElem_mem a8)) (Fz (E.pok _ (List.getElem_mem a8)))
          (fun t ht => ⟨(aa.names t ht).1, rO (aa.names t ht).2⟩) (fun h => hK _ (S1.kbp _ (aE _ h)) rfl) (fun h => hK _ (S1.kbs _ (aR _ (ae _ h))) rfl) (by have := mF (E.pok _ (List.getElem_mem a8)); omega)
        have cj := Lib.hid (DF (a := ps[m]) U.out.wds fun t ht => (aa.names t ht).2);have b1 := Lib.hid (fun (w5 : World) (hok : jm vars (aF ps[m] fs[(idxs fs y)[k]] b).1) (ck : gG vars (aF ps[m] fs[(idxs fs y)[k]] b).1 sk 18 w5) => JX vars E.hv (aF ps[m] fs[(idxs fs y)[k]] b).1 hok b.length (tV _ _ _) sk 18 w5 ck);have bu := Lib.hid (uQ ps[m] fs[(idxs fs y)[k]] b);have bv : Hid (∀ w6, (aF ps[m] fs[(idxs fs y)[k]] b).2 = false → bK K sk wr w6 → gG vars b sk 18 w6 → T true w6 (told ++ ts) → fM vars fs ps ns head K sk T go b left m (idxs fs y) told ts hd true (k + 1) w w6) := Lib.hid fun w6 h1 h2 h3 h4 => hI.skip a9 ac a8 h1 h2 h3 h4
        have bw : Hid (∀ (w4 w5 w6 : World) (J I : Bool), (aF ps[m] fs[(idxs fs y)[k]] b).2 = true → iH vars fs ps ns head K sk T go (aF ps[m] fs[(idxs fs y)[k]] b).1 (left - 2 ^ m) (told ++ ts) J I w4 w5 → bK K sk wr w4 → bK K sk w5 w6 → gG vars b sk 18 w6 → (∀ b2, T I w5 b2 → T I w6 b2) → ∃ af, fM vars fs ps ns head K sk T go b left m (idxs fs y) told af (hd || J) I (k + 1) w w6) :=
          Lib.hid fun w4 w5 w6 J I h1 h2 h3 h4 h5 h6 => hI.took hl cb a9 ac aa.gr a8 HC.out.bit h1 h2 h3 h4 h5 h6
        have aL : Hid (∀ w4 : World, (aF ps[m] fs[(idxs fs y)[k]] b).2 = true → bK K sk wr w4 → gG vars (aF ps[m] fs[(idxs fs y)[k]] b).1 sk 18 w4 → jm vars (aF ps[m] fs[(idxs fs y)[k]] b).1 → T true w4 (told ++ ts) →
            Calls Tryz.prog 179 #[.pointer (some ⟨sk, 0, none⟩), .int .i64 ((left - 2 ^ m : Nat) : Int)] w4 (rQ vars fs ps ns head K sk T go (aF ps[m] fs[(idxs fs y)[k]] b).1 (left - 2 ^ m) (told ++ ts) w4)) :=
          Lib.hid fun w4 h1 h2 h3 h4 h5 => cx.out (left - 2 ^ m) (NR left m hl (by omega) HC.out.bit) _ _ _ (S1.kept h2 h3 h4 cj.out) (fun j hj bz => by
            by_cases e : j = m
            · subst e; exact (lK aa.gr h1).1
            · rw [wX left m j hl (by omega) (by omega) HC.out.bit] at bz
              have : left.testBit j = false := by simpa [e] using bz
              exact (mO _ _ _).Wp (cv.out j hj this)) h5
        have s0 := S1.sea.st;have s1 := S1.sea.p1;have bA : wr.cell? ⟨sk, 42, none⟩ = some (.int .i64 b.length) := S1.at_.ct;have ag : wr.cell? ⟨sb, 0, none⟩ = some (.slice (some ⟨b7, o7, none⟩) fs.length cf) := ai g1;have cG : (0 : Int) ≤ (m : Int) := by omega
        have cI : (m : Int) < (ps.length : Int) := by omega
        have cJ : (0 : Int) ≤ (((idxs fs y)[k] : Nat) : Int) := by omega
        have cK : (((idxs fs y)[k] : Nat) : Int) < (fs.length : Int) := by omega
        have cL := Fv left m hl (by omega) HC.out.bit;have bB : ∀ x ∈ bp, x < wr.heap.size ∧ x ≠ sk := fun x hx => ⟨(dD vars).lt S1.pps x hx, hK x (S1.kbp x hx)⟩
        have b3 : ∀ x ∈ bs, x < wr.heap.size ∧ x ≠ sk := fun x hx => ⟨S1.qK.lt x hx, hK x (S1.kbs x hx)⟩
        have n1 := bB bq bi;have n2 := b3 b7 (aR b7 bo);have n3 := b3 sb S1.qK.own;have HN := Lib.hid (And.intro n1 (And.intro n2 (And.intro n3 S1.sea.lt)));clear bB b3 n1 n2 n3;have bE := Lib.hid hI.st;have cP := Lib.hid U.out.sea.lt;have av := Lib.hid S1.sea.lt;clear hI S1 g1 g2 aR aE ae bt ci bl bi bo;generalize (idxs fs y)[k] = j at *;generalize fs[j] = f at *;generalize ps[m] = p at *;obtain ⟨pn, a1⟩ := p;obtain ⟨fn, a2⟩ := f;dsimp only at *;clear a9 ac a8 aa
        have aw : Hid (∀ w4 : World, cO sk 18 wr.drew w4 → w4.cell? ⟨sk, 0, none⟩ = some (.pointer (some ⟨sb, 0, none⟩)) ∧ w4.cell? ⟨sk, 1, none⟩ = some (.slice (some ⟨bq, oq, none⟩) ps.length cp) ∧ w4.cell? ⟨bq, oq + m * 2, none⟩ = some (.string pn) ∧ w4.cell? ⟨bq, oq + m * 2 + 1, none⟩ = some (.slice Ae a1.length ce) ∧ w4.cell? ⟨sb, 0, none⟩ = some (.slice (some ⟨b7, o7, none⟩) fs.length cf) ∧ w4.cell? ⟨b7, o7 + j * 2, none⟩ = some (.string fn) ∧ w4.cell? ⟨b7, o7 + j * 2 + 1, none⟩ = some (.slice Ag a2.length cg)) := Lib.hid fun w4 cl => by
          have h4 : cO sk 18 wr w4 := (cO.of_below ((Below.refl wr.heap.size wr).drew) HN.out.2.2.2).trans cl
          exact ⟨(h4.rest _ (by omega)).trans s0, (h4.rest _ (by omega)).trans s1, (World.cell?_of_block (h4.block (b := bq) HN.out.1.1 HN.out.1.2)).trans f0, (World.cell?_of_block (h4.block (b := bq) HN.out.1.1 HN.out.1.2)).trans f1,
            (World.cell?_of_block (h4.block (b := sb) HN.out.2.2.1.1 HN.out.2.2.1.2)).trans ag, (World.cell?_of_block (h4.block (b := b7) HN.out.2.1.1 HN.out.2.1.2)).trans d0, (World.cell?_of_block (h4.block (b := b7) HN.out.2.1.1 HN.out.2.1.2)).trans d1⟩
        generalize hM : aF ⟨pn, a1⟩ ⟨fn, a2⟩ b = M at *;obtain ⟨b', r⟩ := M;dsimp only at *;clear hM;cases r
        · go_wp2
          go_region_held3 (fun w' => w'.cell? ⟨sk, 0, none⟩ = some (.pointer (some ⟨sb, 0, none⟩)) ∧ w'.cell? ⟨sk, 1, none⟩ = some (.slice (some ⟨bq, oq, none⟩) ps.length cp) ∧ w'.cell? ⟨bq, oq + m * 2, none⟩ = some (.string pn) ∧ w'.cell? ⟨bq, oq + m * 2 + 1, none⟩ = some (.slice Ae a1.length ce) ∧ w'.cell? ⟨sb, 0, none⟩ = some (.slice (some ⟨b7, o7, none⟩) fs.length cf) ∧ w'.cell? ⟨b7, o7 + j * 2, none⟩ = some (.string fn) ∧ w'.cell? ⟨b7, o7 + j * 2 + 1, none⟩ = some (.slice Ag a2.length cg))
            (first | exact ⟨s0, s1, f0, f1, ag, d0, d1⟩ | exact am)
            (first | (go_at_call 154; refine a0.mono ?_; rintro e w4 ⟨rfl, a3⟩; have am := aw.out w4 a3.kept))
          all_goals
            have a5 := Lib.hid a3;have ab := b1.out w4 a3.ok a3.at_;clear a3 am aw;have az := Lib.hid ((bK.of_below (K := K) av.out ((Below.refl wr.heap.size wr).drew)).trans (bK.zk hK a5.out.kept));have b4 := Lib.hid (a7.out.keep _ _ _ (a7.out.keep wr wr.drew _ bE.out (cO.of_below ((Below.refl wr.heap.size wr).drew) av.out)) a5.out.kept);clear s0 s1 bA ag f0 f1 d0 d1 a0
            go_wp2_with fail
            refine ab.mono ?_;rintro e w6 ⟨rfl, a6⟩;rw [bu.out] at a6;have ao := Lib.hid (bv.out w6 (by trivial) (az.out.trans (bK.zk hK a6.kept)) a6.at_ (a7.out.keep _ _ _ b4.out a6.kept));clear a6 ab;cases hd
            all_goals
              go_wp2;go_roundw
              case rel => exact ⟨k + 1, ts, _, ar.out, by go_num, rfl, ao.out⟩
              case measure => have := ar.out; simp [intOf]; omega
        · go_wp2
          go_region_held3 (fun w' => w'.cell? ⟨sk, 0, none⟩ = some (.pointer (some ⟨sb, 0, none⟩)) ∧ w'.cell? ⟨sk, 1, none⟩ = some (.slice (some ⟨bq, oq, none⟩) ps.length cp) ∧ w'.cell? ⟨bq, oq + m * 2, none⟩ = some (.string pn) ∧ w'.cell? ⟨bq, oq + m * 2 + 1, none⟩ = some (.slice Ae a1.length ce) ∧ w'.cell? ⟨sb, 0, none⟩ = some (.slice (some ⟨b7, o7, none⟩) fs.length cf) ∧ w'.cell? ⟨b7, o7 + j * 2, none⟩ = some (.string fn) ∧ w'.cell? ⟨b7, o7 + j * 2 + 1, none⟩ = some (.slice Ag a2.length cg))
            (first | exact ⟨s0, s1, f0, f1, ag, d0, d1⟩ | exact am)
            (first | (go_at_call 154; refine a0.mono ?_; rintro e w4 ⟨rfl, a3⟩; have am := aw.out w4 a3.kept))
          all_goals
            have a5 := Lib.hid a3;clear a3 am aw;have az := Lib.hid ((bK.of_below (K := K) av.out ((Below.refl wr.heap.size wr).drew)).trans (bK.zk hK a5.out.kept));have b4 := Lib.hid (a7.out.keep _ _ _ (a7.out.keep wr wr.drew _ bE.out (cO.of_below ((Below.refl wr.heap.size wr).drew) av.out)) a5.out.kept);have aM := aL.out w4 (by trivial) az.out a5.out.at_ a5.out.ok b4.out;clear s0 s1 bA ag f0 f1 d0 d1 a0
            go_wp2_with fail
            refine aM.mono ?_;rintro e w5 ⟨J, I, rfl, b5⟩;have ab := b1.out w5 a5.out.ok (iH.bd b5);have bL := Lib.hid b5;clear aM b5;have cm : Hid (∀ w6, jq vars sk 18 w5 b w6 → ∃ af, fM vars fs ps ns head K sk T go b left m (idxs fs y) told af (hd || J) I (k + 1) w w6) := Lib.hid fun w6 h6 => bw.out w4 w5 w6 J I (by trivial) bL.out az.out (bK.zk hK h6.kept) h6.at_ fun b2 co => a7.out.keep _ _ _ co h6.kept
            rw [bu.out] at ab;clear bw aL b1 bv bL
            cases hd <;> cases J <;> cases I
            all_goals
              go_wp2_with fail
              refine ab.mono ?_;rintro e w6 ⟨rfl, a6⟩;obtain ⟨af, bO⟩ := cm.out w6 a6;have ao := Lib.hid bO;clear a6 ab bO;go_wp2
              first
                | (go_ret2; exact ao.out.off.ret)
                | (go_roundw
                   case rel => exact ⟨k + 1, af, _, ar.out, by go_num, rfl, ao.out⟩
                   case measure => have := ar.out; simp [intOf]; omega)
      · have he : ¬ (k : Int) < ((idxs fs y).length : Int) := by omega
        have HF := Lib.hid (hI.fin E HC.out rfl (by omega));clear hI;go_wp2;go_ret2;exact HF.out.ret
  · have hh := c8.out rfl w1 a4
    rw [ca.out rfl] at hh;have cy := Lib.hid ((rP E.hv U.out.ok E.want E.hin E.nin).1 cB.out).1
    go_wp2_with fail
    refine hh.mono ?_;rintro e w2 ⟨rfl, cz⟩;have aD := Lib.hid (a4.trans (cz.mono a4.size));have b6 := bR.out w2 aD.out;clear a4 cz hh;clear bR c8 ca
    go_wp2_with fail
    refine b6.mono ?_;rintro e w3 ⟨m, A9, c9, y, bx, rfl, hC, b9⟩;have aq := Lib.hid (aD.out.trans (b9.mono aD.out.size));have HC := Lib.hid hC;have bc : Hid (jf w [.slice A9 (idxs fs y).length c9] (idxs fs y) bx) := Lib.hid (dB.keep hC.row fun x hx => (aq.out.block x (U.out.qK.lt x (hC.sub x hx))).symm);have hlen : (idxs fs y).length ≤ 1000000 := Nat.le_trans (lT _ _) E.fl;have a8 := hC.lt;have cb := E.p4
    have bh : Hid (fM vars fs ps ns head K sk T go b left m (idxs fs y) told [] false true 0 w w3) := Lib.hid ⟨bK.of_below U.out.sea.lt aq.out, U.out.at_.keep (aq.out.block _ U.out.sea.lt),
      by rw [List.append_nil]; exact a7.out.keep _ _ _ cw.out (cO.of_below aq.out U.out.sea.lt), fun t ht => by simp at ht, fun _ i hi => absurd hi (by omega), fun h => absurd h (by decide), fun h => absurd h (by decide)⟩
    clear b6 hC b9 aD;go_wp2
    go_loopw [9, 40] (fun held i wr => ∃ (k : Nat) (ts : List A), k ≤ (idxs fs y).length ∧ i = .int .i64 k ∧ held = .bool false ∧ fM vars fs ps ns head K sk T go b left m (idxs fs y) told ts false true k w wr) (fun _ i _ => (idxs fs y).length - (intOf i).toNat)
    case atStart => exact ⟨0, [], Nat.zero_le _, rfl, rfl, bh.out⟩
    case round =>
      obtain ⟨k, ts, hk, rfl, rfl, hI⟩ := hrel;clear bh;by_cases a9 : k < (idxs fs y).length
      · obtain ⟨b8, o8, rfl, cc, e0⟩ := oM (hI.kept.keep dB bc.out fun x hx => U.out.kbs x (HC.out.sub x hx)) a9
        obtain ⟨ac, _⟩ := Dl.1 (List.getElem_mem a9);have cd := (U.out.sea.run hI.kept).io;have cD : (0 : Int) ≤ (k : Int) := by omega
        have cE : (k : Int) < ((idxs fs y).length : Int) := by omega
        have HI := Lib.hid hI;have ar := Lib.hid a9;clear hI hk cc;go_wp2
        go_quiet (fail)
        have hI : fM vars fs ps ns head K sk T go b left m (idxs fs y) told ts false true k w (wr.drewN nq) := HI.out.drewN a7.out U.out.sea.lt;clear HI cd e0;generalize wr.drewN nq = wr at *;have S1 := U.out.kept hI.kept hI.at_ U.out.ok U.out.wds;obtain ⟨⟨Af, cf, Ar, cr, mu, mp, bf, br, Lu, Lp, g1, g2, _, _, _, _, _, _, _, _, aR, _⟩, _, _⟩ := S1.qK;obtain ⟨bq, oq, Ae, ce, bk, rfl, bi, f0, f1, ⟨vv, bj, ci, bl⟩, aE⟩ := wB S1.pps a8;simp only [List.cons.injEq, and_true, true_and] at bj;subst bj;obtain ⟨b7, o7, Ag, cg, bg, rfl, bo, d0, d1, bt, ae⟩ := dY g2 ac;have aa := E.fok _ (List.getElem_mem ac)
        have a0 := Dw vars E.hv b U.out.ok ps[m] fs[(idxs fs y)[k]] Ae Ag ce cg bk bg sk 18 wr.drew (S1.at_.keep rfl) ((bY vars).keep bl fun _ _ => rfl) (aN.keep (cZ bt) fun _ _ => rfl) (E.pin _ (List.getElem_mem a8)) (Fz (E.pok _ (List.getElem_mem a8)))
          (fun t ht => ⟨(aa.names t ht).1, rO (aa.names t ht).2⟩) (fun h => hK _ (S1.kbp _ (aE _ h)) rfl) (fun h => hK _ (S1.kbs _ (aR _ (ae _ h))) rfl) (by have := mF (E.pok _ (List.getElem_mem a8)); omega)
        have cj := Lib.hid (DF (a := ps[m]) U.out.wds fun t ht => (aa.names t ht).2);have b1 := Lib.hid (fun (w5 : World) (hok : jm vars (aF ps[m] fs[(idxs fs y)[k]] b).1) (ck : gG vars (aF ps[m] fs[(idxs fs y)[k]] b).1 sk 18 w5) => JX vars E.hv (aF ps[m] fs[(idxs fs y)[k]] b).1 hok b.length (tV _ _ _) sk 18 w5 ck);have bu := Lib.hid (uQ ps[m] fs[(idxs fs y)[k]] b);have bv : Hid (∀ w6, (aF ps[m] fs[(idxs fs y)[k]] b).2 = false → bK K sk wr w6 → gG vars b sk 18 w6 → T true w6 (told ++ ts) → fM vars fs ps ns head K sk T go b left m (idxs fs y) told ts false true (k + 1) w w6) := Lib.hid fun w6 h1 h2 h3 h4 => hI.skip a9 ac a8 h1 h2 h3 h4
        have bw : Hid (∀ (w4 w5 w6 : World) (J I : Bool), (aF ps[m] fs[(idxs fs y)[k]] b).2 = true → iH vars fs ps ns head K sk T go (aF ps[m] fs[(idxs fs y)[k]] b).1 (left - 2 ^ m) (told ++ ts) J I w4 w5 → bK K sk wr w4 → bK K sk w5 w6 → gG vars b sk 18 w6 → (∀ b2, T I w5 b2 → T I w6 b2) → ∃ af, fM vars fs ps ns head K sk T go b left m (idxs fs y) told af (false || J) I (k + 1) w w6) :=
          Lib.hid fun w4 w5 w6 J I h1 h2 h3 h4 h5 h6 => hI.took hl cb a9 ac aa.gr a8 HC.out.bit h1 h2 h3 h4 h5 h6
        have aL : Hid (∀ w4 : World, (aF ps[m] fs[(idxs fs y)[k]] b).2 = true → bK K sk wr w4 → gG vars (aF ps[m] fs[(idxs fs y)[k]] b).1 sk 18 w4 → jm vars (aF ps[m] fs[(idxs fs y)[k]] b).1 → T true w4 (told ++ ts) →
            Calls Tryz.prog 179 #[.pointer (some ⟨sk, 0, none⟩), .int .i64 ((left - 2 ^ m : Nat) : Int)] w4 (rQ vars fs ps ns head K sk T go (aF ps[m] fs[(idxs fs y)[k]] b).1 (left - 2 ^ m) (told ++ ts) w4)) :=
          Lib.hid fun w4 h1 h2 h3 h4 h5 => cx.out (left - 2 ^ m) (NR left m hl (by omega) HC.out.bit) _ _ _ (S1.kept h2 h3 h4 cj.out) (fun j hj bz => by
            by_cases e : j = m
            · subst e; exact (lK aa.gr h1).1
            · rw [wX left m j hl (by omega) (by omega) HC.out.bit] at bz
              have : left.testBit j = false := by simpa [e] using bz
              exact (mO _ _ _).Wp (cv.out j hj this)) h5
        have s0 := S1.sea.st;have s1 := S1.sea.p1;have bA : wr.cell? ⟨sk, 42, none⟩ = some (.int .i64 b.length) := S1.at_.ct;have ag : wr.cell? ⟨sb, 0, none⟩ = some (.slice (some ⟨b7, o7, none⟩) fs.length cf) := ai g1;have cG : (0 : Int) ≤ (m : Int) := by omega
        have cI : (m : Int) < (ps.length : Int) := by omega
        have cJ : (0 : Int) ≤ (((idxs fs y)[k] : Nat) : Int) := by omega
        have cK : (((idxs fs y)[k] : Nat) : Int) < (fs.length : Int) := by omega
        have cL := Fv left m hl (by omega) HC.out.bit;have bB : ∀ x ∈ bp, x < wr.heap.size ∧ x ≠ sk := fun x hx => ⟨(dD vars).lt S1.pps x hx, hK x (S1.kbp x hx)⟩
        have b3 : ∀ x ∈ bs, x < wr.heap.size ∧ x ≠ sk := fun x hx => ⟨S1.qK.lt x hx, hK x (S1.kbs x hx)⟩
        have n1 := bB bq bi;have n2 := b3 b7 (aR b7 bo);have n3 := b3 sb S1.qK.own;have HN := Lib.hid (And.intro n1 (And.intro n2 (And.intro n3 S1.sea.lt)));clear bB b3 n1 n2 n3;have bE := Lib.hid hI.st;have cP := Lib.hid U.out.sea.lt;have av := Lib.hid S1.sea.lt;clear hI S1 g1 g2 aR aE ae bt ci bl bi bo;generalize (idxs fs y)[k] = j at *;generalize fs[j] = f at *;generalize ps[m] = p at *;obtain ⟨pn, a1⟩ := p;obtain ⟨fn, a2⟩ := f;dsimp only at *;clear a9 ac a8 aa
        have aw : Hid (∀ w4 : World, cO sk 18 wr.drew w4 → w4.cell? ⟨sk, 0, none⟩ = some (.pointer (some ⟨sb, 0, none⟩)) ∧ w4.cell? ⟨sk, 1, none⟩ = some (.slice (some ⟨bq, oq, none⟩) ps.length cp) ∧ w4.cell? ⟨bq, oq + m * 2, none⟩ = some (.string pn) ∧ w4.cell? ⟨bq, oq + m * 2 + 1, none⟩ = some (.slice Ae a1.length ce) ∧ w4.cell? ⟨sb, 0, none⟩ = some (.slice (some ⟨b7, o7, none⟩) fs.length cf) ∧ w4.cell? ⟨b7, o7 + j * 2, none⟩ = some (.string fn) ∧ w4.cell? ⟨b7, o7 + j * 2 + 1, none⟩ = some (.slice Ag a2.length cg)) := Lib.hid fun w4 cl => by
          have h4 : cO sk 18 wr w4 := (cO.of_below ((Below.refl wr.heap.size wr).drew) HN.out.2.2.2).trans cl
          exact ⟨(h4.rest _ (by omega)).trans s0, (h4.rest _ (by omega)).trans s1, (World.cell?_of_block (h4.block (b := bq) HN.out.1.1 HN.out.1.2)).trans f0, (World.cell?_of_block (h4.block (b := bq) HN.out.1.1 HN.out.1.2)).trans f1,
            (World.cell?_of_block (h4.block (b := sb) HN.out.2.2.1.1 HN.out.2.2.1.2)).trans ag, (World.cell?_of_block (h4.block (b := b7) HN.out.2.1.1 HN.out.2.1.2)).trans d0, (World.cell?_of_block (h4.block (b := b7) HN.out.2.1.1 HN.out.2.1.2)).trans d1⟩
        generalize hM : aF ⟨pn, a1⟩ ⟨fn, a2⟩ b = M at *;obtain ⟨b', r⟩ := M;dsimp only at *;clear hM;cases r
        · go_wp2
          go_region_held3 (fun w' => w'.cell? ⟨sk, 0, none⟩ = some (.pointer (some ⟨sb, 0, none⟩)) ∧ w'.cell? ⟨sk, 1, none⟩ = some (.slice (some ⟨bq, oq, none⟩) ps.length cp) ∧ w'.cell? ⟨bq, oq + m * 2, none⟩ = some (.string pn) ∧ w'.cell? ⟨bq, oq + m * 2 + 1, none⟩ = some (.slice Ae a1.length ce) ∧ w'.cell? ⟨sb, 0, none⟩ = some (.slice (some ⟨b7, o7, none⟩) fs.length cf) ∧ w'.cell? ⟨b7, o7 + j * 2, none⟩ = some (.string fn) ∧ w'.cell? ⟨b7, o7 + j * 2 + 1, none⟩ = some (.slice Ag a2.length cg))
            (first | exact ⟨s0, s1, f0, f1, ag, d0, d1⟩ | exact am)
            (first | (go_at_call 154; refine a0.mono ?_; rintro e w4 ⟨rfl, a3⟩; have am := aw.out w4 a3.kept))
          all_goals
            have a5 := Lib.hid a3;have ab := b1.out w4 a3.ok a3.at_;clear a3 am aw;have az := Lib.hid ((bK.of_below (K := K) av.out ((Below.refl wr.heap.size wr).drew)).trans (bK.zk hK a5.out.kept));have b4 := Lib.hid (a7.out.keep _ _ _ (a7.out.keep wr wr.drew _ bE.out (cO.of_below ((Below.refl wr.heap.size wr).drew) av.out)) a5.out.kept);clear s0 s1 bA ag f0 f1 d0 d1 a0
            go_wp2_with fail
            refine ab.mono ?_;rintro e w6 ⟨rfl, a6⟩;rw [bu.out] at a6;have ao := Lib.hid (bv.out w6 (by trivial) (az.out.trans (bK.zk hK a6.kept)) a6.at_ (a7.out.keep _ _ _ b4.out a6.kept));clear a6 ab;go_wp2;go_roundw
            case rel => exact ⟨k + 1, ts, ar.out, by go_num, rfl, ao.out⟩
            case measure => have := ar.out; simp [intOf]; omega
        · go_wp2
          go_region_held3 (fun w' => w'.cell? ⟨sk, 0, none⟩ = some (.pointer (some ⟨sb, 0, none⟩)) ∧ w'.cell? ⟨sk, 1, none⟩ = some (.slice (some ⟨bq, oq, none⟩) ps.length cp) ∧ w'.cell? ⟨bq, oq + m * 2, none⟩ = some (.string pn) ∧ w'.cell? ⟨bq, oq + m * 2 + 1, none⟩ = some (.slice Ae a1.length ce) ∧ w'.cell? ⟨sb, 0, none⟩ = some (.slice (some ⟨b7, o7, none⟩) fs.length cf) ∧ w'.cell? ⟨b7, o7 + j * 2, none⟩ = some (.string fn) ∧ w'.cell? ⟨b7, o7 + j * 2 + 1, none⟩ = some (.slice Ag a2.length cg))
            (first | exact ⟨s0, s1, f0, f1, ag, d0, d1⟩ | exact am)
            (first | (go_at_call 154; refine a0.mono ?_; rintro e w4 ⟨rfl, a3⟩; have am := aw.out w4 a3.kept))
          all_goals
            have a5 := Lib.hid a3;clear a3 am aw;have az := Lib.hid ((bK.of_below (K := K) av.out ((Below.refl wr.heap.size wr).drew)).trans (bK.zk hK a5.out.kept));have b4 := Lib.hid (a7.out.keep _ _ _ (a7.out.keep wr wr.drew _ bE.out (cO.of_below ((Below.refl wr.heap.size wr).drew) av.out)) a5.out.kept);have aM := aL.out w4 (by trivial) az.out a5.out.at_ a5.out.ok b4.out;clear s0 s1 bA ag f0 f1 d0 d1 a0
            go_wp2_with fail
            refine aM.mono ?_;rintro e w5 ⟨J, I, rfl, b5⟩;have ab := b1.out w5 a5.out.ok (iH.bd b5);have bL := Lib.hid b5;clear aM b5;have cm : Hid (∀ w6, jq vars sk 18 w5 b w6 → ∃ af, fM vars fs ps ns head K sk T go b left m (idxs fs y) told af (false || J) I (k + 1) w w6) := Lib.hid fun w6 h6 => bw.out w4 w5 w6 J I (by trivial) bL.out az.out (bK.zk hK h6.kept) h6.at_ fun b2 co => a7.out.keep _ _ _ co h6.kept
            rw [bu.out] at ab;clear bw aL b1 bv bL
            cases J <;> cases I
            all_goals
              go_wp2_with fail
              refine ab.mono ?_;rintro e w6 ⟨rfl, a6⟩;obtain ⟨af, bO⟩ := cm.out w6 a6;have ao := Lib.hid bO;clear a6 ab bO;go_wp2
              first
                | (go_ret2; exact ao.out.off.ret)
                | (go_roundw
                   case rel => exact ⟨k + 1, af, ar.out, by go_num, rfl, ao.out⟩
                   case measure => have := ar.out; simp [intOf]; omega)
                | (go_ret2; exact (ao.out.brk cy.out).ret)
      · have he : ¬ (k : Int) < ((idxs fs y).length : Int) := by omega
        have HF := Lib.hid (hI.fin E HC.out rfl (by omega));clear hI;go_wp2;go_ret2;exact HF.out.ret
end
end
end Go.Proofs.YtkjinanbccloeaaGreatDoor
