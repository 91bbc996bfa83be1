/- Of the proof of FnExactDelta: jy, RunI. -/
import Derived.Test.YtiidmgchadagbaaGreatDoorM37
set_option linter.unusedVariables false
set_option maxHeartbeats 8000000
set_option maxRecDepth 100000
namespace Go.Proofs.YtiidmgchadagbaaGreatDoor
open Go.RowKit D
def D.jy (B sb mu mp:Nat) (Fb:Nat→Prop) (fr:List Nat) (fs:List A) (rn:List Nat) (w:World):Prop:=
 ∃ Af cf Lf Ar cr Lr ou bf,kZ B sb mu mp Af fs.length cf Lf fs bf Ar rn.length cr Lr rn (zf fs) (idxs fs) ou w∧(∀ x ∈ bf,Fb x)∧∀ x ∈ fr,Free B sb mu mp (.slice Af fs.length cf) (.slice Ar rn.length cr) ou x∧x < w.heap.size
section
variable {B sb mu mp:Nat} {Fb:Nat→Prop} {fr:List Nat} {fs:List A} {rn:List Nat} {w w':World}
theorem D.kZ.fresh {Af:Option Addr} {nf cf:Nat} {Lf:List Value} {bf:List Nat} {Ar:Option Addr} {nr cr:Nat} {Lr:List Value} {Lp:List (Value × Value)} {G:WK→List Nat} {ou:List Nat} (h:kZ B sb mu mp Af nf cf Lf fs bf Ar nr cr Lr rn Lp G ou w) {x:Nat} (hx:w.heap.size≤x):Free B sb mu mp (.slice Af nf cf) (.slice Ar nr cr) ou x:=by
 obtain ⟨l1,l2,l3,_⟩:=h.lo;have hs:=h.pX;exact ⟨fun e=>by have:=(bD h.cF.own e).2; omega,fun e=>by have:=(bD h.cR.own e).2; omega,fun e=>by have:=(h.ous x e).2; omega,by omega⟩
theorem D.jy.more (h:jy B sb mu mp Fb fr fs rn w) (hk:Below w.heap.size w w') (xs:List Nat) (hx:∀ x ∈ xs,w.heap.size≤x∧x < w'.heap.size):jy B sb mu mp Fb (fr ++ xs) fs rn w':=by
 obtain ⟨Af,cf,Lf,Ar,cr,Lr,ou,bf,S,h1,h2⟩:=h;refine ⟨Af,cf,Lf,Ar,cr,Lr,ou,bf,S.later hk,h1,fun x hx'=>?_⟩
 rcases List.mem_append.1 hx' with g | g
 ·exact ⟨(h2 x g).1,Nat.lt_of_lt_of_le (h2 x g).2 hk.size⟩
 ·exact ⟨S.fresh (hx x g).1,(hx x g).2⟩
theorem D.jy.later (h:jy B sb mu mp Fb fr fs rn w) (hk:Below w.heap.size w w'):jy B sb mu mp Fb fr fs rn w':=by
 have:=h.more hk [] (fun x hx=>by simp at hx);simpa using this
theorem D.jy.sub (h:jy B sb mu mp Fb fr fs rn w) {fr':List Nat} (hs:∀ x ∈ fr',x ∈ fr):jy B sb mu mp Fb fr' fs rn w:=by
 obtain ⟨Af,cf,Lf,Ar,cr,Lr,ou,bf,S,h1,h2⟩:=h;exact ⟨Af,cf,Lf,Ar,cr,Lr,ou,bf,S,h1,fun x hx=>h2 x (hs x hx)⟩
theorem D.jy.mono (h:jy B sb mu mp Fb fr fs rn w) {Fb':Nat→Prop} (hs:∀ x,Fb x→x < w.heap.size→Fb' x):jy B sb mu mp Fb' fr fs rn w:=by
 obtain ⟨Af,cf,Lf,Ar,cr,Lr,ou,bf,S,h1,h2⟩:=h;exact ⟨Af,cf,Lf,Ar,cr,Lr,ou,bf,S,fun x hx=>hs x (h1 x hx) (S.cF.row.lt aj x hx),h2⟩
theorem D.jy.other (h:jy B sb mu mp Fb fr fs rn w) {c:Nat} (hc:c ∈ fr) (hb:¬ Fb c) (hs:w.heap.size≤w'.heap.size) (hk:∀ k,k < w.heap.size→k ≠ c→w'.heap[k]? = w.heap[k]?):jy B sb mu mp Fb fr fs rn w':=by
 obtain ⟨Af,cf,Lf,Ar,cr,Lr,ou,bf,S,h1,h2⟩:=h;obtain ⟨l1,l2,l3,_⟩:=S.lo;have hz:=S.pX;obtain ⟨f,r,u,s⟩:=(h2 c hc).1
 refine ⟨Af,cf,Lf,Ar,cr,Lr,ou,bf,⟨(hk sb (by omega) (by omega)).trans S.blk,S.ef,S.er,S.cF.mX aj (fun x hx=>hk x (bD S.cF.own hx).2 (fun e=>f (e ▸ hx))) (fun x hx=>hk x (S.cF.row.lt aj x hx) (fun e=>hb (e ▸ h1 x hx))),
  S.cR.mX iW (fun x hx=>hk x (bD S.cR.own hx).2 (fun e=>r (e ▸ hx))) (fun x hx=>by simp at hx),S.un.keep (hk mu (by omega) (by omega)) (fun x hx=>hk x (S.ous x hx).2 (fun e=>u (e ▸ hx))),S.pl.same (hk mp (by omega) (by omega)),S.dFR,S.dF,S.dR,S.bfs,S.lo,
  fun x hx=>⟨(S.ous x hx).1,Nat.lt_of_lt_of_le (S.ous x hx).2 hs⟩,Nat.le_trans hz hs⟩,h1,fun x hx=>⟨(h2 x hx).1,Nat.lt_of_lt_of_le (h2 x hx).2 hs⟩⟩
theorem D.jy.view (h:jy B sb mu mp Fb fr fs rn w):∃ bs,kE sb fs rn bs w:=by
 obtain ⟨Af,cf,Lf,Ar,cr,Lr,ou,bf,S,h1,h2⟩:=h;obtain ⟨bs,g,_⟩:=S.view 0 (by omega);exact ⟨bs,g⟩
theorem D.jy.lt (h:jy B sb mu mp Fb fr fs rn w):B≤w.heap.size∧sb < B∧∀ x ∈ fr,x < w.heap.size:=by
 obtain ⟨Af,cf,Lf,Ar,cr,Lr,ou,bf,S,h1,h2⟩:=h;exact ⟨S.pX,S.lo.1,fun x hx=>(h2 x hx).2⟩
theorem Vr (h:jy B sb mu mp Fb fr fs rn w) {a:A} {c1:Value} {ba:List Nat} (ha:aU w [.string a.name,c1] a ba) (hba:∀ x ∈ ba,x ∈ fr) (hFb:∀ x ∈ ba,Fb x) (hfs:∀ f ∈ fs,aX f) (hok:aX a) (hno:a ∉ fs) (hfl:fs.length≤1000000) (hrl:rn.length≤1000000) (rd B0:Nat) (hB0:B0≤sb∧B0≤mu∧B0≤mp∧B0≤B):
  Calls Tryz.prog 75 #[.pointer (some ⟨sb,0,none⟩),.agg #[.string a.name,c1],.int .i64 rd] w fun e w'=>e=.returned (.tuple #[])∧Below B0 w w'∧jy B sb mu mp Fb fr (fs ++ [a]) (rn ++ [rd]) w'∧∀ x ∈ fr,w'.heap[x]? = w.heap[x]?:=by
 obtain ⟨Af,cf,Lf,Ar,cr,Lr,ou,bf,S,h1,h2⟩:=h;refine (put_any B sb mu mp Af cf Lf fs bf Ar cr Lr rn (zf fs) ou a c1 ba fr rd w S ha hba (fun x hx=>(h2 x hx).1) (fun x hx=>(h2 x hx).2) hok.ok (KG hfs hok hno) hfl hrl B0 hB0).mono ?_;rintro e w' ⟨rfl,hb,Af',cf',Lf',Ar',cr',Lr',ou',S',hfr⟩;refine ⟨rfl,hb,⟨Af',cf',Lf',Ar',cr',Lr',ou',bf ++ ba,?_,fun x hx=>(List.mem_append.1 hx).elim (h1 x) (hFb x),fun x hx=>⟨?_,Nat.lt_of_lt_of_le (h2 x hx).2 hb.size⟩⟩,fun x hx=>(hfr x hx).2⟩
 ·rw [FK,List.length_append,List.length_append]; exact S'
 ·have:=(hfr x hx).1
  rw [List.length_append,List.length_append]; exact this
end
theorem D.Hq.rY {xs:List A} {bx:List Nat} {w0 w:World} (h:Hq xs bx w0 xs.length w) (hlt:∀ x ∈ bx,x < w0.heap.size):Below w0.heap.size w0 w∧jy (w0.heap.size+3) (w0.heap.size+2) w0.heap.size (w0.heap.size+1) (fun x=>x ∈ bx) [] xs (List.replicate xs.length 0) w:=by
 obtain ⟨h1,Af,cf,Lf,Ar,cr,Lr,ou,bf,S,h2⟩:=h.all;exact ⟨h1,Af,cf,Lf,Ar,cr,Lr,ou,bf,S,h2,fun x hx=>by simp at hx⟩
end Go.Proofs.YtiidmgchadagbaaGreatDoor
namespace Go.Proofs.YtiidmgchadagbaaGreatDoor
open Go.RowKit D
attribute [local go_sem ↓] Go.wp_at_zero Go.wp_at_succ
section
variable (vars:List ByteArray) (fs:List A) (rn:List Nat) (bs:List Nat) (ps ns:List A) (head:A) (sk sb:Nat) (Ap:Option Addr) (cp:Nat) (An:Option Addr) (cn:Nat) (bp bn:List Nat) (wt:Nat→Bool) (ah:Int) (c5 c7:Addr) (K:Nat→Prop) (T:Bool→World→List A→Prop) (go:List A→Bool)
theorem run_stop (E:rH vars fs ps ns head wt) (hK:∀ k,K k→k ≠ sk) (hT:wL vars head sk K c5 c7 T go) (left:Nat) (b:Bd) (told:List A) (w:World)
  (S:qw vars fs rn bs ps ns sk sb (.slice Ap ps.length cp) (.slice An ns.length cn) bp bn wt ah (.func (.func 142) #[] #[.pointer (some c5),.pointer (some c7)]) K b w)
  (hTw:T true w told) (hS:setB vars b wt=true) (hH:yw fs ns b=true):
  Calls Tryz.prog 179 #[.pointer (some ⟨sk,0,none⟩),.int .i64 left] w (uy vars fs ps ns head K sk T go b left told w):=by
 have hcov:=(uw E.hv S.ok E.want E.hin E.nin).1 hS;have hset:=um vars b sk sb _ _ wt false ah _ w S.sea S.at_;rw [hS] at hset;have hhin:=fun w1 (hb1:Below w.heap.size w w1)=>rE vars E.hv b S.ok fs rn bs ns An cn bn sk sb _ wt false ah _ w1 (S.below hb1).sea (S.below hb1).at_ (S.below hb1).rY (S.below hb1).pns E.nin (fun n hn=>(uP (E.nok n hn) S.wds (hcov.2 n hn)).ok) E.nl
 rw [hH] at hhin
 have HPO:Hid (∀ w2,Below w.heap.size w w2→jc vars fs ps ns head K sk T go b left told false true w w2):=η fun w2 hb=>⟨[],bV.of_below S.sea.lt hb,S.at_.keep (hb.block _ S.sea.lt),
  by rw [List.append_nil]; exact hT.keep _ _ _ hTw (dD.of_below hb S.sea.lt),fun t ht=>by simp at ht,fun _ σ hσ=>absurd hσ (TN E S.wds hcov.2 hH σ),fun h=>by simp at h,fun h=>by simp at h⟩
 have HHI:=η hhin;clear hhin S hcov hTw hT
 go_enter Tryz.func179,Tryz.ntmps179
 go_wp2_with fail
 refine hset.mono ?_;rintro e w1 ⟨rfl,hb1⟩;have hh:=HHI.out w1 hb1
 go_wp2_with fail
 refine hh.mono ?_;rintro e w2 ⟨rfl,hb2⟩;have HD:=η (HPO.out w2 (hb1.trans (hb2.mono hb1.size)));clear hset hh hb1 hb2 HPO HHI;go_wp2;go_ret2;exact HD.out.ret
theorem Uc (E:rH vars fs ps ns head wt) (hK:∀ k,K k→k ≠ sk) (hT:wL vars head sk K c5 c7 T go) (b:Bd) (told:List A) (w:World)
  (S:qw vars fs rn bs ps ns sk sb (.slice Ap ps.length cp) (.slice An ns.length cn) bp bn wt ah (.func (.func 142) #[] #[.pointer (some c5),.pointer (some c7)]) K b w)
  (hcov:∀ p ∈ ps,xK b p.args) (hTw:T true w told) (hH:yw fs ns b=false):
  Calls Tryz.prog 179 #[.pointer (some ⟨sk,0,none⟩),.int .i64 ((0:Nat):Int)] w (uy vars fs ps ns head K sk T go b 0 told w):=by
 have hcv:=E.tight b hcov;have hS:=(uw E.hv S.ok E.want E.hin E.nin).2 hcv;have hset:=um vars b sk sb _ _ wt false ah _ w S.sea S.at_;rw [hS] at hset;have hhin:=fun w1 (hb1:Below w.heap.size w w1)=>rE vars E.hv b S.ok fs rn bs ns An cn bn sk sb _ wt false ah _ w1 (S.below hb1).sea (S.below hb1).at_ (S.below hb1).rY (S.below hb1).pns E.nin (fun n hn=>(uP (E.nok n hn) S.wds (hcv.2 n hn)).ok) E.nl
 rw [hH] at hhin;have htl:=fun w2 (hb:Below w.heap.size w w2)=>hT.call w2.drew b told S.ok S.wds hcv.1 (S.at_.keep ((hb.block _ S.sea.lt))) (hT.keep _ _ _ hTw (dD.of_below hb.drew S.sea.lt))
 have HPO:Hid (∀ w2 w3:World,Below w.heap.size w w2→T (go (told ++ [bY head b])) w3 (told ++ [bY head b])→bV K sk w2.drew w3→w3.heap[sk]? = w2.drew.heap[sk]?→jc vars fs ps ns head K sk T go b 0 told true (go (told ++ [bY head b])) w w3):=η fun w2 w3 hb h1 h2 h3=>
  ⟨[bY head b],(bV.of_below S.sea.lt hb.drew).trans h2,(S.at_.keep (hb.block _ S.sea.lt)).keep h3,h1,fun t ht=>by
   rw [List.mem_singleton.1 ht]
   exact ⟨ji b,⟨GN b,fun j _ hj=>by simp at hj,fun n hn=>by rw [← xO]; exact TP E S.wds hcv.2 hH n hn⟩,(xO _ _).symm⟩,
   fun _ σ hσ=>by rw [← jY hcv.1 hσ.1]; exact List.mem_singleton_self _,fun _=>by simp,fun h=>h⟩
 have HHI:=η hhin;have HTL:=η htl;have HSEA:=η S.sea;clear hhin htl S hcv hTw hT hcov
 go_enter Tryz.func179,Tryz.ntmps179
 go_wp2_with fail
 refine hset.mono ?_;rintro e w1 ⟨rfl,hb1⟩;have hh:=HHI.out w1 hb1
 go_wp2_with fail
 refine hh.mono ?_;rintro e w2 ⟨rfl,hb2⟩;have HB:=η (hb1.trans (hb2.mono hb1.size));have HT2:=η (HTL.out w2 HB.out);have s0:=(HSEA.out.keep (HB.out.block _ HSEA.out.lt)).tl;clear hset hh hb1 hb2 HHI HTL;go_wp2
 go_region_law
  (first
   | (go_simp; go_at_call 142; refine HT2.out.mono ?_; rintro e w3 ⟨rfl,h31,h32,h33⟩; have HD:=η (HPO.out w2 w3 HB.out h31 h32 h33); clear h31 h32 h33))
 all_goals
  clear s0 HT2 HPO HSEA;go_wp2;go_ret2;exact HD.out.ret
theorem KJ (E : rH vars fs ps ns head wt) (hK : ∀ k, K k → k ≠ sk) (hT : wL vars head sk K c5 c7 T go) (left : Nat) (hl16 : left < 2 ^ ps.length) (hl0 : left ≠ 0)
    (IH : ∀ left', left' < left → ∀ (b : Bd) (told : List A) (w : World), qw vars fs rn bs ps ns sk sb (.slice Ap ps.length cp) (.slice An ns.length cn) bp bn wt ah (.func (.func 142) #[] #[.pointer (some c5), .pointer (some c7)]) K b w →
      (∀ j (h : j < ps.length), left'.testBit j = false → xK b ps[j].args) → T true w told → Calls Tryz.prog 179 #[.pointer (some ⟨sk, 0, none⟩), .int .i64 left'] w (uy vars fs ps ns head K sk T go b left' told w))
    (b : Bd) (told : List A) (w : World)
    (S : qw vars fs rn bs ps ns sk sb (.slice Ap ps.length cp) (.slice An ns.length cn) bp bn wt ah (.func (.func 142) #[] #[.pointer (some c5), .pointer (some c7)]) K b w)
    (hcov : ∀ j (h : j < ps.length), left.testBit j = false → xK b ps[j].args) (hTw : T true w told) (hH : setB vars b wt = true → yw fs ns b = false) :
    Calls Tryz.prog 179 #[.pointer (some ⟨sk, 0, none⟩), .int .i64 left] w (uy vars fs ps ns head K sk T go b left told w) := by
  have hl : left < 16 := Nat.lt_of_lt_of_le hl16 (Nat.pow_le_pow_right (by omega) E.p4 : 2 ^ ps.length ≤ 2 ^ 4);have hset := um vars b sk sb _ _ wt false ah _ w S.sea S.at_;have hcho := fun w1 (hb1 : Below w.heap.size w w1) => NM vars E.hv b fs rn bs ps Ap cp bp sk sb _ wt ah _ left w1 (S.below hb1).sea (S.below hb1).at_ (S.below hb1).rY (S.below hb1).pps E.pin (fun p hp => by have := nR (E.pok p hp); omega) E.p4 hl E.fl (TM left ps.length hl16 E.p4 hl0)
  have hhin := fun (hs : setB vars b wt = true) w1 (hb1 : Below w.heap.size w w1) => rE vars E.hv b S.ok fs rn bs ns An cn bn sk sb _ wt false ah _ w1 (S.below hb1).sea (S.below hb1).at_ (S.below hb1).rY (S.below hb1).pns E.nin (fun n hn => (uP (E.nok n hn) S.wds (((uw E.hv S.ok E.want E.hin E.nin).1 hs).2 n hn)).ok) E.nl
  have HHI := Lib.hid hhin;have HCH := Lib.hid hcho;have HS0 := Lib.hid S;have HCV := Lib.hid hcov;have HTW := Lib.hid hTw;have HIH := Lib.hid IH;have HTO := Lib.hid hT;have HHH := Lib.hid hH;have h0i : ¬ (left : Int) = 0 := by omega
  clear hhin hcho S hcov hTw IH hT hH;generalize hsb : setB vars b wt = s at *;have HSB := Lib.hid hsb
  go_enter Tryz.func179, Tryz.ntmps179
  go_wp2_with fail
  refine hset.mono ?_;rintro e w1 ⟨rfl, hb1⟩;clear hset hsb;cases s
  · have HB2 := Lib.hid hb1
    have hch := HCH.out w1 hb1;clear hb1;clear HCH HHI HHH
    go_wp2_with fail
    refine hch.mono ?_;rintro e w3 ⟨m, A9, c9, key, bx, rfl, hC, hb3⟩;have HB3 := Lib.hid (HB2.out.trans (hb3.mono HB2.out.size));have HC := Lib.hid hC;have HROW : Hid (jD w [.slice A9 (idxs fs key).length c9] (idxs fs key) bx) := Lib.hid (dL.keep hC.row fun x hx => (HB3.out.block x (HS0.out.rY.lt x (hC.sub x hx))).symm);have hlen : (idxs fs key).length ≤ 1000000 := Nat.le_trans (ng _ _) E.fl;have hmp := hC.lt;have hp4 := E.p4
    have HI0 : Hid (gV vars fs ps ns head K sk T go b left m (idxs fs key) told [] false true 0 w w3) := Lib.hid ⟨bV.of_below HS0.out.sea.lt HB3.out, HS0.out.at_.keep (HB3.out.block _ HS0.out.sea.lt),
      by rw [List.append_nil]; exact HTO.out.keep _ _ _ HTW.out (dD.of_below HB3.out HS0.out.sea.lt), fun t ht => by simp at ht, fun _ i hi => absurd hi (by omega), fun h => absurd h (by decide), fun h => absurd h (by decide)⟩
    clear hch hC hb3 HB2;go_wp2
    go_loopw [9, 40] (fun held i wr => ∃ (k : Nat) (ts : List A) (hd : Bool), k ≤ (idxs fs key).length ∧ i = .int .i64 k ∧ held = .bool hd ∧ gV vars fs ps ns head K sk T go b left m (idxs fs key) told ts hd true k w wr) (fun _ i _ => (idxs fs key).length - (intOf i).toNat)
    case atStart => exact ⟨0, [], false, Nat.zero_le _, rfl, rfl, HI0.out⟩
    case round =>
      obtain ⟨k, ts, hd, hk, rfl, rfl, hI⟩ := hrel;clear HI0;by_cases hlt : k < (idxs fs key).length
      · obtain ⟨b8, o8, rfl, hb8, e0⟩ := qm (hI.kept.keep dL HROW.out fun x hx => HS0.out.kbs x (HC.out.sub x hx)) hlt
        obtain ⟨hjl, _⟩ := Dl.1 (List.getElem_mem hlt);have s16 := (HS0.out.sea.run hI.kept).io;have hk0 : (0 : Int) ≤ (k : Int) := by omega
        have hk1 : (k : Int) < ((idxs fs key).length : Int) := by omega
        have HI := Lib.hid hI;have HLT := Lib.hid hlt;clear hI hk hb8;go_wp2
        go_quiet (fail)
        have hI : gV vars fs ps ns head K sk T go b left m (idxs fs key) told ts hd true k w (wr.drewN nq) := HI.out.drewN HTO.out HS0.out.sea.lt;clear HI s16 e0;generalize wr.drewN nq = wr at *;have S1 := HS0.out.kept hI.kept hI.at_ HS0.out.ok HS0.out.wds;obtain ⟨⟨Af, cf, Ar, cr, mu, mp, bf, br, Lu, Lp, g1, g2, _, _, _, _, _, _, _, _, g11, _⟩, _, _⟩ := S1.rY;obtain ⟨bq, oq, Ae, ce, bk, rfl, hbq, f0, f1, ⟨vv, hvv, hnm, hsl⟩, hsub⟩ := xQ S1.pps hmp;simp only [List.cons.injEq, and_true, true_and] at hvv;subst hvv;obtain ⟨b7, o7, Ag, cg, bg, rfl, hb7, d0, d1, hfa, hsub2⟩ := dG g2 hjl;have hfo := E.fok _ (List.getElem_mem hjl)
        have hcall := Dw vars E.hv b HS0.out.ok ps[m] fs[(idxs fs key)[k]] Ae Ag ce cg bk bg sk 18 wr.drew (S1.at_.keep rfl) ((dm vars).keep hsl fun _ _ => rfl) (aH.keep (eH hfa) fun _ _ => rfl) (E.pin _ (List.getElem_mem hmp)) (FD (E.pok _ (List.getElem_mem hmp)))
          (fun t ht => ⟨(hfo.names t ht).1, uq (hfo.names t ht).2⟩) (fun h => hK _ (S1.kbp _ (hsub _ h)) rfl) (fun h => hK _ (S1.kbs _ (g11 _ (hsub2 _ h))) rfl) (by have := nR (E.pok _ (List.getElem_mem hmp)); omega)
        have HWD := Lib.hid (DF (a := ps[m]) HS0.out.wds fun t ht => (hfo.names t ht).2);have HUN := Lib.hid (fun (w5 : World) (hok : jJ vars (aK ps[m] fs[(idxs fs key)[k]] b).1) (hat : iJ vars (aK ps[m] fs[(idxs fs key)[k]] b).1 sk 18 w5) => Kr vars E.hv (aK ps[m] fs[(idxs fs key)[k]] b).1 hok b.length (vz _ _ _) sk 18 w5 hat);have HPR := Lib.hid (wK ps[m] fs[(idxs fs key)[k]] b);have HSK : Hid (∀ w6, (aK ps[m] fs[(idxs fs key)[k]] b).2 = false → bV K sk wr w6 → iJ vars b sk 18 w6 → T true w6 (told ++ ts) → gV vars fs ps ns head K sk T go b left m (idxs fs key) told ts hd true (k + 1) w w6) := Lib.hid fun w6 h1 h2 h3 h4 => hI.skip hlt hjl hmp h1 h2 h3 h4
        have HTK : Hid (∀ (w4 w5 w6 : World) (held' more' : Bool), (aK ps[m] fs[(idxs fs key)[k]] b).2 = true → jc vars fs ps ns head K sk T go (aK ps[m] fs[(idxs fs key)[k]] b).1 (left - 2 ^ m) (told ++ ts) held' more' w4 w5 → bV K sk wr w4 → bV K sk w5 w6 → iJ vars b sk 18 w6 → (∀ ts', T more' w5 ts' → T more' w6 ts') → ∃ ts2, gV vars fs ps ns head K sk T go b left m (idxs fs key) told ts2 (hd || held') more' (k + 1) w w6) :=
          Lib.hid fun w4 w5 w6 held' more' h1 h2 h3 h4 h5 h6 => hI.took hl hp4 hlt hjl hfo.gr hmp HC.out.bit h1 h2 h3 h4 h5 h6
        have HREC : Hid (∀ w4 : World, (aK ps[m] fs[(idxs fs key)[k]] b).2 = true → bV K sk wr w4 → iJ vars (aK ps[m] fs[(idxs fs key)[k]] b).1 sk 18 w4 → jJ vars (aK ps[m] fs[(idxs fs key)[k]] b).1 → T true w4 (told ++ ts) →
            Calls Tryz.prog 179 #[.pointer (some ⟨sk, 0, none⟩), .int .i64 ((left - 2 ^ m : Nat) : Int)] w4 (uy vars fs ps ns head K sk T go (aK ps[m] fs[(idxs fs key)[k]] b).1 (left - 2 ^ m) (told ++ ts) w4)) :=
          Lib.hid fun w4 h1 h2 h3 h4 h5 => HIH.out (left - 2 ^ m) (Oy left m hl (by omega) HC.out.bit) _ _ _ (S1.kept h2 h3 h4 HWD.out) (fun j hj hjb => by
            by_cases e : j = m
            · subst e; exact (mV hfo.gr h1).1
            · rw [yA left m j hl (by omega) (by omega) HC.out.bit] at hjb
              have : left.testBit j = false := by simpa [e] using hjb
              exact (nU _ _ _).WN (HCV.out j hj this)) h5
        have s0 := S1.sea.st;have s1 := S1.sea.p1;have s42 : wr.cell? ⟨sk, 42, none⟩ = some (.int .i64 b.length) := S1.at_.ct;have st0 : wr.cell? ⟨sb, 0, none⟩ = some (.slice (some ⟨b7, o7, none⟩) fs.length cf) := ak g1;have hm0 : (0 : Int) ≤ (m : Int) := by omega
        have hm1 : (m : Int) < (ps.length : Int) := by omega
        have hj0 : (0 : Int) ≤ (((idxs fs key)[k] : Nat) : Int) := by omega
        have hj1 : (((idxs fs key)[k] : Nat) : Int) < (fs.length : Int) := by omega
        have hbl := FB left m hl (by omega) HC.out.bit;have nbq : ∀ x ∈ bp, x < wr.heap.size ∧ x ≠ sk := fun x hx => ⟨(dS vars).lt S1.pps x hx, hK x (S1.kbp x hx)⟩
        have nbs : ∀ x ∈ bs, x < wr.heap.size ∧ x ≠ sk := fun x hx => ⟨S1.rY.lt x hx, hK x (S1.kbs x hx)⟩
        have n1 := nbq bq hbq;have n2 := nbs b7 (g11 b7 hb7);have n3 := nbs sb S1.rY.own;have HN := Lib.hid (And.intro n1 (And.intro n2 (And.intro n3 S1.sea.lt)));clear nbq nbs n1 n2 n3;have HST := Lib.hid hI.st;have HSW := Lib.hid HS0.out.sea.lt;have HWR := Lib.hid S1.sea.lt;clear hI S1 g1 g2 g11 hsub hsub2 hfa hnm hsl hbq hb7;generalize (idxs fs key)[k] = j at *;generalize fs[j] = f at *;generalize ps[m] = p at *;obtain ⟨pn, pargs⟩ := p;obtain ⟨fn, fargs⟩ := f;dsimp only at *;clear hlt hjl hmp hfo
        have HCK : Hid (∀ w4 : World, dD sk 18 wr.drew w4 → w4.cell? ⟨sk, 0, none⟩ = some (.pointer (some ⟨sb, 0, none⟩)) ∧ w4.cell? ⟨sk, 1, none⟩ = some (.slice (some ⟨bq, oq, none⟩) ps.length cp) ∧ w4.cell? ⟨bq, oq + m * 2, none⟩ = some (.string pn) ∧ w4.cell? ⟨bq, oq + m * 2 + 1, none⟩ = some (.slice Ae pargs.length ce) ∧ w4.cell? ⟨sb, 0, none⟩ = some (.slice (some ⟨b7, o7, none⟩) fs.length cf) ∧ w4.cell? ⟨b7, o7 + j * 2, none⟩ = some (.string fn) ∧ w4.cell? ⟨b7, o7 + j * 2 + 1, none⟩ = some (.slice Ag fargs.length cg)) := Lib.hid fun w4 h40 => by
          have h4 : dD sk 18 wr w4 := (dD.of_below ((Below.refl wr.heap.size wr).drew) HN.out.2.2.2).trans h40
          exact ⟨(h4.rest _ (by omega)).trans s0, (h4.rest _ (by omega)).trans s1, (World.cell?_of_block (h4.block (b := bq) HN.out.1.1 HN.out.1.2)).trans f0, (World.cell?_of_block (h4.block (b := bq) HN.out.1.1 HN.out.1.2)).trans f1,
            (World.cell?_of_block (h4.block (b := sb) HN.out.2.2.1.1 HN.out.2.2.1.2)).trans st0, (World.cell?_of_block (h4.block (b := b7) HN.out.2.1.1 HN.out.2.1.2)).trans d0, (World.cell?_of_block (h4.block (b := b7) HN.out.2.1.1 HN.out.2.1.2)).trans d1⟩
        generalize hM : aK ⟨pn, pargs⟩ ⟨fn, fargs⟩ b = M at *;obtain ⟨b', r⟩ := M;dsimp only at *;clear hM;cases r
        · go_wp2
          go_region_held3 (fun w' => w'.cell? ⟨sk, 0, none⟩ = some (.pointer (some ⟨sb, 0, none⟩)) ∧ w'.cell? ⟨sk, 1, none⟩ = some (.slice (some ⟨bq, oq, none⟩) ps.length cp) ∧ w'.cell? ⟨bq, oq + m * 2, none⟩ = some (.string pn) ∧ w'.cell? ⟨bq, oq + m * 2 + 1, none⟩ = some (.slice Ae pargs.length ce) ∧ w'.cell? ⟨sb, 0, none⟩ = some (.slice (some ⟨b7, o7, none⟩) fs.length cf) ∧ w'.cell? ⟨b7, o7 + j * 2, none⟩ = some (.string fn) ∧ w'.cell? ⟨b7, o7 + j * 2 + 1, none⟩ = some (.slice Ag fargs.length cg))
            (first | exact ⟨s0, s1, f0, f1, st0, d0, d1⟩ | exact hS4)
            (first | (go_at_call 200; refine hcall.mono ?_; rintro e w4 ⟨rfl, hP4⟩; have hS4 := HCK.out w4 hP4.kept))
          all_goals
            have HP4 := Lib.hid hP4;have hun := HUN.out w4 hP4.ok hP4.at_;clear hP4 hS4 HCK;have HK4 := Lib.hid ((bV.of_below (K := K) HWR.out ((Below.refl wr.heap.size wr).drew)).trans (bV.zT hK HP4.out.kept));have HT4 := Lib.hid (HTO.out.keep _ _ _ (HTO.out.keep wr wr.drew _ HST.out (dD.of_below ((Below.refl wr.heap.size wr).drew) HWR.out)) HP4.out.kept);clear s0 s1 s42 st0 f0 f1 d0 d1 hcall
            go_wp2_with fail
            refine hun.mono ?_;rintro e w6 ⟨rfl, hP6⟩;rw [HPR.out] at hP6;have HI6 := Lib.hid (HSK.out w6 (by trivial) (HK4.out.trans (bV.zT hK hP6.kept)) hP6.at_ (HTO.out.keep _ _ _ HT4.out hP6.kept));clear hP6 hun;cases hd
            all_goals
              go_wp2;go_roundw
              case rel => exact ⟨k + 1, ts, _, HLT.out, by go_num, rfl, HI6.out⟩
              case measure => have := HLT.out; simp [intOf]; omega
        · go_wp2
          go_region_held3 (fun w' => w'.cell? ⟨sk, 0, none⟩ = some (.pointer (some ⟨sb, 0, none⟩)) ∧ w'.cell? ⟨sk, 1, none⟩ = some (.slice (some ⟨bq, oq, none⟩) ps.length cp) ∧ w'.cell? ⟨bq, oq + m * 2, none⟩ = some (.string pn) ∧ w'.cell? ⟨bq, oq + m * 2 + 1, none⟩ = some (.slice Ae pargs.length ce) ∧ w'.cell? ⟨sb, 0, none⟩ = some (.slice (some ⟨b7, o7, none⟩) fs.length cf) ∧ w'.cell? ⟨b7, o7 + j * 2, none⟩ = some (.string fn) ∧ w'.cell? ⟨b7, o7 + j * 2 + 1, none⟩ = some (.slice Ag fargs.length cg))
            (first | exact ⟨s0, s1, f0, f1, st0, d0, d1⟩ | exact hS4)
            (first | (go_at_call 200; refine hcall.mono ?_; rintro e w4 ⟨rfl, hP4⟩; have hS4 := HCK.out w4 hP4.kept))
          all_goals
            have HP4 := Lib.hid hP4;clear hP4 hS4 HCK;have HK4 := Lib.hid ((bV.of_below (K := K) HWR.out ((Below.refl wr.heap.size wr).drew)).trans (bV.zT hK HP4.out.kept));have HT4 := Lib.hid (HTO.out.keep _ _ _ (HTO.out.keep wr wr.drew _ HST.out (dD.of_below ((Below.refl wr.heap.size wr).drew) HWR.out)) HP4.out.kept);have hrec := HREC.out w4 (by trivial) HK4.out HP4.out.at_ HP4.out.ok HT4.out;clear s0 s1 s42 st0 f0 f1 d0 d1 hcall
            go_wp2_with fail
            refine hrec.mono ?_;rintro e w5 ⟨held', more', rfl, hP5⟩;have hun := HUN.out w5 HP4.out.ok (jc.bd hP5);have HP5 := Lib.hid hP5;clear hrec hP5;have HFI : Hid (∀ w6, lG vars sk 18 w5 b w6 → ∃ ts2, gV vars fs ps ns head K sk T go b left m (idxs fs key) told ts2 (hd || held') more' (k + 1) w w6) := Lib.hid fun w6 h6 => HTK.out w4 w5 w6 held' more' (by trivial) HP5.out HK4.out (bV.zT hK h6.kept) h6.at_ fun ts' hts => HTO.out.keep _ _ _ hts h6.kept
            rw [HPR.out] at hun;clear HTK HREC HUN HSK HP5
            cases hd <;> cases held' <;> cases more'
            all_goals
              go_wp2_with fail
              refine hun.mono ?_;rintro e w6 ⟨rfl, hP6⟩;obtain ⟨ts2, hI6⟩ := HFI.out w6 hP6;have HI6 := Lib.hid hI6;clear hP6 hun hI6;go_wp2
              first
                | (go_ret2; exact HI6.out.off.ret)
                | (go_roundw
                   case rel => exact ⟨k + 1, ts2, _, HLT.out, by go_num, rfl, HI6.out⟩
                   case measure => have := HLT.out; simp [intOf]; omega)
      · have he : ¬ (k : Int) < ((idxs fs key).length : Int) := by omega
        have HF := Lib.hid (hI.fin E HC.out rfl (by omega));clear hI;go_wp2;go_ret2;exact HF.out.ret
  · have hh := HHI.out rfl w1 hb1
    rw [HHH.out rfl] at hh;have HCVH := Lib.hid ((uw E.hv HS0.out.ok E.want E.hin E.nin).1 HSB.out).1
    go_wp2_with fail
    refine hh.mono ?_;rintro e w2 ⟨rfl, hb2⟩;have HB2 := Lib.hid (hb1.trans (hb2.mono hb1.size));have hch := HCH.out w2 HB2.out;clear hb1 hb2 hh;clear HCH HHI HHH
    go_wp2_with fail
    refine hch.mono ?_;rintro e w3 ⟨m, A9, c9, key, bx, rfl, hC, hb3⟩;have HB3 := Lib.hid (HB2.out.trans (hb3.mono HB2.out.size));have HC := Lib.hid hC;have HROW : Hid (jD w [.slice A9 (idxs fs key).length c9] (idxs fs key) bx) := Lib.hid (dL.keep hC.row fun x hx => (HB3.out.block x (HS0.out.rY.lt x (hC.sub x hx))).symm);have hlen : (idxs fs key).length ≤ 1000000 := Nat.le_trans (ng _ _) E.fl;have hmp := hC.lt;have hp4 := E.p4
    have HI0 : Hid (gV vars fs ps ns head K sk T go b left m (idxs fs key) told [] false true 0 w w3) := Lib.hid ⟨bV.of_below HS0.out.sea.lt HB3.out, HS0.out.at_.keep (HB3.out.block _ HS0.out.sea.lt),
      by rw [List.append_nil]; exact HTO.out.keep _ _ _ HTW.out (dD.of_below HB3.out HS0.out.sea.lt), fun t ht => by simp at ht, fun _ i hi => absurd hi (by omega), fun h => absurd h (by decide), fun h => absurd h (by decide)⟩
    clear hch hC hb3 HB2;go_wp2
    go_loopw [9, 40] (fun held i wr => ∃ (k : Nat) (ts : List A), k ≤ (idxs fs key).length ∧ i = .int .i64 k ∧ held = .bool false ∧ gV vars fs ps ns head K sk T go b left m (idxs fs key) told ts false true k w wr) (fun _ i _ => (idxs fs key).length - (intOf i).toNat)
    case atStart => exact ⟨0, [], Nat.zero_le _, rfl, rfl, HI0.out⟩
    case round =>
      obtain ⟨k, ts, hk, rfl, rfl, hI⟩ := hrel;clear HI0;by_cases hlt : k < (idxs fs key).length
      · obtain ⟨b8, o8, rfl, hb8, e0⟩ := qm (hI.kept.keep dL HROW.out fun x hx => HS0.out.kbs x (HC.out.sub x hx)) hlt
        obtain ⟨hjl, _⟩ := Dl.1 (List.getElem_mem hlt);have s16 := (HS0.out.sea.run hI.kept).io;have hk0 : (0 : Int) ≤ (k : Int) := by omega
        have hk1 : (k : Int) < ((idxs fs key).length : Int) := by omega
        have HI := Lib.hid hI;have HLT := Lib.hid hlt;clear hI hk hb8;go_wp2
        go_quiet (fail)
        have hI : gV vars fs ps ns head K sk T go b left m (idxs fs key) told ts false true k w (wr.drewN nq) := HI.out.drewN HTO.out HS0.out.sea.lt;clear HI s16 e0;generalize wr.drewN nq = wr at *;have S1 := HS0.out.kept hI.kept hI.at_ HS0.out.ok HS0.out.wds;obtain ⟨⟨Af, cf, Ar, cr, mu, mp, bf, br, Lu, Lp, g1, g2, _, _, _, _, _, _, _, _, g11, _⟩, _, _⟩ := S1.rY;obtain ⟨bq, oq, Ae, ce, bk, rfl, hbq, f0, f1, ⟨vv, hvv, hnm, hsl⟩, hsub⟩ := xQ S1.pps hmp;simp only [List.cons.injEq, and_true, true_and] at hvv;subst hvv;obtain ⟨b7, o7, Ag, cg, bg, rfl, hb7, d0, d1, hfa, hsub2⟩ := dG g2 hjl;have hfo := E.fok _ (List.getElem_mem hjl)
        have hcall := Dw vars E.hv b HS0.out.ok ps[m] fs[(idxs fs key)[k]] Ae Ag ce cg bk bg sk 18 wr.drew (S1.at_.keep rfl) ((dm vars).keep hsl fun _ _ => rfl) (aH.keep (eH hfa) fun _ _ => rfl) (E.pin _ (List.getElem_mem hmp)) (FD (E.pok _ (List.getElem_mem hmp)))
          (fun t ht => ⟨(hfo.names t ht).1, uq (hfo.names t ht).2⟩) (fun h => hK _ (S1.kbp _ (hsub _ h)) rfl) (fun h => hK _ (S1.kbs _ (g11 _ (hsub2 _ h))) rfl) (by have := nR (E.pok _ (List.getElem_mem hmp)); omega)
        have HWD := Lib.hid (DF (a := ps[m]) HS0.out.wds fun t ht => (hfo.names t ht).2);have HUN := Lib.hid (fun (w5 : World) (hok : jJ vars (aK ps[m] fs[(idxs fs key)[k]] b).1) (hat : iJ vars (aK ps[m] fs[(idxs fs key)[k]] b).1 sk 18 w5) => Kr vars E.hv (aK ps[m] fs[(idxs fs key)[k]] b).1 hok b.length (vz _ _ _) sk 18 w5 hat);have HPR := Lib.hid (wK ps[m] fs[(idxs fs key)[k]] b);have HSK : Hid (∀ w6, (aK ps[m] fs[(idxs fs key)[k]] b).2 = false → bV K sk wr w6 → iJ vars b sk 18 w6 → T true w6 (told ++ ts) → gV vars fs ps ns head K sk T go b left m (idxs fs key) told ts false true (k + 1) w w6) := Lib.hid fun w6 h1 h2 h3 h4 => hI.skip hlt hjl hmp h1 h2 h3 h4
        have HTK : Hid (∀ (w4 w5 w6 : World) (held' more' : Bool), (aK ps[m] fs[(idxs fs key)[k]] b).2 = true → jc vars fs ps ns head K sk T go (aK ps[m] fs[(idxs fs key)[k]] b).1 (left - 2 ^ m) (told ++ ts) held' more' w4 w5 → bV K sk wr w4 → bV K sk w5 w6 → iJ vars b sk 18 w6 → (∀ ts', T more' w5 ts' → T more' w6 ts') → ∃ ts2, gV vars fs ps ns head K sk T go b left m (idxs fs key) told ts2 (false || held') more' (k + 1) w w6) :=
          Lib.hid fun w4 w5 w6 held' more' h1 h2 h3 h4 h5 h6 => hI.took hl hp4 hlt hjl hfo.gr hmp HC.out.bit h1 h2 h3 h4 h5 h6
        have HREC : Hid (∀ w4 : World, (aK ps[m] fs[(idxs fs key)[k]] b).2 = true → bV K sk wr w4 → iJ vars (aK ps[m] fs[(idxs fs key)[k]] b).1 sk 18 w4 → jJ vars (aK ps[m] fs[(idxs fs key)[k]] b).1 → T true w4 (told ++ ts) →
            Calls Tryz.prog 179 #[.pointer (some ⟨sk, 0, none⟩), .int .i64 ((left - 2 ^ m : Nat) : Int)] w4 (uy vars fs ps ns head K sk T go (aK ps[m] fs[(idxs fs key)[k]] b).1 (left - 2 ^ m) (told ++ ts) w4)) :=
          Lib.hid fun w4 h1 h2 h3 h4 h5 => HIH.out (left - 2 ^ m) (Oy left m hl (by omega) HC.out.bit) _ _ _ (S1.kept h2 h3 h4 HWD.out) (fun j hj hjb => by
            by_cases e : j = m
            · subst e; exact (mV hfo.gr h1).1
            · rw [yA left m j hl (by omega) (by omega) HC.out.bit] at hjb
              have : left.testBit j = false := by simpa [e] using hjb
              exact (nU _ _ _).WN (HCV.out j hj this)) h5
        have s0 := S1.sea.st;have s1 := S1.sea.p1;have s42 : wr.cell? ⟨sk, 42, none⟩ = some (.int .i64 b.length) := S1.at_.ct;have st0 : wr.cell? ⟨sb, 0, none⟩ = some (.slice (some ⟨b7, o7, none⟩) fs.length cf) := ak g1;have hm0 : (0 : Int) ≤ (m : Int) := by omega
        have hm1 : (m : Int) < (ps.length : Int) := by omega
        have hj0 : (0 : Int) ≤ (((idxs fs key)[k] : Nat) : Int) := by omega
        have hj1 : (((idxs fs key)[k] : Nat) : Int) < (fs.length : Int) := by omega
        have hbl := FB left m hl (by omega) HC.out.bit;have nbq : ∀ x ∈ bp, x < wr.heap.size ∧ x ≠ sk := fun x hx => ⟨(dS vars).lt S1.pps x hx, hK x (S1.kbp x hx)⟩
        have nbs : ∀ x ∈ bs, x < wr.heap.size ∧ x ≠ sk := fun x hx => ⟨S1.rY.lt x hx, hK x (S1.kbs x hx)⟩
        have n1 := nbq bq hbq;have n2 := nbs b7 (g11 b7 hb7);have n3 := nbs sb S1.rY.own;have HN := Lib.hid (And.intro n1 (And.intro n2 (And.intro n3 S1.sea.lt)));clear nbq nbs n1 n2 n3;have HST := Lib.hid hI.st;have HSW := Lib.hid HS0.out.sea.lt;have HWR := Lib.hid S1.sea.lt;clear hI S1 g1 g2 g11 hsub hsub2 hfa hnm hsl hbq hb7;generalize (idxs fs key)[k] = j at *;generalize fs[j] = f at *;generalize ps[m] = p at *;obtain ⟨pn, pargs⟩ := p;obtain ⟨fn, fargs⟩ := f;dsimp only at *;clear hlt hjl hmp hfo
        have HCK : Hid (∀ w4 : World, dD sk 18 wr.drew w4 → w4.cell? ⟨sk, 0, none⟩ = some (.pointer (some ⟨sb, 0, none⟩)) ∧ w4.cell? ⟨sk, 1, none⟩ = some (.slice (some ⟨bq, oq, none⟩) ps.length cp) ∧ w4.cell? ⟨bq, oq + m * 2, none⟩ = some (.string pn) ∧ w4.cell? ⟨bq, oq + m * 2 + 1, none⟩ = some (.slice Ae pargs.length ce) ∧ w4.cell? ⟨sb, 0, none⟩ = some (.slice (some ⟨b7, o7, none⟩) fs.length cf) ∧ w4.cell? ⟨b7, o7 + j * 2, none⟩ = some (.string fn) ∧ w4.cell? ⟨b7, o7 + j * 2 + 1, none⟩ = some (.slice Ag fargs.length cg)) := Lib.hid fun w4 h40 => by
          have h4 : dD sk 18 wr w4 := (dD.of_below ((Below.refl wr.heap.size wr).drew) HN.out.2.2.2).trans h40
          exact ⟨(h4.rest _ (by omega)).trans s0, (h4.rest _ (by omega)).trans s1, (World.cell?_of_block (h4.block (b := bq) HN.out.1.1 HN.out.1.2)).trans f0, (World.cell?_of_block (h4.block (b := bq) HN.out.1.1 HN.out.1.2)).trans f1,
            (World.cell?_of_block (h4.block (b := sb) HN.out.2.2.1.1 HN.out.2.2.1.2)).trans st0, (World.cell?_of_block (h4.block (b := b7) HN.out.2.1.1 HN.out.2.1.2)).trans d0, (World.cell?_of_block (h4.block (b := b7) HN.out.2.1.1 HN.out.2.1.2)).trans d1⟩
        generalize hM : aK ⟨pn, pargs⟩ ⟨fn, fargs⟩ b = M at *;obtain ⟨b', r⟩ := M;dsimp only at *;clear hM;cases r
        · go_wp2
          go_region_held3 (fun w' => w'.cell? ⟨sk, 0, none⟩ = some (.pointer (some ⟨sb, 0, none⟩)) ∧ w'.cell? ⟨sk, 1, none⟩ = some (.slice (some ⟨bq, oq, none⟩) ps.length cp) ∧ w'.cell? ⟨bq, oq + m * 2, none⟩ = some (.string pn) ∧ w'.cell? ⟨bq, oq + m * 2 + 1, none⟩ = some (.slice Ae pargs.length ce) ∧ w'.cell? ⟨sb, 0, none⟩ = some (.slice (some ⟨b7, o7, none⟩) fs.length cf) ∧ w'.cell? ⟨b7, o7 + j * 2, none⟩ = some (.string fn) ∧ w'.cell? ⟨b7, o7 + j * 2 + 1, none⟩ = some (.slice Ag fargs.length cg))
            (first | exact ⟨s0, s1, f0, f1, st0, d0, d1⟩ | exact hS4)
            (first | (go_at_call 200; refine hcall.mono ?_; rintro e w4 ⟨rfl, hP4⟩; have hS4 := HCK.out w4 hP4.kept))
          all_goals
            have HP4 := Lib.hid hP4;have hun := HUN.out w4 hP4.ok hP4.at_;clear hP4 hS4 HCK;have HK4 := Lib.hid ((bV.of_below (K := K) HWR.out ((Below.refl wr.heap.size wr).drew)).trans (bV.zT hK HP4.out.kept));have HT4 := Lib.hid (HTO.out.keep _ _ _ (HTO.out.keep wr wr.drew _ HST.out (dD.of_below ((Below.refl wr.heap.size wr).drew) HWR.out)) HP4.out.kept);clear s0 s1 s42 st0 f0 f1 d0 d1 hcall
            go_wp2_with fail
            refine hun.mono ?_;rintro e w6 ⟨rfl, hP6⟩;rw [HPR.out] at hP6;have HI6 := Lib.hid (HSK.out w6 (by trivial) (HK4.out.trans (bV.zT hK hP6.kept)) hP6.at_ (HTO.out.keep _ _ _ HT4.out hP6.kept));clear hP6 hun;go_wp2;go_roundw
            case rel => exact ⟨k + 1, ts, HLT.out, by go_num, rfl, HI6.out⟩
            case measure => have := HLT.out; simp [intOf]; omega
        · go_wp2
          go_region_held3 (fun w' => w'.cell? ⟨sk, 0, none⟩ = some (.pointer (some ⟨sb, 0, none⟩)) ∧ w'.cell? ⟨sk, 1, none⟩ = some (.slice (some ⟨bq, oq, none⟩) ps.length cp) ∧ w'.cell? ⟨bq, oq + m * 2, none⟩ = some (.string pn) ∧ w'.cell? ⟨bq, oq + m * 2 + 1, none⟩ = some (.slice Ae pargs.length ce) ∧ w'.cell? ⟨sb, 0, none⟩ = some (.slice (some ⟨b7, o7, none⟩) fs.length cf) ∧ w'.cell? ⟨b7, o7 + j * 2, none⟩ = some (.string fn) ∧ w'.cell? ⟨b7, o7 + j * 2 + 1, none⟩ = some (.slice Ag fargs.length cg))
            (first | exact ⟨s0, s1, f0, f1, st0, d0, d1⟩ | exact hS4)
            (first | (go_at_call 200; refine hcall.mono ?_; rintro e w4 ⟨rfl, hP4⟩; have hS4 := HCK.out w4 hP4.kept))
          all_goals
            have HP4 := Lib.hid hP4;clear hP4 hS4 HCK;have HK4 := Lib.hid ((bV.of_below (K := K) HWR.out ((Below.refl wr.heap.size wr).drew)).trans (bV.zT hK HP4.out.kept));have HT4 := Lib.hid (HTO.out.keep _ _ _ (HTO.out.keep wr wr.drew _ HST.out (dD.of_below ((Below.refl wr.heap.size wr).drew) HWR.out)) HP4.out.kept);have hrec := HREC.out w4 (by trivial) HK4.out HP4.out.at_ HP4.out.ok HT4.out;clear s0 s1 s42 st0 f0 f1 d0 d1 hcall
            go_wp2_with fail
            refine hrec.mono ?_;rintro e w5 ⟨held', more', rfl, hP5⟩;have hun := HUN.out w5 HP4.out.ok (jc.bd hP5);have HP5 := Lib.hid hP5;clear hrec hP5;have HFI : Hid (∀ w6, lG vars sk 18 w5 b w6 → ∃ ts2, gV vars fs ps ns head K sk T go b left m (idxs fs key) told ts2 (false || held') more' (k + 1) w w6) := Lib.hid fun w6 h6 => HTK.out w4 w5 w6 held' more' (by trivial) HP5.out HK4.out (bV.zT hK h6.kept) h6.at_ fun ts' hts => HTO.out.keep _ _ _ hts h6.kept
            rw [HPR.out] at hun;clear HTK HREC HUN HSK HP5
            cases held' <;> cases more'
            all_goals
              go_wp2_with fail
              refine hun.mono ?_;rintro e w6 ⟨rfl, hP6⟩;obtain ⟨ts2, hI6⟩ := HFI.out w6 hP6;have HI6 := Lib.hid hI6;clear hP6 hun hI6;go_wp2
              first
                | (go_ret2; exact HI6.out.off.ret)
                | (go_roundw
                   case rel => exact ⟨k + 1, ts2, HLT.out, by go_num, rfl, HI6.out⟩
                   case measure => have := HLT.out; simp [intOf]; omega)
                | (go_ret2; exact (HI6.out.brk HCVH.out).ret)
      · have he : ¬ (k : Int) < ((idxs fs key).length : Int) := by omega
        have HF := Lib.hid (hI.fin E HC.out rfl (by omega));clear hI;go_wp2;go_ret2;exact HF.out.ret
end
end Go.Proofs.YtiidmgchadagbaaGreatDoor
