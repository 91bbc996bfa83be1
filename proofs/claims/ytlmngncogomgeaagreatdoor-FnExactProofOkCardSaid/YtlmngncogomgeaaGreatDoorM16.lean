/- Of the proof of FnExactProofOk: HPrf, HAtomS. -/
import Derived.Test.YtlmngncogomgeaaGreatDoorM11
set_option linter.unusedVariables false
set_option maxHeartbeats 1000000
namespace Go.Proofs.YtlmngncogomgeaaGreatDoor
open Go.RowKit D
attribute [local go_sem ↓] Go.wp_at_zero Go.wp_at_succ
theorem V3 {L:List Value} {k m:Nat} (y:L.length=m * 4) (hk:k < m) (a b c d:Value):
  (((((L.set (k * 4) a).set (k * 4+1) b).set (k * 4+2) c).set (k * 4+3) d).take (k * 4)=L.take (k * 4))∧(((((L.set (k * 4) a).set (k * 4+1) b).set (k * 4+2) c).set (k * 4+3) d).drop (k * 4)).take 4 = [a,b,c,d]:=by
 constructor
 ·rw [List.take_set_of_le (by omega),List.take_set_of_le (by omega),List.take_set_of_le (by omega),List.take_set_of_le (by omega)]
 ·refine List.ext_getElem? fun j=>?_
  rcases j with _ | _ | _ | _ | j
  ·simp [List.getElem?_set,List.getElem?_drop]; omega
  ·simp [List.getElem?_set,List.getElem?_drop]; omega
  ·simp [List.getElem?_set,List.getElem?_drop]; omega
  ·simp [List.getElem?_set,List.getElem?_drop]; omega
  ·simp; omega
theorem LY {w:World} {base e n g cap k:Nat} {L:List Value} (h:w.ownsRow base e 4 (.slice (some ⟨g,0,none⟩) n cap) n L) (a b c d:Value):
  ((((w.setCell ⟨g,k * 4,none⟩ a).setCell ⟨g,k * 4+1,none⟩ b).setCell ⟨g,k * 4+2,none⟩ c).setCell ⟨g,k * 4+3,none⟩ d).ownsRow base e 4 (.slice (some ⟨g,0,none⟩) n cap) n ((((L.set (k * 4) a).set (k * 4+1) b).set (k * 4+2) c).set (k * 4+3) d):=
 ((((h.stored _ _).1.stored _ _).1.stored _ _).1.stored _ _).1
theorem VO {α:Type} {R:Rel α} (gR:D.Good R) {w0 wr U:World} {base B e g cap C k:Nat} {L:List Value} {xs:List α} {bs b2:List Nat} {a b c d:Value}
  (a0:wr.ownsRow base e 4 (.slice (some ⟨g,0,none⟩) xs.length cap) xs.length L) (hF:fE 4 R C wr L xs k bs) (hk:k < xs.length)
  (a2:Below B w0 wr) (hb:Below wr.heap.size wr U) (a3:g < C) (I:B≤g) (hC:C≤wr.heap.size) (hR:R U [a,b,c,d] xs[k] b2) (hN:New wr.heap.size U b2):
  ((((U.setCell ⟨g,k * 4,none⟩ a).setCell ⟨g,k * 4+1,none⟩ b).setCell ⟨g,k * 4+2,none⟩ c).setCell ⟨g,k * 4+3,none⟩ d).ownsRow base e 4 (.slice (some ⟨g,0,none⟩) xs.length cap) xs.length ((((L.set (k * 4) a).set (k * 4+1) b).set (k * 4+2) c).set (k * 4+3) d)∧
  fE 4 R C ((((U.setCell ⟨g,k * 4,none⟩ a).setCell ⟨g,k * 4+1,none⟩ b).setCell ⟨g,k * 4+2,none⟩ c).setCell ⟨g,k * 4+3,none⟩ d) ((((L.set (k * 4) a).set (k * 4+1) b).set (k * 4+2) c).set (k * 4+3) d) xs (k+1) (bs ++ b2)∧
  Below B w0 ((((U.setCell ⟨g,k * 4,none⟩ a).setCell ⟨g,k * 4+1,none⟩ b).setCell ⟨g,k * 4+2,none⟩ c).setCell ⟨g,k * 4+3,none⟩ d)∧C≤((((U.setCell ⟨g,k * 4,none⟩ a).setCell ⟨g,k * 4+1,none⟩ b).setCell ⟨g,k * 4+2,none⟩ c).setCell ⟨g,k * 4+3,none⟩ d).heap.size:=by
 have a1:∀ c ∈ bs,c < wr.heap.size:=fun c hc=>hF.new.lt hc
 have J:∀ c ∈ bs,c ≠ g:=fun c hc e=>by have:=(hF.new.own c hc).1; omega
 have y:∀ c ∈ b2,c ≠ g:=fun c hc e=>by have:=(hN.own c hc).1; omega
 have hs:=V3 a0.1 hk a b c d;refine ⟨LY (own_below a0 hb) a b c d,?_,?_,?_⟩
 ·refine fE.step (hF.keep gR fun c hc=>?_) hs.1 hs.2 hk (gR.keep hR fun c hc=>?_) ⟨wr.heap.size,hC,hN.keep fun c hc=>?_,a1⟩
  ·rw [π _ _ _ _ (J c hc),π _ _ _ _ (J c hc),π _ _ _ _ (J c hc),π _ _ _ _ (J c hc),hb.block c (a1 c hc)]
  ·rw [π _ _ _ _ (y c hc),π _ _ _ _ (y c hc),π _ _ _ _ (y c hc),π _ _ _ _ (y c hc)]
  ·rw [π _ _ _ _ (y c hc),π _ _ _ _ (y c hc),π _ _ _ _ (y c hc),π _ _ _ _ (y c hc)]
 ·exact ((((a2.trans (hb.mono (by omega))).setCell I _).setCell I _).setCell I _).setCell I _
 ·have:=hb.size; simp; omega
theorem D.lG {n:Nat} {w:World} {cs:Array Value} {p:Pf} {bs:List Nat} (h:dP n w cs.toList p bs):∃ I cap J y,cs=#[.string p.fact.name,.slice I p.fact.args.length cap,.int .i64 p.rule,.slice J p.kids.length y]:=by
 cases n with
 | zero=>exact h.elim
 | succ n=>
  obtain ⟨s,b,_,_,U,_,_,_,ht,hp⟩:=h;obtain ⟨I,cap,rfl,_⟩:=ai ht;obtain ⟨J,y,rfl,_⟩:=ai hp;exact ⟨I,cap,J,y,Array.toList_inj.1 U⟩
theorem D.IX {n:Nat} {w:World} {cs:List Value} {p:Pf} {y:List Nat} (h:dP n w cs p y):(-9223372036854775808≤p.rule∧p.rule≤9223372036854775807)∧p.fact.name.size≤maxLen:=by
 cases n with
 | zero=>exact h.elim
 | succ n=>
  obtain ⟨_,_,_,_,_,I,J,_⟩:=h;exact ⟨J,I⟩
theorem OG:(Tryz.prog.info? 43).map (fun i=>(i.zero,i.size,i.bytes))=some (some (.agg #[.string ⟨#[]⟩,.slice none 0 0,.int .i64 0,.slice none 0 0]),4,72):=by kernel_rfl
theorem IY (n:Nat) (ih:∀ (p:Pf) (c0 c1 c2 c3:Value) (bs:List Nat) (left:Int) (w:World) (h:dP n w [c0,c1,c2,c3] p bs) (h0:0≤left) (h1:left≤1048576),Calls Tryz.prog 9 #[.agg #[c0,c1,c2,c3],.int .i64 left] w (Left left (iG p) w.heap.size w)) (y:List Pf) (v:Value) (bs:List Nat) (left:Int) (w:World) (h:kY n w [v] y bs) (h0:0≤left) (h1:left≤1048576):
  Calls Tryz.prog 35 #[v,.int .i64 left] w (Left left ((y.length+dh iG y:Nat)) w.heap.size w):=by
 obtain ⟨Ad,cap,rfl,hl,hm⟩:=ai h;have a5:=ay (τ hl hm);have IH:=η ih;clear hm ih
 go_enter Tryz.func35,Tryz.ntmps35
 go_wp2
 ·go_ret
  exact ⟨ϑ,_,rfl,.inl rfl⟩
 ·go_loopw [1,5] (fun l i wr=>∃ (k:Nat) (m:Int),k≤y.length∧i=.int .i64 k∧l=.int .i64 m∧0≤m∧m≤1048576∧m+y.length+dh iG (y.take k)=left∧Below w.heap.size w wr) (fun _ i _=>y.length - (intOf i).toNat)
  case atStart=>exact ⟨0,_,ε,rfl,rfl,by assumption,by omega,by simp [dh],ϑ⟩
  case round=>
   obtain ⟨k,m,hk,rfl,rfl,U,a3,I,J⟩:=hrel;have HS:=η I;clear I;by_cases a0:k < y.length
   ·have hw:=(dm n).below h J
    obtain ⟨b,o,Ae,ce,Af,cf,bk,rfl,_,c0,c1,c2,c3,a1,_⟩:=jJ hw a0;have HT:=η (kR iG y k a0);clear h hw;generalize y[k]=t at *
    go_wp2_with fail
    refine (IH.out t _ _ _ _ bk m _ a1 U a3).mono ?_;rintro e w' ⟨a2,r,rfl,hr⟩;clear a1;go_wp2
    ·rcases hr with rfl | ⟨_,_⟩
     ·go_ret
      exact ⟨J.trans (a2.mono J.size),_,rfl,.inl rfl⟩
     ·exfalso; omega
    ·rcases hr with rfl | ⟨a4,a6⟩
     ·exfalso; omega
     ·have:=HS.out
      have:=HT.out;go_roundw
      case rel=>exact ⟨k+1,r,by omega,by go_num,rfl,a4,by omega,by omega,J.trans (a2.mono J.size)⟩
      case measure=>simp [intOf]; omega
   ·have he:k=y.length:=by omega
    go_wp2;go_ret;refine ⟨J,_,rfl,.inr ⟨U,?_⟩⟩;have:=HS.out;rw [he,ϕ ν] at this;omega
theorem IZ:∀ (n:Nat) (p:Pf) (J c1 c2 U:Value) (bs:List Nat) (left:Int) (w:World) (h:dP n w [J,c1,c2,U] p bs) (h0:0≤left) (h1:left≤1048576),
  Calls Tryz.prog 9 #[.agg #[J,c1,c2,U],.int .i64 left] w (Left left (iG p) w.heap.size w):=by
 intro n
 induction n with
 | zero=>exact fun p J c1 c2 U bs left w h _ _=>h.elim
 | succ n ih=>
  intro p J c1 c2 U bs left w h h0 h1;obtain ⟨Ad,cap,Ae,I,b1,b2,rfl,rfl,rfl,rfl,rfl,_,hp,hq⟩:=gV h;have q1:=fun w' (hb:Below w.heap.size w w')=>qc p.fact _ _ b1 left w' (ak.below hp hb) h0 h1
  have q2:=fun l (g0:0≤l) (g1:l≤1048576) w' (hb:Below w.heap.size w w')=>IY n ih p.kids _ b2 l w' ((dm n).below hq hb) g0 g1
  have HB:=η (yB p);clear h hp hq ih;have hA:=(Below.refl w.heap.size w).alloc ν (.cells #[.string p.fact.name,.slice Ad p.fact.args.length cap,.int .i64 p.rule,.slice Ae p.kids.length I] 29)
  go_enter Tryz.func9,Tryz.ntmps9
  go_wp2_with fail
  refine (q1 _ hA).mono ?_;rintro e w1 ⟨y,z,rfl,hr⟩;have B1:=hA.trans (y.mono hA.size);have x0:w1.cell? ⟨w.heap.size,0,none⟩=some (.string p.fact.name):=ξ y (by go_simp);have x1:w1.cell? ⟨w.heap.size,1,none⟩=some (.slice Ad p.fact.args.length cap):=ξ y (by go_simp);have x2:w1.cell? ⟨w.heap.size,2,none⟩=some (.int .i64 p.rule):=ξ y (by go_simp);have x3:w1.cell? ⟨w.heap.size,3,none⟩=some (.slice Ae p.kids.length I):=ξ y (by go_simp);clear q1 hA
  rcases hr with rfl | ⟨a0,a4⟩
  ·go_wp2
   go_ret;exact ⟨B1,_,rfl,.inl rfl⟩
  ·go_wp2_with fail
   refine (q2 z a0 (by omega) _ B1).mono ?_;rintro e w2 ⟨a1,z2,rfl,a2⟩;have B2:=B1.trans (a1.mono B1.size)
   rcases a2 with rfl | ⟨a3,a5⟩
   ·go_wp2
    go_ret;exact ⟨B2,_,rfl,.inl rfl⟩
   ·go_wp2
    go_ret;exact ⟨B2,_,rfl,.inr ⟨a3,by rw [HB.out]; omega⟩⟩
theorem I4 (n:Nat) (ih:∀ (p:Pf) (c0 c1 c2 c3:Value) (bs:List Nat) (w:World) (h:dP n w [c0,c1,c2,c3] p bs) (hn:iG p≤1048576),Calls Tryz.prog 13 #[.agg #[c0,c1,c2,c3]] w (tV (dP n) p w.heap.size w)) (I:List Pf) (v:Value) (bs:List Nat) (w:World) (h:kY n w [v] I bs) (hn:I.length+dh iG I≤1048576):
  Calls Tryz.prog 40 #[v] w (Makes (kY n) I w.heap.size w):=by
 obtain ⟨Ad,cap,rfl,hl,hm⟩:=ai h;obtain ⟨i0,hi,a5,a6,a7⟩:=info_parts OG;have IH:=η ih;clear hm ih
 go_enter Tryz.func40,Tryz.ntmps40
 go_wp2_with (refine wpList_make_full _ rfl _ _ _ rfl w.heap.size 43 i0 _ 4 Tryz.underlying41 hi a5 a6 _ _ _ _ I.length rfl rfl rfl rfl (by rw [a7]; omega) (by unfold maxLen; omega) ν ?_; intro w1 J U)
 have a3:Below w.heap.size w w1:=ϑ.grown U ν (fun _ e=>by cases e);have a8:w.heap.size < w1.heap.size:=(J.lt _ rfl).2;clear U
 go_loopw [4] (fun i wr=>∃ (k:Nat) (L:List Value) (bs':List Nat),k≤I.length∧i=.int .i64 k∧wr.ownsRow w.heap.size 43 4 (.slice (some ⟨w.heap.size,0,none⟩) I.length I.length) I.length L∧
   fE 4 (dP n) w1.heap.size wr L I k bs'∧Below w.heap.size w wr∧w1.heap.size≤wr.heap.size) (fun i _=>I.length - (intOf i).toNat)
 case atStart=>exact ⟨0,_,_,ε,rfl,J,fE.start,a3,ν⟩
 case round=>
  obtain ⟨k,L,bs',hk,rfl,a1,hF,hb,a9⟩:=hrel;clear J a3;by_cases a2:k < I.length
  ·have hw:=(dm n).below h hb
   obtain ⟨b,o,Ae,ce,Af,cf,bk,rfl,_,c0,c1,c2,c3,a4,_⟩:=jJ hw a2;have aa:iG I[k]≤1048576:=by have:=rX iG I k a2; omega
   have HK:=η hF;clear h hw hF;have hL:=η a1.1
   go_wp2_with fail
   refine (IH.out I[k] _ _ _ _ bk _ a4 aa).mono ?_;rintro e w' ⟨a0,ab,b2,rfl,hR,hN⟩;obtain ⟨ac,ae,af,ag,rfl⟩:=lG hR;have y:=own_below a1 a0;obtain ⟨⟨u0,am⟩,ao⟩:=iJ y (j:=k * 4) (by omega);obtain ⟨⟨u1,ap⟩,aq⟩:=iJ y (j:=k * 4+1) (by omega);obtain ⟨⟨u2,ar⟩,av⟩:=iJ y (j:=k * 4+2) (by omega);obtain ⟨⟨u3,aw⟩,az⟩:=iJ y (j:=k * 4+3) (by omega);obtain ⟨R1,R2,R3,R4⟩:=VO (cZ n) a1 HK.out a2 hb a0 a8 ν a9 hR hN;clear y a4 hR hN;go_wp2;go_roundw
   case rel=>exact ⟨k+1,_,_,by omega,by go_num,R1,R2,R3,R4⟩
   case measure=>simp [intOf]; omega
  ·have he:k=I.length:=by omega
   subst he;have HF:=η hF;clear hF;go_wp2;go_ret;obtain ⟨b2,r1,r2,r3,r4⟩:=HF.out.slice a1 (fun hm=>by have:=(HF.out.new.own _ hm).1; omega);refine ⟨hb,_,b2,rfl,r1,r2,fun b a0=>⟨?_,r4 b a0⟩⟩
   rcases r3 b a0 with ⟨rfl,h⟩ | h
   ·exact h
   ·have:=(HF.out.new.own b h).1; omega
theorem OH : ∀ (n : Nat) (p : Pf) (c0 c1 c2 c3 : Value) (bs : List Nat) (w : World) (h : dP n w [c0, c1, c2, c3] p bs) (hn : iG p ≤ 1048576),
    Calls Tryz.prog 13 #[.agg #[c0, c1, c2, c3]] w (tV (dP n) p w.heap.size w) := by
  intro n
  induction n with
  | zero => exact fun p c0 c1 c2 c3 bs w h _ => h.elim
  | succ n ih =>
    intro p c0 c1 c2 c3 bs w h hn;have ap := (IX h).1;have aq := (IX h).2;obtain ⟨Ad, cap, Ae, a5, b1, b2, rfl, rfl, rfl, rfl, rfl, _, hp, hq⟩ := gV h;have aD : jl p.fact + (p.kids.length + dh iG p.kids) ≤ 1048576 := by rw [← yB]; exact hn
    have q1 := fun w' (U : Below w.heap.size w w') => wV p.fact _ _ b1 w' (ak.below hp U) (by omega)
    have q2 := fun w' (U : Below w.heap.size w w') => I4 n ih p.kids _ b2 w' ((dm n).below hq U) (by omega)
    clear h hp hq ih hn;have hA := (((Below.refl w.heap.size w).alloc (Nat.le_refl _) (.cells #[.string p.fact.name, .slice Ad p.fact.args.length cap, .int .i64 p.rule, .slice Ae p.kids.length a5] 29)).alloc (by simp) (.cells #[.string ⟨#[]⟩, .slice none 0 0, .int .i64 0, .slice none 0 0] 43)).alloc (by simp; omega) (.cells #[.string ⟨#[]⟩, .slice none 0 0, .int .i64 0, .slice none 0 0] 43)
    go_enter Tryz.func13, Tryz.ntmps13
    go_wp2_with fail
    refine (q1 _ hA).mono ?_;rintro e J ⟨y, aE, a2, rfl, a7, a8⟩;obtain ⟨a3, a0, rfl⟩ := mr a7;have B1 := hA.trans (y.mono hA.size);have x0 : J.cell? ⟨w.heap.size, 0, none⟩ = some (.string p.fact.name) := cell_later y (by go_simp);have x1 : J.cell? ⟨w.heap.size, 1, none⟩ = some (.slice Ad p.fact.args.length cap) := cell_later y (by go_simp);have x2 : J.cell? ⟨w.heap.size, 2, none⟩ = some (.int .i64 p.rule) := cell_later y (by go_simp);have x3 : J.cell? ⟨w.heap.size, 3, none⟩ = some (.slice Ae p.kids.length a5) := cell_later y (by go_simp);have k0 : J.cell? ⟨w.heap.size + 1 + 1, 0, none⟩ = some (.string ⟨#[]⟩) := cell_later y (by go_simp);have k1 : J.cell? ⟨w.heap.size + 1 + 1, 1, none⟩ = some (.slice none 0 0) := cell_later y (by go_simp);have k2 : J.cell? ⟨w.heap.size + 1 + 1, 2, none⟩ = some (.int .i64 0) := cell_later y (by go_simp);have k3 : J.cell? ⟨w.heap.size + 1 + 1, 3, none⟩ = some (.slice none 0 0) := cell_later y (by go_simp)
    have l0 : J.cell? ⟨w.heap.size + 1, 0, none⟩ = some (.string ⟨#[]⟩) := cell_later y (by go_simp);have l1 : J.cell? ⟨w.heap.size + 1, 1, none⟩ = some (.slice none 0 0) := cell_later y (by go_simp);have l2 : J.cell? ⟨w.heap.size + 1, 2, none⟩ = some (.int .i64 0) := cell_later y (by go_simp);have l3 : J.cell? ⟨w.heap.size + 1, 3, none⟩ = some (.slice none 0 0) := cell_later y (by go_simp);have f0 : J.frozen? ⟨w.heap.size + 1 + 1, 0, none⟩ = false := (y.frozen (p := ⟨w.heap.size + 1 + 1, 0, none⟩) (by simp)).trans (by go_simp);have f1 : J.frozen? ⟨w.heap.size + 1 + 1, 1, none⟩ = false := (y.frozen (p := ⟨w.heap.size + 1 + 1, 1, none⟩) (by simp)).trans (by go_simp);have f2 : J.frozen? ⟨w.heap.size + 1 + 1, 2, none⟩ = false := (y.frozen (p := ⟨w.heap.size + 1 + 1, 2, none⟩) (by simp)).trans (by go_simp);have f3 : J.frozen? ⟨w.heap.size + 1 + 1, 3, none⟩ = false := (y.frozen (p := ⟨w.heap.size + 1 + 1, 3, none⟩) (by simp)).trans (by go_simp)
    have g0 : J.frozen? ⟨w.heap.size + 1, 0, none⟩ = false := (y.frozen (p := ⟨w.heap.size + 1, 0, none⟩) (by simp)).trans (by go_simp);have g1 : J.frozen? ⟨w.heap.size + 1, 1, none⟩ = false := (y.frozen (p := ⟨w.heap.size + 1, 1, none⟩) (by simp)).trans (by go_simp);have g2 : J.frozen? ⟨w.heap.size + 1, 2, none⟩ = false := (y.frozen (p := ⟨w.heap.size + 1, 2, none⟩) (by simp)).trans (by go_simp);have g3 : J.frozen? ⟨w.heap.size + 1, 3, none⟩ = false := (y.frozen (p := ⟨w.heap.size + 1, 3, none⟩) (by simp)).trans (by go_simp);have a4 : ∀ b ∈ a2, w.heap.size + 1 + 1 < b := fun b U => by have := (a8.own b U).1; simp at this; omega
    have aL : w.heap.size + 1 + 1 < J.heap.size := lt_of_cell k0;have a9 : Below w.heap.size w (((J.setCell ⟨w.heap.size + 1 + 1, 0, none⟩ (.string p.fact.name)).setCell ⟨w.heap.size + 1 + 1, 1, none⟩ (.slice a3 p.fact.args.length a0)).setCell ⟨w.heap.size + 1 + 1, 2, none⟩ (.int .i64 p.rule)) := ((B1.setCell (by simp; omega) _).setCell (by simp; omega) _).setCell (by simp; omega) _;clear hA q1
    go_wp2_with fail
    refine (q2 _ a9).mono ?_;rintro e w2 ⟨I, v2, aa, rfl, ae, af⟩;obtain ⟨ab, a1, rfl, _, _⟩ := ai ae;have B2 := a9.trans (I.mono a9.size);have aM : w2.cell? ⟨w.heap.size + 1 + 1, 0, none⟩ = some (.string p.fact.name) := cell_later I (by go_simp);have aR : w2.cell? ⟨w.heap.size + 1 + 1, 1, none⟩ = some (.slice a3 p.fact.args.length a0) := cell_later I (by go_simp);have b3 : w2.cell? ⟨w.heap.size + 1 + 1, 2, none⟩ = some (.int .i64 p.rule) := cell_later I (by go_simp);have b4 : w2.cell? ⟨w.heap.size + 1 + 1, 3, none⟩ = some (.slice none 0 0) := cell_later I (by go_simp);have ar : w2.cell? ⟨w.heap.size + 1, 0, none⟩ = some (.string ⟨#[]⟩) := cell_later I (by go_simp);have av : w2.cell? ⟨w.heap.size + 1, 1, none⟩ = some (.slice none 0 0) := cell_later I (by go_simp);have aw : w2.cell? ⟨w.heap.size + 1, 2, none⟩ = some (.int .i64 0) := cell_later I (by go_simp)
    have az : w2.cell? ⟨w.heap.size + 1, 3, none⟩ = some (.slice none 0 0) := cell_later I (by go_simp);have b5 : w2.frozen? ⟨w.heap.size + 1 + 1, 3, none⟩ = false := (I.frozen (p := ⟨w.heap.size + 1 + 1, 3, none⟩) (by simp; omega)).trans (by go_simp);have b6 : w2.frozen? ⟨w.heap.size + 1, 0, none⟩ = false := (I.frozen (p := ⟨w.heap.size + 1, 0, none⟩) (by simp; omega)).trans (by go_simp);have b7 : w2.frozen? ⟨w.heap.size + 1, 1, none⟩ = false := (I.frozen (p := ⟨w.heap.size + 1, 1, none⟩) (by simp; omega)).trans (by go_simp);have b8 : w2.frozen? ⟨w.heap.size + 1, 2, none⟩ = false := (I.frozen (p := ⟨w.heap.size + 1, 2, none⟩) (by simp; omega)).trans (by go_simp);have b9 : w2.frozen? ⟨w.heap.size + 1, 3, none⟩ = false := (I.frozen (p := ⟨w.heap.size + 1, 3, none⟩) (by simp; omega)).trans (by go_simp);have a6 : ∀ b ∈ aa, w.heap.size + 1 + 1 < b := fun b U => by have := (af.own b U).1; simp at this; omega
    have ac : ∀ b ∈ a2, (((J.setCell ⟨w.heap.size + 1 + 1, 0, none⟩ (.string p.fact.name)).setCell ⟨w.heap.size + 1 + 1, 1, none⟩ (.slice a3 p.fact.args.length a0)).setCell ⟨w.heap.size + 1 + 1, 2, none⟩ (.int .i64 p.rule)).heap[b]? = J.heap[b]? := fun b U => by
      have := a4 b U;rw [Below.heap_setCell _ _ _ _ (by simp; omega), Below.heap_setCell _ _ _ _ (by simp; omega), Below.heap_setCell _ _ _ _ (by simp; omega)]
    have ag := ak.below (ak.keep a7 ac) I;have am := (a8.keep ac).below I;have ao : ∀ b ∈ a2, b < J.heap.size := fun b U => a8.lt U
    clear x0 x1 x2 x3 k0 k1 k2 k3 l0 l1 l2 l3 f0 f1 f2 f3 g0 g1 g2 g3 q2 ac a7;go_wp2
    have hk : ∀ b, w.heap.size + 1 + 1 < b → (((((w2.setCell ⟨w.heap.size + 1 + 1, 3, none⟩ (.slice ab p.kids.length a1)).setCell ⟨w.heap.size + 1, 0, none⟩ (.string p.fact.name)).setCell ⟨w.heap.size + 1, 1, none⟩ (.slice a3 p.fact.args.length a0)).setCell ⟨w.heap.size + 1, 2, none⟩ (.int .i64 p.rule)).setCell ⟨w.heap.size + 1, 3, none⟩ (.slice ab p.kids.length a1)).heap[b]? = w2.heap[b]? := fun b U => by
      rw [Below.heap_setCell _ _ _ _ (by simp; omega), Below.heap_setCell _ _ _ _ (by simp; omega), Below.heap_setCell _ _ _ _ (by simp; omega), Below.heap_setCell _ _ _ _ (by simp; omega), Below.heap_setCell _ _ _ _ (by simp; omega)]
    exact bodyPost_ret (v := .agg #[.string p.fact.name, .slice a3 p.fact.args.length a0, .int .i64 p.rule, .slice ab p.kids.length a1]) (by simp [results, Tryz.results13, go_sem, ar, av, aw, az]) rfl
      ⟨(((((B2.setCell (by first | (simp; done) | (simp; omega)) _).setCell (by first | (simp; done) | (simp; omega)) _).setCell (by first | (simp; done) | (simp; omega)) _).setCell (by first | (simp; done) | (simp; omega)) _).setCell (by first | (simp; done) | (simp; omega)) _), _, a2 ++ aa, rfl, ⟨_, _, a2, aa, rfl, aq, ap, rfl, aG.keep (dK ag) (fun b U => hk b (a4 b U)), (dm n).keep ae (fun b U => hk b (a6 b U))⟩,
        (New.append ((am.keep (fun b U => hk b (a4 b U))).mono (B' := w.heap.size) (by simp; omega)) ((af.keep (fun b U => hk b (a6 b U))).mono (B' := J.heap.size) (by simp)) (by have := B1.size; omega) ao)⟩
theorem I5 (n:Nat) (ih:∀ (p:Pf) (U c1 c2 c3 d0 d1 d2 d3:Value) (b1 b2:List Nat) (w:World) (h1:dP n w [U,c1,c2,c3] p b1) (h2:dP n w [d0,d1,d2,d3] p b2),Calls Tryz.prog 17 #[.agg #[U,c1,c2,c3],.agg #[d0,d1,d2,d3]] w (Yes w.heap.size w)) (I:List Pf) (v1 v2:Value) (b1 b2:List Nat) (w:World) (h1:kY n w [v1] I b1) (h2:kY n w [v2] I b2):
  Calls Tryz.prog 46 #[v1,v2] w (Yes w.heap.size w):=by
 obtain ⟨Ad,cap,rfl,hl,hm⟩:=ai h1;obtain ⟨a9,cap2,rfl,aa,a2⟩:=ai h2;have ab:=ay (τ hl hm);have IH:=η ih;clear hm a2 ih
 go_enter Tryz.func46,Tryz.ntmps46
 go_wp2
 go_loopw [5] (fun i wr=>∃ k:Nat,k≤I.length∧i=.int .i64 k∧Below w.heap.size w wr) (fun i _=>I.length - (intOf i).toNat)
 case atStart=>exact ⟨0,ε,rfl,ϑ⟩
 case round=>
  obtain ⟨k,hk,rfl,hb⟩:=hrel;by_cases a0:k < I.length
  ·obtain ⟨b,o,Ae,ce,Af,cf,bk,rfl,_,U,c1,c2,c3,a1,_⟩:=jJ ((dm n).below h1 hb) a0
   obtain ⟨b',o',a3,a4,a5,a6,a7,rfl,_,d0,d1,d2,d3,J,_⟩:=jJ ((dm n).below h2 hb) a0;clear h1 h2;have H1:=η ((cZ n).below a1 (Below.drew ϑ));have H2:=η ((cZ n).below J (Below.drew ϑ));have a8:(k:Int) < (I.length:Int):=by omega
   have ac:(0:Int)≤(k:Int):=by omega
   clear a1 J;go_wp2
   go_region_held3 (fun w'=>w'.cell? ⟨b,o+k * 4,none⟩=some (.string I[k].fact.name)∧w'.cell? ⟨b,o+k * 4+1,none⟩=some (.slice Ae I[k].fact.args.length ce)∧w'.cell? ⟨b,o+k * 4+2,none⟩=some (.int .i64 I[k].rule)∧w'.cell? ⟨b,o+k * 4+3,none⟩=some (.slice Af I[k].kids.length cf)∧w'.cell? ⟨b',o'+k * 4,none⟩=some (.string I[k].fact.name)∧w'.cell? ⟨b',o'+k * 4+1,none⟩=some (.slice a3 I[k].fact.args.length a4)∧w'.cell? ⟨b',o'+k * 4+2,none⟩=some (.int .i64 I[k].rule)∧w'.cell? ⟨b',o'+k * 4+3,none⟩=some (.slice a5 I[k].kids.length a6)) (first | exact ⟨U,c1,c2,c3,d0,d1,d2,d3⟩ | exact ⟨ξ y U,ξ y c1,ξ y c2,ξ y c3,ξ y d0,ξ y d1,ξ y d2,ξ y d3⟩ | go_keep)
    (first | (go_at_call 17; refine (IH.out I[k] _ _ _ _ _ _ _ _ bk a7 _ H1.out H2.out).mono ?_; rintro e w' ⟨rfl,y⟩))
   go_wp2;go_roundw
   case rel=>exact ⟨k+1,by omega,by go_num,hb.trans ((Below.drew ϑ).trans (y.mono hb.size))⟩
   case measure=>simp [intOf]; omega
  ·have he:k=I.length:=by omega
   subst he;go_wp2;go_ret;exact ⟨rfl,hb⟩
theorem F9:∀ (n:Nat) (p:Pf) (c0 c1 c2 c3 d0 d1 d2 d3:Value) (b1 b2:List Nat) (w:World) (h1:dP n w [c0,c1,c2,c3] p b1) (h2:dP n w [d0,d1,d2,d3] p b2),
  Calls Tryz.prog 17 #[.agg #[c0,c1,c2,c3],.agg #[d0,d1,d2,d3]] w (Yes w.heap.size w):=by
 intro n
 induction n with
 | zero=>exact fun p c0 c1 c2 c3 d0 d1 d2 d3 b1 b2 w h _=>h.elim
 | succ n ih=>
  intro p c0 c1 c2 c3 d0 d1 d2 d3 b1 b2 w h1 h2;obtain ⟨Ad,cap,Ae,I,p1,p2,rfl,rfl,rfl,rfl,rfl,_,a0,a1⟩:=gV h1;obtain ⟨Bd,a2,Be,J,r1,r2,rfl,rfl,rfl,rfl,rfl,_,a3,a4⟩:=gV h2;have hA:=((Below.refl w.heap.size w).alloc ν (.cells #[.string p.fact.name,.slice Ad p.fact.args.length cap,.int .i64 p.rule,.slice Ae p.kids.length I] 43)).alloc (by simp) (.cells #[.string p.fact.name,.slice Bd p.fact.args.length a2,.int .i64 p.rule,.slice Be p.kids.length J] 43);have q1:=fun w' (hb:Below w.heap.size w w')=>nI p.fact _ _ _ _ p1 r1 w' (ak.below a0 hb) (ak.below a3 hb)
  have q2:=fun w' (hb:Below w.heap.size w w')=>I5 n ih p.kids _ _ p2 r2 w' ((dm n).below a1 hb) ((dm n).below a4 hb)
  clear h1 h2 a0 a1 a3 a4 ih
  go_enter Tryz.func17,Tryz.ntmps17
  go_wp2_with fail
  refine (q1 _ hA).mono ?_;rintro e U ⟨rfl,y⟩;have B1:=hA.trans (y.mono hA.size);have x0:U.cell? ⟨w.heap.size,0,none⟩=some (.string p.fact.name):=ξ y (by go_simp);have x1:U.cell? ⟨w.heap.size,1,none⟩=some (.slice Ad p.fact.args.length cap):=ξ y (by go_simp);have x2:U.cell? ⟨w.heap.size,2,none⟩=some (.int .i64 p.rule):=ξ y (by go_simp);have x3:U.cell? ⟨w.heap.size,3,none⟩=some (.slice Ae p.kids.length I):=ξ y (by go_simp);have y0:U.cell? ⟨w.heap.size+1,0,none⟩=some (.string p.fact.name):=ξ y (by go_simp);have y1:U.cell? ⟨w.heap.size+1,1,none⟩=some (.slice Bd p.fact.args.length a2):=ξ y (by go_simp);have y2:U.cell? ⟨w.heap.size+1,2,none⟩=some (.int .i64 p.rule):=ξ y (by go_simp);have y3:U.cell? ⟨w.heap.size+1,3,none⟩=some (.slice Be p.kids.length J):=ξ y (by go_simp);clear q1 hA
  go_wp2_with fail
  refine (q2 _ B1).mono ?_;rintro e w2 ⟨rfl,a5⟩;have B2:=B1.trans (a5.mono B1.size);go_wp2;go_ret;exact ⟨rfl,B2⟩
theorem Rk:(Tryz.prog.info? 40).map (fun i=>(i.zero,i.size,i.bytes))=some (some (.agg #[.string ⟨#[]⟩,.slice none 0 0]),2,40):=by kernel_rfl
theorem I7 (y:List A) (v:Value) (bs:List Nat) (left:Int) (w:World) (h:aQ w [v] y bs) (h0:0≤left) (h1:left≤1048576):
  Calls Tryz.prog 8 #[v,.int .i64 left] w (Left left (EX y) w.heap.size w):=by
 obtain ⟨Ad,cap,rfl,hl,hm⟩:=ai h;have a6:=ay (τ hl hm);have U:EX y=y.length+dh jl y:=rfl;have HB:=η U;clear hm U
 go_enter Tryz.func8,Tryz.ntmps8
 go_wp2
 ·go_ret
  exact ⟨ϑ,_,rfl,.inl rfl⟩
 ·go_loopw [1,5] (fun l i wr=>∃ (k:Nat) (m:Int),k≤y.length∧i=.int .i64 k∧l=.int .i64 m∧0≤m∧m≤1048576∧m+y.length+dh jl (y.take k)=left∧Below w.heap.size w wr) (fun _ i _=>y.length - (intOf i).toNat)
  case atStart=>exact ⟨0,_,ε,rfl,rfl,by assumption,by omega,by simp [dh],ϑ⟩
  case round=>
   obtain ⟨k,m,hk,rfl,rfl,a0,a4,I,J⟩:=hrel;have HS:=η I;clear I;by_cases a1:k < y.length
   ·have hw:=au.below h J
    obtain ⟨b,o,Ae,ce,bk,rfl,_,c0,c1,a2,_⟩:=dQ hw a1;have HT:=η (kR jl y k a1);clear h hw;generalize y[k]=t at *
    go_wp2_with fail
    refine (qc t _ _ bk m _ a2 a0 a4).mono ?_;rintro e w' ⟨a3,r,rfl,hr⟩;clear a2;go_wp2
    ·rcases hr with rfl | ⟨_,_⟩
     ·go_ret
      exact ⟨J.trans (a3.mono J.size),_,rfl,.inl rfl⟩
     ·exfalso; omega
    ·rcases hr with rfl | ⟨a5,a7⟩
     ·exfalso; omega
     ·have:=HS.out
      have:=HT.out;go_roundw
      case rel=>exact ⟨k+1,r,by omega,by go_num,rfl,a5,by omega,by omega,J.trans (a3.mono J.size)⟩
      case measure=>simp [intOf]; omega
   ·have he:k=y.length:=by omega
    go_wp2;go_ret;refine ⟨J,_,rfl,.inr ⟨a0,?_⟩⟩;have:=HS.out;rw [he,ϕ ν] at this;rw [HB.out];omega
theorem I8 (y:List A) (v:Value) (bs:List Nat) (w:World) (h:aQ w [v] y bs) (hn:EX y≤1048576):
  Calls Tryz.prog 12 #[v] w (Makes aQ y w.heap.size w):=by
 obtain ⟨Ad,cap,rfl,hl,hm⟩:=ai h;obtain ⟨i0,hi,a5,a6,a7⟩:=info_parts Rk;have ab:y.length+dh jl y≤1048576:=hn;clear hm
 go_enter Tryz.func12,Tryz.ntmps12
 go_wp2_with (refine wpList_make_full _ rfl _ _ _ rfl w.heap.size 40 i0 _ 2 Tryz.underlying36 hi a5 a6 _ _ _ _ y.length rfl rfl rfl rfl (by rw [a7]; omega) (by unfold maxLen; omega) ν ?_; intro w1 I J)
 have a3:Below w.heap.size w w1:=ϑ.grown J ν (fun _ e=>by cases e);have a8:w.heap.size < w1.heap.size:=(I.lt _ rfl).2;clear J
 go_loopw [4] (fun i wr=>∃ (k:Nat) (L:List Value) (bs':List Nat),k≤y.length∧i=.int .i64 k∧wr.ownsRow w.heap.size 40 2 (.slice (some ⟨w.heap.size,0,none⟩) y.length y.length) y.length L∧
   fE 2 aP w1.heap.size wr L y k bs'∧Below w.heap.size w wr∧w1.heap.size≤wr.heap.size) (fun i _=>y.length - (intOf i).toNat)
 case atStart=>exact ⟨0,_,_,ε,rfl,I,fE.start,a3,ν⟩
 case round=>
  obtain ⟨k,L,bs',hk,rfl,a1,hF,hb,a9⟩:=hrel;clear I a3;by_cases a2:k < y.length
  ·have hw:=au.below h hb
   obtain ⟨b,o,Ae,ce,bk,rfl,_,c0,c1,a4,_⟩:=dQ hw a2;have aa:jl y[k]≤1048576:=by have:=rX jl y k a2; omega
   have HK:=η hF;clear h hw hF;have hL:=η a1.1
   go_wp2_with fail
   refine (wV y[k] _ _ bk _ a4 aa).mono ?_;rintro e w' ⟨U,ac,b2,rfl,hR,hN⟩;obtain ⟨ae,af,rfl⟩:=mr hR;have a0:=own_below a1 U;obtain ⟨⟨u0,ag⟩,am⟩:=iJ a0 (j:=k * 2) (by omega);obtain ⟨⟨u1,ao⟩,ap⟩:=iJ a0 (j:=k * 2+1) (by omega);obtain ⟨R1,R2,R3,R4⟩:=U2 ak a1 HK.out a2 hb U a8 ν a9 hR hN;clear a0 a4 hR hN;go_wp2;go_roundw
   case rel=>exact ⟨k+1,_,_,by omega,by go_num,R1,R2,R3,R4⟩
   case measure=>simp [intOf]; omega
  ·have he:k=y.length:=by omega
   subst he;have HF:=η hF;clear hF;go_wp2;go_ret;obtain ⟨b2,r1,r2,r3,r4⟩:=HF.out.slice a1 (fun hm=>by have:=(HF.out.new.own _ hm).1; omega);refine ⟨hb,_,b2,rfl,r1,r2,fun b U=>⟨?_,r4 b U⟩⟩
   rcases r3 b U with ⟨rfl,h⟩ | h
   ·exact h
   ·have:=(HF.out.new.own b h).1; omega
theorem Gf (y:List A) (v1 v2:Value) (b1 b2:List Nat) (w:World) (h1:aQ w [v1] y b1) (h2:aQ w [v2] y b2):
  Calls Tryz.prog 16 #[v1,v2] w (Yes w.heap.size w):=by
 obtain ⟨Ad,cap,rfl,hl,hm⟩:=ai h1;obtain ⟨a7,cap2,rfl,a8,a2⟩:=ai h2;have a9:=ay (τ hl hm);clear hm a2
 go_enter Tryz.func16,Tryz.ntmps16
 go_wp2
 go_loopw [5] (fun i wr=>∃ k:Nat,k≤y.length∧i=.int .i64 k∧Below w.heap.size w wr) (fun i _=>y.length - (intOf i).toNat)
 case atStart=>exact ⟨0,ε,rfl,ϑ⟩
 case round=>
  obtain ⟨k,hk,rfl,U⟩:=hrel;by_cases a0:k < y.length
  ·obtain ⟨b,o,Ae,ce,bk,rfl,_,c0,c1,a1,_⟩:=dQ (au.below h1 U) a0
   obtain ⟨b',o',a3,a4,a5,rfl,_,d0,d1,J,_⟩:=dQ (au.below h2 U) a0;clear h1 h2;have H1:=η (ak.below a1 (Below.drew ϑ));have H2:=η (ak.below J (Below.drew ϑ));have a6:(k:Int) < (y.length:Int):=by omega
   have aa:(0:Int)≤(k:Int):=by omega
   clear a1 J;go_wp2
   go_region_held3 (fun w'=>w'.cell? ⟨b,o+k * 2,none⟩=some (.string y[k].name)∧w'.cell? ⟨b,o+k * 2+1,none⟩=some (.slice Ae y[k].args.length ce)∧w'.cell? ⟨b',o'+k * 2,none⟩=some (.string y[k].name)∧w'.cell? ⟨b',o'+k * 2+1,none⟩=some (.slice a3 y[k].args.length a4)) (first | go_keep | exact ⟨ξ I c0,ξ I c1,ξ I d0,ξ I d1⟩)
    (first | (go_at_call 45; refine (nI y[k] _ _ _ _ bk a5 _ H1.out H2.out).mono ?_; rintro e w' ⟨rfl,I⟩))
   go_wp2;go_roundw
   case rel=>exact ⟨k+1,by omega,by go_num,U.trans ((Below.drew ϑ).trans (I.mono U.size))⟩
   case measure=>simp [intOf]; omega
  ·have he:k=y.length:=by omega
   subst he;go_wp2;go_ret;exact ⟨rfl,U⟩
end Go.Proofs.YtlmngncogomgeaaGreatDoor
