/- Of the proof of FnExactProofOk: QryQ, HPartS, WoS. -/
import Derived.Test.YtlmngncogomgeaaGreatDoorM15
import Derived.Test.YtlmngncogomgeaaGreatDoorM17
set_option linter.unusedVariables false
set_option maxHeartbeats 4000000
set_option maxRecDepth 100000
namespace Go.Proofs.YtlmngncogomgeaaGreatDoor
section
open Go.RowKit D
theorem D.Rl {w w':World} {base e size n:Nat} {v:Value} {L:List Value} (h:w.ownsRow base e size v n L) (hk:∀ b,v.ownBlock=some b→w'.heap[b]? = w.heap[b]?):w'.ownsRow base e size v n L:=by
 refine ⟨h.1,?_⟩
 rcases h.2 with I | ⟨g,cap,y,rfl,J,U,h5⟩
 ·exact .inl I
 ·exact .inr ⟨g,cap,y,rfl,J,(hk g (by simp [Value.ownBlock])).trans U,h5⟩
theorem D.bD {w:World} {base e size n b:Nat} {v:Value} {L:List Value} (h:w.ownsRow base e size v n L) (hb:v.ownBlock=some b):base≤b∧b < w.heap.size:=by
 rcases h.2 with ⟨rfl,_⟩ | ⟨g,cap,y,rfl,I,J,_⟩
 ·simp [Value.ownBlock] at hb
 ·simp [Value.ownBlock] at hb
  subst hb;exact ⟨I,ψ J⟩
theorem D.cu.lI {α:Type} {n:Nat} {R:Rel α} {base e:Nat} {w w':World} {v:Value} {L:List Value} {xs:List α} {y:List Nat} (g:Good R) (h:cu n R base e w v L xs y)
  (h1:∀ b,v.ownBlock=some b→w'.heap[b]? = w.heap[b]?) (I:∀ b ∈ y,w'.heap[b]? = w.heap[b]?):cu n R base e w' v L xs y:=
 ⟨Rl h.own h1,h.row.keep g I,h.far⟩
theorem D.sK (ps:List Pt) (k:Nat) (h:k < ps.length):bW (ps.take (k+1))=bW (ps.take k) ++ (if ps[k].no then [] else [ps[k].atom]):=by
 unfold bW;rw [ρ h,List.filter_append,List.map_append]
 cases hn:ps[k].no <;> simp [hn]
theorem D.OO (ps:List Pt) (k:Nat) (h:k < ps.length):bH (ps.take (k+1))=bH (ps.take k) ++ (if ps[k].no then [ps[k].atom] else []):=by
 unfold bH;rw [ρ h,List.filter_append,List.map_append]
 cases hn:ps[k].no <;> simp [hn]
structure D.sW (vars:List ByteArray) (w:World) (hz hb B:Nat) (vv:Value) (b3:List Nat) (v1:Value) (L1:List Value) (xs1:List A) (bs1:List Nat) (v2:Value) (L2:List Value) (xs2:List A) (bs2:List Nat) (wr:World):Prop where
 r0:wr.heap[hz]? = some (.cells #[.slice none 0 0,.slice none 0 0,.slice none 0 0] 134 (0,0))
 r1:wr.heap[hb]? = some (.cells #[v1,v2,vv] 134 (0,0))
 h0:w.heap.size≤hz
 h1:hz < hb
 hB:hb < B
 c1:cu 2 (DF vars) B 143 wr v1 L1 xs1 bs1
 c2:cu 2 (DF vars) B 143 wr v2 L2 xs2 bs2
 k1:∀ b ∈ bs1,B≤b
 k2:∀ b ∈ bs2,B≤b
 f12:∀ b,v1.ownBlock=some b→v2.ownBlock ≠ some b∧b ∉ bs2
 f21:∀ b,v2.ownBlock=some b→b ∉ bs1
 vs:jA wr [vv] vars b3
 kv:∀ b ∈ b3,w.heap.size≤b∧b < hb∧b ≠ hz
 bel:Below w.heap.size w wr
 oH:B≤wr.heap.size
section
variable {vars:List ByteArray} {w:World} {hz hb B:Nat} {vv:Value} {b3:List Nat} {v1:Value} {L1:List Value} {xs1:List A} {bs1:List Nat} {v2:Value} {L2:List Value} {xs2:List A} {bs2:List Nat} {wr:World}
theorem D.sW.later {w' : World} (h : sW vars w hz hb B vv b3 v1 L1 xs1 bs1 v2 L2 xs2 bs2 wr) (hk : Below wr.heap.size wr w') : sW vars w hz hb B vv b3 v1 L1 xs1 bs1 v2 L2 xs2 bs2 w' :=
  ⟨(hk.block _ (lt_of_block h.r0)).trans h.r0, (hk.block _ (lt_of_block h.r1)).trans h.r1, h.h0, h.h1, h.hB, h.c1.below (gY _) hk, h.c2.below (gY _) hk, h.k1, h.k2, h.f12, h.f21, bV.below h.vs hk, h.kv,
    h.bel.trans (hk.mono h.bel.size), Nat.le_trans h.oH hk.size⟩
theorem D.sW.lit {a:A} {I:Value} {b9:List Nat} {y:World} {v:Value} {L:List Value} {n:Nat} (hk:Below wr.heap.size wr y) (hB:B≤wr.heap.size) (J:wr.ownsRow B 143 2 v n L) (a0:a.name.size≤maxLen) (hp:jG vars y [I] a.args b9) (h9:Value.oneCell' I=true):
  (y.alloc (.cells #[.string a.name,I] 143)).ownsRow B 143 2 v n L∧
   Lies (y.alloc (.cells #[.string a.name,I] 143)) (some ⟨y.heap.size,0,none⟩) [.string a.name,I]∧(∀ u ∈ [.string a.name,I],Value.oneCell' u=true)∧B≤(y.alloc (.cells #[.string a.name,I] 143)).heap.size:=by
 have hA:Below y.heap.size y (y.alloc (.cells #[.string a.name,I] 143)):=ζ;have hb:=hk.trans (hA.mono hk.size);refine ⟨own_below J hb,by have:=aS (ω y (.cells #[.string a.name,I] 143)); simpa using this,fun u U=>?_,τ hB hb.size⟩
 rcases ύ.1 U with rfl | U
 ·rfl
 ·rw [ώ.1 U]; exact h9
theorem D.sW.app1 {a:A} {v9:Value} {b9:List Nat} {J w5:World} {A5:Option Addr} {c5:Nat} (h:sW vars w hz hb B vv b3 v1 L1 xs1 bs1 v2 L2 xs2 bs2 wr) (hk:Below wr.heap.size wr J) (a7:a.name.size≤maxLen) (hp:jG vars J [v9] a.args b9) (hn:New wr.heap.size J b9) (h9:Value.oneCell' v9=true)
  (a5:w5.ownsRow B 143 2 (.slice A5 (xs1.length+1) c5) (xs1.length+1) (L1 ++ [.string a.name,v9])) (hg:(J.alloc (.cells #[.string a.name,v9] 143)).grownBy w5 v1.ownBlock)
  (a2:(Value.slice A5 (xs1.length+1) c5).ownBlock=v1.ownBlock∨(Value.slice A5 (xs1.length+1) c5).ownBlock=some (J.alloc (.cells #[.string a.name,v9] 143)).heap.size):
  w5.cell? ⟨hb,0,none⟩=some v1∧w5.cell? ⟨hb,1,none⟩=some v2∧w5.cell? ⟨hb,2,none⟩=some vv∧w5.frozen? ⟨hb,0,none⟩=false∧
   sW vars w hz hb B vv b3 (.slice A5 (xs1.length+1) c5) (L1 ++ [.string a.name,v9]) (xs1 ++ [a]) (bs1 ++ b9) v2 L2 xs2 bs2 (w5.setCell ⟨hb,0,none⟩ (.slice A5 (xs1.length+1) c5)):=by
 have hA:Below J.heap.size J (J.alloc (.cells #[.string a.name,v9] 143)):=ζ;have a8:=hk.trans (hA.mono hk.size);have h2:=h.later a8;have ag:=h2.oH;have am:=hk.size;have a9:=h.hB;have aa:=h.h1;have ab:=h.h0;have ao:=h.oH;have g9:∀ b ∈ b9,wr.heap.size≤b∧b < J.heap.size:=fun b hb=>⟨(hn.own b hb).1,hn.lt hb⟩
 have a0:∀ b,b < J.heap.size+1→v1.ownBlock ≠ some b→w5.heap[b]? = (J.alloc (.cells #[.string a.name,v9] 143)).heap[b]?:=fun b hb a4=>hg.block b (by simpa using hb) (fun e=>a4 e.symm)
 have o1:∀ b,v1.ownBlock=some b→B≤b∧b < wr.heap.size:=fun b hb=>bD h.c1.own hb
 have o2:∀ b,v2.ownBlock=some b→B≤b∧b < wr.heap.size:=fun b hb=>bD h.c2.own hb
 have l1:∀ b ∈ bs1,b < wr.heap.size:=fun b hb=>h.c1.row.lt (gY _) b hb
 have l2:∀ b ∈ bs2,b < wr.heap.size:=fun b hb=>h.c2.row.lt (gY _) b hb
 have n1:v1.ownBlock ≠ some hb:=fun e=>by have:=(o1 _ e).1; omega
 have n0:v1.ownBlock ≠ some hz:=fun e=>by have:=(o1 _ e).1; omega
 have a1:=(a0 hb (by omega) n1).trans h2.r1;have ac:=(a0 hz (by omega) n0).trans h2.r0;have ae:DF vars (J.alloc (.cells #[.string a.name,v9] 143)) [.string a.name,v9] a b9:=⟨v9,rfl,a7,(bU _).below hp hA⟩
 have af:cu 2 (DF vars) B 143 w5 (.slice A5 (xs1.length+1) c5) (L1 ++ [.string a.name,v9]) (xs1 ++ [a]) (bs1 ++ b9):=
  h2.c1.app (gY _) (aV.dY (Eu _) ae) (fun b hb e=>by have:=(o1 _ e).2; have:=(g9 b hb).1; omega) a5 hg a2
 have U:∀ b,b ≠ hb→(w5.setCell ⟨hb,0,none⟩ (.slice A5 (xs1.length+1) c5)).heap[b]? = w5.heap[b]?:=fun b a4=>π _ _ _ _ a4
 have a3:∀ b,(Value.slice A5 (xs1.length+1) c5).ownBlock=some b→v1.ownBlock=some b∨b=J.heap.size+1:=fun b e=>by
  rcases a2 with I | I
  ·left; rw [← I]; exact e
  ·right; rw [I] at e; simp at e; omega
 refine ⟨aj a1,aj a1,aj a1,aB a1,⟨(U _ (by omega)).trans ac,?_,ab,aa,a9,?_,?_,?_,h.k2,?_,?_,?_,h.kv,?_,?_⟩⟩
 ·have:=bY (o:=0) (u:=.slice A5 (xs1.length+1) c5) a1
  simpa using this
 ·exact af.lI (gY _) (fun b e=>U b (fun e2=>by
   subst e2
   rcases a3 _ e with I | I
   ·exact n1 I
   ·omega)) (fun b y=>U b (fun e2=>by
   subst e2
   rcases μ.1 y with I | I
   ·have:=h.k1 _ I; omega
   ·have:=(g9 _ I).1; omega))
 ·refine (h2.c2.lI (gY _) (fun b e=>?_) (fun b y=>?_))
  ·have:=o2 _ e
   rw [U b (by omega)];exact a0 b (by omega) (fun e2=>(h.f12 b e2).1 e)
  ·have:=l2 _ y
   have:=h.k2 _ y;rw [U b (by omega)];exact a0 b (by omega) (fun e2=>(h.f12 b e2).2 y)
 ·intro b y
  rcases μ.1 y with I | I
  ·exact h.k1 _ I
  ·have:=(g9 _ I).1; omega
 ·intro b e
  rcases a3 _ e with I | I
  ·exact h.f12 b I
  ·exact ⟨fun e2=>by have:=(o2 _ e2).2; omega,fun e2=>by have:=l2 _ e2; omega⟩
 ·intro b e y
  rcases μ.1 y with I | I
  ·exact h.f21 b e I
  ·have:=(o2 _ e).2; have:=(g9 _ I).1; omega
 ·refine bV.keep h2.vs fun b y=>?_
  have:=h.kv b y;rw [U b (by omega)];exact a0 b (by omega) (fun e=>by have:=(o1 _ e).1; omega)
 ·have a6:Below w.heap.size w w5:=h2.bel.grown hg h2.bel.size fun k e=>by have:=(o1 _ e).1; omega
  exact a6.setCell (by show w.heap.size≤hb; omega) _
 ·have:=hg.size; simp [World.setCell]; simp at this; omega
theorem D.sW.V4 {a:A} {v9:Value} {b9:List Nat} {J w5:World} {A5:Option Addr} {c5:Nat} (h:sW vars w hz hb B vv b3 v1 L1 xs1 bs1 v2 L2 xs2 bs2 wr) (hk:Below wr.heap.size wr J) (a7:a.name.size≤maxLen) (hp:jG vars J [v9] a.args b9) (hn:New wr.heap.size J b9) (h9:Value.oneCell' v9=true)
  (a5:w5.ownsRow B 143 2 (.slice A5 (xs2.length+1) c5) (xs2.length+1) (L2 ++ [.string a.name,v9])) (hg:(J.alloc (.cells #[.string a.name,v9] 143)).grownBy w5 v2.ownBlock)
  (a3:(Value.slice A5 (xs2.length+1) c5).ownBlock=v2.ownBlock∨(Value.slice A5 (xs2.length+1) c5).ownBlock=some (J.alloc (.cells #[.string a.name,v9] 143)).heap.size):
  w5.cell? ⟨hb,0,none⟩=some v1∧w5.cell? ⟨hb,1,none⟩=some v2∧w5.cell? ⟨hb,2,none⟩=some vv∧w5.frozen? ⟨hb,1,none⟩=false∧
   sW vars w hz hb B vv b3 v1 L1 xs1 bs1 (.slice A5 (xs2.length+1) c5) (L2 ++ [.string a.name,v9]) (xs2 ++ [a]) (bs2 ++ b9) (w5.setCell ⟨hb,1,none⟩ (.slice A5 (xs2.length+1) c5)):=by
 have hA:Below J.heap.size J (J.alloc (.cells #[.string a.name,v9] 143)):=ζ;have a8:=hk.trans (hA.mono hk.size);have h2:=h.later a8;have ag:=h2.oH;have am:=hk.size;have a9:=h.hB;have aa:=h.h1;have ab:=h.h0;have ao:=h.oH;have g9:∀ b ∈ b9,wr.heap.size≤b∧b < J.heap.size:=fun b hb=>⟨(hn.own b hb).1,hn.lt hb⟩
 have a0:∀ b,b < J.heap.size+1→v2.ownBlock ≠ some b→w5.heap[b]? = (J.alloc (.cells #[.string a.name,v9] 143)).heap[b]?:=fun b hb a4=>hg.block b (by simpa using hb) (fun e=>a4 e.symm)
 have o1:∀ b,v1.ownBlock=some b→B≤b∧b < wr.heap.size:=fun b hb=>bD h.c1.own hb
 have o2:∀ b,v2.ownBlock=some b→B≤b∧b < wr.heap.size:=fun b hb=>bD h.c2.own hb
 have l1:∀ b ∈ bs1,b < wr.heap.size:=fun b hb=>h.c1.row.lt (gY _) b hb
 have l2:∀ b ∈ bs2,b < wr.heap.size:=fun b hb=>h.c2.row.lt (gY _) b hb
 have n1:v2.ownBlock ≠ some hb:=fun e=>by have:=(o2 _ e).1; omega
 have n0:v2.ownBlock ≠ some hz:=fun e=>by have:=(o2 _ e).1; omega
 have a1:=(a0 hb (by omega) n1).trans h2.r1;have ac:=(a0 hz (by omega) n0).trans h2.r0;have ae:DF vars (J.alloc (.cells #[.string a.name,v9] 143)) [.string a.name,v9] a b9:=⟨v9,rfl,a7,(bU _).below hp hA⟩
 have af:cu 2 (DF vars) B 143 w5 (.slice A5 (xs2.length+1) c5) (L2 ++ [.string a.name,v9]) (xs2 ++ [a]) (bs2 ++ b9):=
  h2.c2.app (gY _) (aV.dY (Eu _) ae) (fun b hb e=>by have:=(o2 _ e).2; have:=(g9 b hb).1; omega) a5 hg a3
 have U:∀ b,b ≠ hb→(w5.setCell ⟨hb,1,none⟩ (.slice A5 (xs2.length+1) c5)).heap[b]? = w5.heap[b]?:=fun b a4=>π _ _ _ _ a4
 have a2:∀ b,(Value.slice A5 (xs2.length+1) c5).ownBlock=some b→v2.ownBlock=some b∨b=J.heap.size+1:=fun b e=>by
  rcases a3 with I | I
  ·left; rw [← I]; exact e
  ·right; rw [I] at e; simp at e; omega
 refine ⟨aj a1,aj a1,aj a1,aB a1,⟨(U _ (by omega)).trans ac,?_,ab,aa,a9,?_,?_,h.k1,?_,?_,?_,?_,h.kv,?_,?_⟩⟩
 ·have:=bY (o:=1) (u:=.slice A5 (xs2.length+1) c5) a1
  simpa using this
 ·refine (h2.c1.lI (gY _) (fun b e=>?_) (fun b y=>?_))
  ·have:=o1 _ e
   rw [U b (by omega)];exact a0 b (by omega) (fun e2=>(h.f12 b e).1 e2)
  ·have:=l1 _ y
   have:=h.k1 _ y;rw [U b (by omega)];exact a0 b (by omega) (fun e2=>h.f21 b e2 y)
 ·exact af.lI (gY _) (fun b e=>U b (fun e2=>by
   subst e2
   rcases a2 _ e with I | I
   ·exact n1 I
   ·omega)) (fun b y=>U b (fun e2=>by
   subst e2
   rcases μ.1 y with I | I
   ·have:=h.k2 _ I; omega
   ·have:=(g9 _ I).1; omega))
 ·intro b y
  rcases μ.1 y with I | I
  ·exact h.k2 _ I
  ·have:=(g9 _ I).1; omega
 ·intro b e
  refine ⟨fun e2=>?_,fun y=>?_⟩
  ·rcases a2 _ e2 with I | I
   ·exact (h.f12 b e).1 I
   ·have:=(o1 _ e).2; omega
  ·rcases μ.1 y with I | I
   ·exact (h.f12 b e).2 I
   ·have:=(o1 _ e).2; have:=(g9 _ I).1; omega
 ·intro b e y
  rcases a2 _ e with I | I
  ·exact h.f21 b I y
  ·have:=l1 _ y; omega
 ·refine bV.keep h2.vs fun b y=>?_
  have:=h.kv b y;rw [U b (by omega)];exact a0 b (by omega) (fun e=>by have:=(o2 _ e).1; omega)
 ·have a6:Below w.heap.size w w5:=h2.bel.grown hg h2.bel.size fun k e=>by have:=(o2 _ e).1; omega
  exact a6.setCell (by show w.heap.size≤hb; omega) _
 ·have:=hg.size; simp [World.setCell]; simp at this; omega
end
end
section
open Go.RowKit D
attribute [local go_sem ↓] Go.wp_at_zero Go.wp_at_succ
theorem Rn:(Tryz.prog.info? 209).map (fun i=>(i.zero,i.size,i.bytes))=some (some (.agg #[.bool false,.string ⟨#[]⟩,.slice none 0 0]),3,48):=by kernel_rfl
theorem Jh (y:List Pt) (v:Value) (bs:List Nat) (left:Int) (w:World) (h:gJ w [v] y bs) (h0:0≤left) (h1:left≤1048576):
  Calls Tryz.prog 74 #[v,.int .i64 left] w (Left left (rY y) w.heap.size w):=by
 obtain ⟨Ad,cap,rfl,hl,hm⟩:=ai h;have a5:=ay (τ hl hm);have J:rY y=y.length+dh nY y:=rfl;have HB:=η J;clear hm J
 go_enter Tryz.func74,Tryz.ntmps74
 go_wp2
 ·go_ret
  exact ⟨ϑ,_,rfl,.inl rfl⟩
 ·go_loopw [1,5] (fun l i wr=>∃ (k:Nat) (m:Int),k≤y.length∧i=.int .i64 k∧l=.int .i64 m∧0≤m∧m≤1048576∧m+y.length+dh nY (y.take k)=left∧Below w.heap.size w wr) (fun _ i _=>y.length - (intOf i).toNat)
  case atStart=>exact ⟨0,_,ε,rfl,rfl,by assumption,by omega,by simp [dh],ϑ⟩
  case round=>
   obtain ⟨k,m,hk,rfl,rfl,U,a3,I,hb⟩:=hrel;have HS:=η I;clear I;by_cases a0:k < y.length
   ·have hw:=aU.below h hb
    obtain ⟨b,o,Ae,ce,bk,rfl,_,c0,c1,c2,a1,_⟩:=eU hw a0;have HT:=η (kR nY y k a0);clear h hw;generalize y[k]=t at *
    go_wp2_with fail
    refine (LX t _ _ _ bk m _ a1 U a3).mono ?_;rintro e w' ⟨a2,r,rfl,hr⟩;clear a1;go_wp2
    ·rcases hr with rfl | ⟨_,_⟩
     ·go_ret
      exact ⟨hb.trans (a2.mono hb.size),_,rfl,.inl rfl⟩
     ·exfalso; omega
    ·rcases hr with rfl | ⟨a4,a6⟩
     ·exfalso; omega
     ·have:=HS.out
      have:=HT.out;go_roundw
      case rel=>exact ⟨k+1,r,by omega,by go_num,rfl,a4,by omega,by omega,hb.trans (a2.mono hb.size)⟩
      case measure=>simp [intOf]; omega
   ·have he:k=y.length:=by omega
    go_wp2;go_ret;refine ⟨hb,_,rfl,.inr ⟨U,?_⟩⟩;have:=HS.out;rw [he,ϕ ν] at this;rw [HB.out];omega
theorem Ji (y:List Pt) (v:Value) (bs:List Nat) (w:World) (h:gJ w [v] y bs) (hn:rY y≤1048576):
  Calls Tryz.prog 79 #[v] w (Makes gJ y w.heap.size w):=by
 obtain ⟨Ad,cap,rfl,hl,hm⟩:=ai h;obtain ⟨i0,hi,a5,a6,a7⟩:=info_parts Rn;have ab:y.length+dh nY y≤1048576:=hn;clear hm
 go_enter Tryz.func79,Tryz.ntmps79
 go_wp2_with (refine wpList_make_full _ rfl _ _ _ rfl w.heap.size 209 i0 _ 3 Tryz.underlying75 hi a5 a6 _ _ _ _ y.length rfl rfl rfl rfl (by rw [a7]; omega) (by unfold maxLen; omega) ν ?_; intro w1 J U)
 have a3:Below w.heap.size w w1:=ϑ.grown U ν (fun _ e=>by cases e);have a8:w.heap.size < w1.heap.size:=(J.lt _ rfl).2;clear U
 go_loopw [4] (fun i wr=>∃ (k:Nat) (L:List Value) (bs':List Nat),k≤y.length∧i=.int .i64 k∧wr.ownsRow w.heap.size 209 3 (.slice (some ⟨w.heap.size,0,none⟩) y.length y.length) y.length L∧
   fE 3 nC w1.heap.size wr L y k bs'∧Below w.heap.size w wr∧w1.heap.size≤wr.heap.size) (fun i _=>y.length - (intOf i).toNat)
 case atStart=>exact ⟨0,_,_,ε,rfl,J,fE.start,a3,ν⟩
 case round=>
  obtain ⟨k,L,bs',hk,rfl,a1,hF,hb,a9⟩:=hrel;clear J a3;by_cases a2:k < y.length
  ·have hw:=aU.below h hb
   obtain ⟨b,o,Ae,ce,bk,rfl,_,c0,c1,c2,a4,_⟩:=eU hw a2;have aa:nY y[k]≤1048576:=by have:=rX nY y k a2; omega
   have HK:=η hF;clear h hw hF;have hL:=η a1.1
   go_wp2_with fail
   refine (Rj y[k] _ _ _ bk _ a4 aa).mono ?_;rintro e w' ⟨a0,ac,b2,rfl,hR,hN⟩;obtain ⟨ae,af,rfl⟩:=Kt hR;have I:=own_below a1 a0;obtain ⟨⟨u0,ag⟩,am⟩:=iJ I (j:=k * 3) (by omega);obtain ⟨⟨u1,ao⟩,ap⟩:=iJ I (j:=k * 3+1) (by omega);obtain ⟨⟨u2,aq⟩,ar⟩:=iJ I (j:=k * 3+2) (by omega);obtain ⟨R1,R2,R3,R4⟩:=U3 pJ a1 HK.out a2 hb a0 a8 ν a9 hR hN;clear I a4 hR hN;go_wp2;go_roundw
   case rel=>exact ⟨k+1,_,_,by omega,by go_num,R1,R2,R3,R4⟩
   case measure=>simp [intOf]; omega
  ·have he:k=y.length:=by omega
   subst he;have HF:=η hF;clear hF;go_wp2;go_ret;obtain ⟨b2,r1,r2,r3,r4⟩:=HF.out.slice a1 (fun hm=>by have:=(HF.out.new.own _ hm).1; omega);refine ⟨hb,_,b2,rfl,r1,r2,fun b a0=>⟨?_,r4 b a0⟩⟩
   rcases r3 b a0 with ⟨rfl,h⟩ | h
   ·exact h
   ·have:=(HF.out.new.own b h).1; omega
theorem Ez:(Tryz.prog.info? 198).map (fun i=>(i.zero,i.size,i.bytes))=some (some (.agg #[.slice none 0 0,.slice none 0 0]),2,48):=by kernel_rfl
theorem D.vK:Bc 2 iC:=fun h=>by
 obtain ⟨s,v,I,b2,rfl,_,h1,y⟩:=h;obtain ⟨J,p1,rfl,_⟩:=ai h1;obtain ⟨U,p2,rfl,_⟩:=ai y;simp [Value.oneCell']
theorem D.xC {w:World} {Ad:Option Addr} {len cap k:Nat} {xs:List Bd} {bs:List Nat} (h:qQ w [.slice Ad len cap] xs bs) (hk:k < xs.length):
  ∃ b o J p1 U p2 bk,Ad=some ⟨b,o,none⟩∧b ∈ bs∧w.cell? ⟨b,o+k * 2,none⟩=some (.slice J xs[k].length p1)∧w.cell? ⟨b,o+k * 2+1,none⟩=some (.slice U xs[k].length p2)∧iC w [.slice J xs[k].length p1,.slice U xs[k].length p2] xs[k] bk∧∀ c ∈ bk,c ∈ bs:=by
 obtain ⟨b,o,cs,bk,rfl,hb,a0,y,hR,I⟩:=gW h hk;obtain ⟨J,p1,U,p2,rfl⟩:=jD hR;exact ⟨b,o,J,p1,U,p2,bk,rfl,hb,by simpa using y 0 _ rfl,by simpa [Nat.add_assoc] using y 1 _ rfl,hR,I⟩
theorem D.Me (list:List A) (body:List Pt) (b:Bd) (k:Nat) (h:k < body.length):dW list (body.take (k+1)) b=(dW list (body.take k) b && (!body[k].no || !hasB list (aY body[k].atom b))):=by
 unfold dW;rw [ρ h,List.all_append];simp
theorem DI (list:List A) (body:List Pt) (all:List Bd) (v0 v1 v2:Value) (bl bb ba:List Nat) (w:World) (hl:aQ w [v0] list bl) (hb:gJ w [v1] body bb) (h:qQ w [v2] all ba)
  (af:iF list=true) (hn:all.length≤10000000000) (ag:∀ p ∈ body,p.atom.args.length≤1000000):
  Calls Tryz.prog 179 #[v0,v1,v2] w fun e w'=>Below w.heap.size w w'∧∃ v bs,e=.returned v∧qQ w' [v] (all.filter (dW list body)) bs:=by
 obtain ⟨Al,pl,rfl,aR,b1⟩:=ai hl;obtain ⟨Ab,pb,rfl,b4,am⟩:=ai hb;obtain ⟨Aa,pa,rfl,b6,ap⟩:=ai h;obtain ⟨i0,hi,b7,b8,b9⟩:=info_parts Ez;have bu:=ay (τ b4 am);have bt:=ay (τ b6 ap);have HL:=η hl;have HB:=η hb;have HA:=η h;have bc:=η ag;clear hl hb h aR b1 am ap ag;have aq:Below w.heap.size w (w.alloc (.cells #[] 198)):=ζ;have hE:cu 2 iC w.heap.size 198 (w.alloc (.cells #[] 198)) (.slice (some ⟨w.heap.size,0,none⟩) 0 0) [] [] []:=cu.empty (ω w _) ν
 go_enter Tryz.func179,Tryz.ntmps179
 go_wp2_with fail
 generalize w.alloc (.cells #[] 198)=w0 at *
 go_loopw [7,8,9,10] (fun o i _ _ wr=>∃ (k:Nat) (Am:Option Addr) (cm:Nat) (L:List Value) (bs:List Nat),k≤all.length∧i=.int .i64 k∧o=.slice Am ((all.take k).filter (dW list body)).length cm∧Hid (cu 2 iC w.heap.size 198 wr (.slice Am ((all.take k).filter (dW list body)).length cm) L ((all.take k).filter (dW list body)) bs)∧Hid (Below w.heap.size w wr)) (fun _ i _ _ _=>all.length - (intOf i).toNat)
 case atStart=>exact ⟨0,_,_,_,_,ε,rfl,rfl,η hE,η aq⟩
 case round=>
  obtain ⟨k,Am,cm,L,bs,hk,rfl,rfl,hC,a5⟩:=hrel;clear hE aq;by_cases a3:k < all.length
  ·have bv:(0:Int)≤(k:Int):=by omega
   have bf:(k:Int) < (all.length:Int):=by omega
   have a6:Hid ((all.take (k+1)).filter (dW list body)=(all.take k).filter (dW list body) ++ (if dW list body all[k] then [all[k]] else [])):=η (by
    rw [ρ a3,List.filter_append]
    congr 1
    by_cases hf:dW list body all[k]=true
    ·simp [List.filter,hf]
    ·simp [List.filter,hf])
   have aa:Hid (((all.take k).filter (dW list body)).length≤k):=η (τ (List.length_filter_le _ _) (by simp; omega));generalize hys:(all.take k).filter (dW list body)=ys at *;generalize hb0:all[k]=b0 at *;clear hys;generalize wr=wo at *
   go_wp2_with fail
   go_loopw [9,10] (fun ok i wr=>∃ (j:Nat),j≤body.length∧i=.int .i64 j∧ok=.bool (dW list (body.take j) b0)∧Hid (Below wo.heap.size wo wr)) (fun _ i _=>body.length - (intOf i).toNat)
   case atStart=>exact ⟨0,ε,rfl,rfl,η ϑ⟩
   case round=>
    obtain ⟨j,hj,rfl,rfl,J⟩:=hrel;have y:=a5.out.trans (J.out.mono a5.out.size);by_cases U:j < body.length
    ·obtain ⟨ac,po,Ae,ce,bk,rfl,_,e0,e1,e2,a7,_⟩:=eU (aU.below HB.out y) U
     obtain ⟨ae,ao,A1,p1,A2,p2,bq,rfl,_,d0,d1,I,_⟩:=xC (lm.below HA.out y) a3;rw [hb0] at d0 d1 I;have bw:(0:Int)≤(j:Int):=by omega
     have bg:(j:Int) < (body.length:Int):=by omega
     have a1:=η (Me list body b0 j U);have bx:=η U;have bh:=η (bc.out _ (δ U));generalize body[j]=p at *;obtain ⟨bi,px⟩:=p;dsimp only at *
     cases hfb:dW list (body.take j) b0 with
     | false=>
      have HZ:Hid (dW list (body.take (j+1)) b0=false):=η (by rw [a1.out,hfb]; rfl);clear a1 hfb e0 e1 e2 a7 d0 d1 I
      go_wp2_with fail
      go_quiet (fail)
      go_wp2;go_roundw
      case rel=>exact ⟨j+1,U,by go_num,by rw [HZ.out],η (below_drewN J.out _)⟩
      case measure=>simp [intOf]; omega
     | true=>
      cases bi with
      | false=>
       have HZ:Hid (dW list (body.take (j+1)) b0=true):=η (by rw [a1.out,hfb]; rfl);clear a1 hfb e1 e2 a7 d0 d1 I
       go_wp2_with fail
       go_quiet (fail)
       go_wp2;go_roundw
       case rel=>exact ⟨j+1,U,by go_num,by rw [HZ.out],η (below_drewN J.out _)⟩
       case measure=>simp [intOf]; omega
      | true=>
       have HZ:Hid (dW list (body.take (j+1)) b0 = !hasB list (aY px b0)):=η (by rw [a1.out,hfb]; simp)
       have ar:aP wr [.string px.name,.slice Ae px.args.length ce] px bk:=by
        obtain ⟨t,av,h1,h2⟩:=a7;simp only [List.cons.injEq,true_and,and_true] at av;subst av;exact ⟨_,rfl,h1,h2⟩
       have hD:Below wr.heap.size wr wr.drew:=Below.drew ϑ;have q1:=fun w' (hb:Below wr.heap.size wr w')=>CO px b0 _ _ _ _ bk bq w' (ak.below ar hb) (bJ.below I hb) bh.out
       have q2:=fun w' (hb:Below wr.heap.size wr w') d0 d1 b5 (h5:aP w' [d0,d1] (aY px b0) b5)=>yI list (aY px b0) _ d0 d1 bl b5 w' (au.below HL.out (y.trans (hb.mono y.size))) h5 af
       have Q1:=η q1;have Q2:=η q2;clear a1 hfb a7 I q1 q2 ar
       go_wp2_with fail
       go_region_held3 (fun w'=>w'.cell? ⟨ac,po+j * 3,none⟩=some (.bool true)∧w'.cell? ⟨ac,po+j * 3+1,none⟩=some (.string px.name)∧w'.cell? ⟨ac,po+j * 3+2,none⟩=some (.slice Ae px.args.length ce)∧w'.cell? ⟨ae,ao+k * 2,none⟩=some (.slice A1 b0.length p1)∧w'.cell? ⟨ae,ao+k * 2+1,none⟩=some (.slice A2 b0.length p2))
        (first | go_keep | exact hq | exact aw)
        (first
         | (go_at_call 131; refine (Q1.out _ hD).mono ?_; rintro e w5 ⟨az,g0,g1,b5,rfl,h5,_⟩; have B5:=hD.trans (az.mono hD.size); have hq:=ι (ξ B5 e0) (ι (ξ B5 e1) (ι (ξ B5 e2) (ι (ξ B5 d0) (ξ B5 d1)))))
         | (go_at_call 71; refine (Q2.out _ B5 _ _ _ h5).mono ?_; rintro e w6 ⟨rfl,aD⟩; have B6:=B5.trans (aD.mono B5.size); have aw:=ι (ξ B6 e0) (ι (ξ B6 e1) (ι (ξ B6 e2) (ι (ξ B6 d0) (ξ B6 d1))))))
       have bj:=η (J.out.trans (B6.mono J.out.size));clear Q1 Q2 hq aw h5 az aD B5 B6 e0 e1 e2 d0 d1;go_wp2;go_roundw
       case rel=>exact ⟨j+1,U,by go_num,by rw [HZ.out],bj⟩
       case measure=>simp [intOf]; omega
    ·have he:j=body.length:=by omega
     have bg:¬ (j:Int) < (body.length:Int):=by omega
     have a8:Hid (dW list (body.take j) b0=dW list body b0):=η (by rw [he,ϕ ν]);have a9:=η (hC.out.below bJ J.out);have a0:=η y;clear he hj
     cases hfb:dW list (body.take j) b0 with
     | false=>
      have HE:Hid ((all.take (k+1)).filter (dW list body)=ys):=η (by rw [a6.out,← a8.out,hfb]; simp);clear hfb a6 a8;go_wp2;go_roundw
      case rel=>exact ⟨k+1,Am,cm,L,bs,a3,by go_num,by rw [HE.out],by rw [HE.out]; exact a9,a0⟩
      case measure=>simp [intOf]; omega
     | true=>
      have HE:Hid ((all.take (k+1)).filter (dW list body)=ys ++ [b0]):=η (by rw [a6.out,← a8.out,hfb]; simp);obtain ⟨ae,ao,A1,p1,A2,p2,bq,rfl,_,d0,d1,I,aE⟩:=xC (lm.below HA.out y) a3;rw [hb0] at d0 d1 I;clear hfb a6 a8;have a4:Below wr.heap.size wr (wr.alloc (.cells #[.slice A1 b0.length p1,.slice A2 b0.length p2] 198)):=ζ
      have ab:∀ c ∈ bq,(Value.slice Am ys.length cm).ownBlock ≠ some c:=fun c hc e=>by
       have h1:=(ja a9.out.own c e).1;have h2:=lm.lt HA.out c (aE c hc);omega
      have a2:Hid (cu 2 iC w.heap.size 198 (wr.alloc (.cells #[.slice A1 b0.length p1,.slice A2 b0.length p2] 198)) (.slice Am ys.length cm) L ys bs∧aV 2 iC (wr.alloc (.cells #[.slice A1 b0.length p1,.slice A2 b0.length p2] 198)) [.slice A1 b0.length p1,.slice A2 b0.length p2] [b0] bq∧Lies (wr.alloc (.cells #[.slice A1 b0.length p1,.slice A2 b0.length p2] 198)) (some ⟨wr.heap.size,0,none⟩) [.slice A1 b0.length p1,.slice A2 b0.length p2]∧Below w.heap.size w (wr.alloc (.cells #[.slice A1 b0.length p1,.slice A2 b0.length p2] 198))∧w.heap.size≤(wr.alloc (.cells #[.slice A1 b0.length p1,.slice A2 b0.length p2] 198)).heap.size∧∀ c ∈ bq,(Value.slice Am ys.length cm).ownBlock ≠ some c):=
       η ⟨a9.out.below bJ a4,aV.dY vK (bJ.below I a4),aS (ω wr _),a0.out.trans (a4.mono a0.out.size),τ a0.out.size a4.size,ab⟩
      have bn:Hid (ys.length+1≤maxLen):=η (by have:=aa.out; unfold maxLen; omega);have bo:Hid ((ys.length+1) * 48≤140737488355328):=η (by have:=aa.out; omega);clear a4 ab I hC a5 y J a9
      go_wp2_with (at_builtin; refine gU rfl _ _ _ rfl w.heap.size 198 i0 (.agg #[.slice none 0 0,.slice none 0 0]) 2 48 Tryz.underlying194 hi b7 b8 b9 rfl (Θ 1) bJ (.slice Am ys.length cm) ys.length L _ bs rfl a2.out.1 rfl (some ⟨wr.heap.size,0,none⟩) 1 1 _ [b0] bq rfl a2.out.2.1 rfl a2.out.2.2.1 a2.out.2.2.2.2.2 bn.out bo.out w w.heap.size a2.out.2.2.2.1 ν a2.out.2.2.2.2.1 ?_; intro A4 c4 w4 aL aM bp br; have HZ:=η (ι aL aM); clear aL aM bp br)
      go_roundw
      case rel=>exact ⟨k+1,A4,c4,_,_,a3,by go_num,by rw [HE.out,χ]; rfl,by rw [HE.out,χ]; exact η HZ.out.1,η HZ.out.2⟩
      case measure=>simp [intOf]; omega
  ·have he:k=all.length:=by omega
   have bf:¬ (k:Int) < (all.length:Int):=by omega
   have HR:Hid (∃ b2,qQ wr [.slice Am ((all.take k).filter (dW list body)).length cm] (all.filter (dW list body)) b2):=η (by
    obtain ⟨b2,h2,_⟩:=hC.out.slice;rw [he,ϕ ν] at h2;rw [he,ϕ ν]
    exact ⟨b2,h2⟩)
   clear hC he hk;go_wp2;go_ret;exact ⟨a5.out,_,rfl,HR.out⟩
end
end Go.Proofs.YtlmngncogomgeaaGreatDoor
