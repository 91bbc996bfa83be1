/- Of the proof of FnExactProofOk: Facts, ModI, HRule, StoP. -/
import Derived.Test.YtlmngncogomgeaaGreatDoorM18
import Derived.Test.YtlmngncogomgeaaGreatDoorM19
import Derived.Test.YtlmngncogomgeaaGreatDoorM20
set_option linter.unusedVariables false
set_option maxHeartbeats 2000000
namespace Go.Proofs.YtlmngncogomgeaaGreatDoor
section
open Go.RowKit D
set_option linter.unusedSimpArgs false
attribute [local go_sem ↓] Go.wp_at_zero Go.wp_at_succ
theorem D.bP {P:Program} {ops:Array Oper} {Q:Exit→Act→World→Prop} {I:Region.Mode} {S:World→Prop} (i:Nat) {d op ty ps af gd} {fuel:Nat} {listed:Array Bool} {a:Act} {w:World} (hi:ops[i]? = some (Oper.mk d op ty ps af gd))
  (y:(Region.noSelect ops && Region.free I ops listed i && (Region.ready I ops listed).contains i && !Region.wanted (Oper.mk d op ty ps af gd) (yielded ops a.tmps))=true) (J:∀ c a w,Q (.panic c) (a.put d undef) w→Q (.panic c) a w) (U:S w)
  (h:wpAnyH P I ops Q S fuel (listed.setIfInBounds i true) (a.put d undef) w):wpAnyH P I ops Q S (fuel+1) listed a w:=by
 simp only [ο,Bool.not_eq_true'] at y;exact wpAnyH_take hi y.1.1.1 y.1.1.2 y.1.2 J (.inr ⟨y.2,rfl⟩) U h
theorem D.dB {P:Program} {ops:Array Oper} {Q:Exit→Act→World→Prop} {I:Region.Mode} {S:World→Prop} (i:Nat) {d op ty ps af gd} {v:Value} {fuel:Nat} {listed:Array Bool} {a:Act} {w:World} (hi:ops[i]? = some (Oper.mk d op ty ps af gd))
  (y:(Region.noSelect ops && Region.free I ops listed i && (Region.ready I ops listed).contains i && Region.wanted (Oper.mk d op ty ps af gd) (yielded ops a.tmps))=true) (J:∀ c a w,Q (.panic c) (a.put d v) w→Q (.panic c) a w)
  (hv:∀ w,S w→(execOp a.eval (Oper.mk d op ty ps af gd)).run P w=.ok (.value v) w) (U:S w)
  (h:wpAnyH P I ops Q S fuel (listed.setIfInBounds i true) (a.put d v) w):wpAnyH P I ops Q S (fuel+1) listed a w:=by
 simp only [ο] at y;exact wpAnyH_take hi y.1.1.1 y.1.1.2 y.1.2 J (.inl ⟨y.2,hv⟩) U h
theorem Rx (xs:List A) (v:Value) (bs:List Nat) (m:Nat) (w:World) (h:aQ w [v] xs bs) (aa:m≤1000):
  Calls Tryz.prog 119 #[v,.int .i64 m] w fun e w'=>e=.returned (.bool (okB xs && decide (xs.length≤m)))∧Below w.heap.size w w':=by
 obtain ⟨Ad,cap,rfl,hl,hm⟩:=ai h;have am:=ay (τ hl hm);clear hm
 go_enter Tryz.func119,Tryz.ntmps119
 go_wp2
 go_loopw [5] (fun i wr=>∃ k:Nat,k≤xs.length∧i=.int .i64 k∧NV xs k∧Below w.heap.size w wr) (fun i _=>xs.length - (intOf i).toNat)
 case atStart=>exact ⟨0,ε,rfl,NW _,ϑ⟩
 case round=>
  obtain ⟨k,hk,rfl,a4,hb⟩:=hrel;have HA:=η a4;clear a4;by_cases a2:k < xs.length
  ·have ab:(0:Int)≤(k:Int):=by omega
   have ac:(k:Int) < (xs.length:Int):=by omega
   cases hf:aW xs[k]
   ·have HF:=η (Nj a2 hf)
    obtain ⟨b,o,Ae,ce,bk,rfl,_,c0,c1,a1,_⟩:=dQ (au.below h hb) a2;have hg:=lW xs[k] _ _ bk _ (ak.below a1 (Below.drew ϑ));rw [hf] at hg;clear h hf a1;go_wp2;refine wp_region_held_drew (S:=(fun w'=>w'.cell? ⟨b,o+k * 2,none⟩=some (.string xs[k].name)∧w'.cell? ⟨b,o+k * 2+1,none⟩=some (.slice Ae xs[k].args.length ce))) (by kernel_rfl) ?_ (fun I=>?_)
    ·go_keep
    refine dB 0 (v:=?_) rfl (by kernel_rfl) (fun _ _ _ h=>h) ?_ (by assumption) ?_
    rotate_left
    ·(intro w y; (try dsimp only at y); go_simp); (first | done | with_reducible rfl)
    try simp only [Act.put,List.setIfInBounds_toArray,List.set_cons_zero,List.set_cons_succ]
    refine dB 1 (v:=?_) rfl (by kernel_rfl) (fun _ _ _ h=>h) ?_ (by assumption) ?_
    rotate_left
    ·(intro w y; (try dsimp only at y); go_simp); (first | done | with_reducible rfl)
    try simp only [Act.put,List.setIfInBounds_toArray,List.set_cons_zero,List.set_cons_succ]
    refine dB 2 (v:=?_) rfl (by kernel_rfl) (fun _ _ _ h=>h) ?_ (by assumption) ?_
    rotate_left
    ·(intro w y; (try dsimp only at y); go_simp); (first | done | with_reducible rfl)
    try simp only [Act.put,List.setIfInBounds_toArray,List.set_cons_zero,List.set_cons_succ]
    refine dB 3 (v:=?_) rfl (by kernel_rfl) (fun _ _ _ h=>h) ?_ (by assumption) ?_
    rotate_left
    ·(intro w y; (try dsimp only at y); go_simp); (first | done | with_reducible rfl)
    try simp only [Act.put,List.setIfInBounds_toArray,List.set_cons_zero,List.set_cons_succ]
    refine wpAnyH_ready (rs:=[4]) (by kernel_rfl) (by simp) ?_;refine AllReadyH.cons (o:=⟨_,_,_,_,_,_⟩) rfl (fun K hK=>?_) AllReadyH.nil;rw [if_pos (by rfl)];go_simp
    go_at_call 70
    refine hg.mono ?_;rintro e w' ⟨rfl,a0⟩;clear I;refine hK.out _ _ ?_ (fun I=>?_)
    ·exact ⟨ξ a0 c0,ξ a0 c1⟩
    clear hK;clear K
    try simp only [Act.put,List.setIfInBounds_toArray,List.set_cons_zero,List.set_cons_succ]
    refine dB 5 (v:=?_) rfl (by kernel_rfl) (fun _ _ _ h=>h) ?_ (by assumption) ?_
    rotate_left
    ·(intro w y; (try dsimp only at y); go_simp); (first | done | with_reducible rfl)
    try simp only [Act.put,List.setIfInBounds_toArray,List.set_cons_zero,List.set_cons_succ]
    refine dB 6 (v:=?_) rfl (by kernel_rfl) (fun _ _ _ h=>h) ?_ (by assumption) ?_
    rotate_left
    ·(intro w y; (try dsimp only at y); go_simp); (first | done | with_reducible rfl)
    try simp only [Act.put,List.setIfInBounds_toArray,List.set_cons_zero,List.set_cons_succ]
    refine bP 7 rfl (by kernel_rfl) (fun _ _ _ h=>h) (by assumption) ?_;refine bP 8 rfl (by kernel_rfl) (fun _ _ _ h=>h) (by assumption) ?_;refine bP 9 rfl (by kernel_rfl) (fun _ _ _ h=>h) (by assumption) ?_;refine bP 10 rfl (by kernel_rfl) (fun _ _ _ h=>h) (by assumption) ?_;refine bP 11 rfl (by kernel_rfl) (fun _ _ _ h=>h) (by assumption) ?_;refine bP 12 rfl (by kernel_rfl) (fun _ _ _ h=>h) (by assumption) ?_;refine bP 13 rfl (by kernel_rfl) (fun _ _ _ h=>h) (by assumption) ?_;refine bP 14 rfl (by kernel_rfl) (fun _ _ _ h=>h) (by assumption) ?_;refine bP 15 rfl (by kernel_rfl) (fun _ _ _ h=>h) (by assumption) ?_;refine bP 16 rfl (by kernel_rfl) (fun _ _ _ h=>h) (by assumption) ?_;refine bP 17 rfl (by kernel_rfl) (fun _ _ _ h=>h) (by assumption) ?_;refine bP 18 rfl (by kernel_rfl) (fun _ _ _ h=>h) (by assumption) ?_;refine bP 19 rfl (by kernel_rfl) (fun _ _ _ h=>h) (by assumption) ?_;refine bP 20 rfl (by kernel_rfl) (fun _ _ _ h=>h) (by assumption) ?_
    refine bP 21 rfl (by kernel_rfl) (fun _ _ _ h=>h) (by assumption) ?_
    try simp only [Act.put,List.setIfInBounds_toArray,List.set_cons_zero,List.set_cons_succ]
    refine dB 22 (v:=?_) rfl (by kernel_rfl) (fun _ _ _ h=>h) ?_ (by assumption) ?_
    rotate_left
    ·(intro w y; (try dsimp only at y); go_simp); (first | done | with_reducible rfl)
    try simp only [Act.put,List.setIfInBounds_toArray,List.set_cons_zero,List.set_cons_succ]
    clear I;refine wpAnyH_done (by kernel_rfl) ?_ _;go_wp2;go_ret;exact ⟨aA (by rw [HF.out]; rfl),hb.trans ((Below.drew ϑ).trans (a0.mono hb.size))⟩
   ·cases k with
    | zero=>
     obtain ⟨b,o,Ae,ce,bk,rfl,_,c0,c1,a1,_⟩:=dQ (au.below h hb) a2;have hg:=lW xs[0] _ _ bk _ (ak.below a1 (Below.drew ϑ));rw [hf] at hg;have HN:=η (Qj a2 hf);simp only [Nat.zero_mul,Nat.add_zero] at c0 c1;clear h hf a1;go_wp2;refine wp_region_held_drew (S:=(fun w'=>w'.cell? ⟨b,o,none⟩=some (.string xs[0].name)∧w'.cell? ⟨b,o+1,none⟩=some (.slice Ae xs[0].args.length ce))) (by kernel_rfl) ?_ (fun I=>?_)
     ·go_keep
     refine dB 0 (v:=?_) rfl (by kernel_rfl) (fun _ _ _ h=>h) ?_ (by assumption) ?_
     rotate_left
     ·(intro w y; (try dsimp only at y); go_simp); (first | done | with_reducible rfl)
     try simp only [Act.put,List.setIfInBounds_toArray,List.set_cons_zero,List.set_cons_succ]
     refine dB 1 (v:=?_) rfl (by kernel_rfl) (fun _ _ _ h=>h) ?_ (by assumption) ?_
     rotate_left
     ·(intro w y; (try dsimp only at y); go_simp); (first | done | with_reducible rfl)
     try simp only [Act.put,List.setIfInBounds_toArray,List.set_cons_zero,List.set_cons_succ]
     refine dB 2 (v:=?_) rfl (by kernel_rfl) (fun _ _ _ h=>h) ?_ (by assumption) ?_
     rotate_left
     ·(intro w y; (try dsimp only at y); go_simp); (first | done | with_reducible rfl)
     try simp only [Act.put,List.setIfInBounds_toArray,List.set_cons_zero,List.set_cons_succ]
     refine dB 3 (v:=?_) rfl (by kernel_rfl) (fun _ _ _ h=>h) ?_ (by assumption) ?_
     rotate_left
     ·(intro w y; (try dsimp only at y); go_simp); (first | done | with_reducible rfl)
     try simp only [Act.put,List.setIfInBounds_toArray,List.set_cons_zero,List.set_cons_succ]
     refine wpAnyH_ready (rs:=[4]) (by kernel_rfl) (by simp) ?_;refine AllReadyH.cons (o:=⟨_,_,_,_,_,_⟩) rfl (fun K hK=>?_) AllReadyH.nil;rw [if_pos (by rfl)];go_simp
     go_at_call 70
     refine hg.mono ?_;rintro e w' ⟨rfl,a0⟩;clear I;refine hK.out _ _ ?_ (fun I=>?_)
     ·exact ⟨ξ a0 c0,ξ a0 c1⟩
     clear hK;clear K
     try simp only [Act.put,List.setIfInBounds_toArray,List.set_cons_zero,List.set_cons_succ]
     refine dB 5 (v:=?_) rfl (by kernel_rfl) (fun _ _ _ h=>h) ?_ (by assumption) ?_
     rotate_left
     ·(intro w y; (try dsimp only at y); go_simp); (first | done | with_reducible rfl)
     try simp only [Act.put,List.setIfInBounds_toArray,List.set_cons_zero,List.set_cons_succ]
     refine dB 6 (v:=?_) rfl (by kernel_rfl) (fun _ _ _ h=>h) ?_ (by assumption) ?_
     rotate_left
     ·(intro w y; (try dsimp only at y); go_simp); (first | done | with_reducible rfl)
     try simp only [Act.put,List.setIfInBounds_toArray,List.set_cons_zero,List.set_cons_succ]
     refine dB 7 (v:=?_) rfl (by kernel_rfl) (fun _ _ _ h=>h) ?_ (by assumption) ?_
     rotate_left
     ·(intro w y; (try dsimp only at y); go_simp); (first | done | with_reducible rfl)
     try simp only [Act.put,List.setIfInBounds_toArray,List.set_cons_zero,List.set_cons_succ]
     refine dB 8 (v:=?_) rfl (by kernel_rfl) (fun _ _ _ h=>h) ?_ (by assumption) ?_
     rotate_left
     ·(intro w y; (try dsimp only at y); go_simp); (first | done | with_reducible rfl)
     try simp only [Act.put,List.setIfInBounds_toArray,List.set_cons_zero,List.set_cons_succ]
     refine dB 9 (v:=?_) rfl (by kernel_rfl) (fun _ _ _ h=>h) ?_ (by assumption) ?_
     rotate_left
     ·(intro w y; (try dsimp only at y); go_simp); (first | done | with_reducible rfl)
     try simp only [Act.put,List.setIfInBounds_toArray,List.set_cons_zero,List.set_cons_succ]
     refine bP 10 rfl (by kernel_rfl) (fun _ _ _ h=>h) (by assumption) ?_;refine bP 11 rfl (by kernel_rfl) (fun _ _ _ h=>h) (by assumption) ?_;refine bP 12 rfl (by kernel_rfl) (fun _ _ _ h=>h) (by assumption) ?_;refine bP 13 rfl (by kernel_rfl) (fun _ _ _ h=>h) (by assumption) ?_;refine bP 14 rfl (by kernel_rfl) (fun _ _ _ h=>h) (by assumption) ?_;refine bP 15 rfl (by kernel_rfl) (fun _ _ _ h=>h) (by assumption) ?_;refine bP 16 rfl (by kernel_rfl) (fun _ _ _ h=>h) (by assumption) ?_;refine bP 17 rfl (by kernel_rfl) (fun _ _ _ h=>h) (by assumption) ?_;refine bP 18 rfl (by kernel_rfl) (fun _ _ _ h=>h) (by assumption) ?_;refine bP 19 rfl (by kernel_rfl) (fun _ _ _ h=>h) (by assumption) ?_;refine bP 20 rfl (by kernel_rfl) (fun _ _ _ h=>h) (by assumption) ?_
     try simp only [Act.put,List.setIfInBounds_toArray,List.set_cons_zero,List.set_cons_succ]
     refine dB 21 (v:=?_) rfl (by kernel_rfl) (fun _ _ _ h=>h) ?_ (by assumption) ?_
     rotate_left
     ·(intro w y; (try dsimp only at y); go_simp); (first | done | with_reducible rfl)
     try simp only [Act.put,List.setIfInBounds_toArray,List.set_cons_zero,List.set_cons_succ]
     refine dB 22 (v:=?_) rfl (by kernel_rfl) (fun _ _ _ h=>h) ?_ (by assumption) ?_
     rotate_left
     ·(intro w y; (try dsimp only at y); go_simp); (first | done | with_reducible rfl)
     try simp only [Act.put,List.setIfInBounds_toArray,List.set_cons_zero,List.set_cons_succ]
     clear I;refine wpAnyH_done (by kernel_rfl) ?_ _;go_wp2;go_roundw
     case rel=>exact ⟨1,by omega,by go_num,HN.out,hb.trans ((Below.drew ϑ).trans (a0.mono hb.size))⟩
     case measure=>simp [intOf]; omega
    | succ j=>
     have ae:j < xs.length:=by omega
     have HS:=η (fun hc=>NZ (xs:=xs) (k:=j) HA.out a2 hf hc);have HB:=η (fun hc=>Qk (xs:=xs) (k:=j) a2 hc);obtain ⟨k,a3⟩:∃ k,k=j+1:=⟨_,rfl⟩;have ao:IntKind.i64.wrap ((k:Int) - 1)=(j:Int):=(IntWalk.i64_in _ ⟨by omega,by omega⟩).trans (by omega);have hK:=η a3;rw [show ((j+1:Nat):Int)=(k:Int) by rw [a3]] at ab ac ⊢;have a5:k < xs.length:=by omega
     have a7:xs[j+1]=xs[k]'a5:=by simp only [a3]
     rw [a7] at hf HS HB;clear HA a7;have ap:(0:Int)≤(j:Int):=by omega
     have aq:(j:Int) < (xs.length:Int):=by omega
     have ar:0 < k:=by omega
     have av:(0:Int) < (k:Int):=by omega
     clear a3;obtain ⟨b,o,Ae,ce,bk,Af,cf,bm,rfl,c0,c1,a1,d0,d1,a6⟩:=DY (au.below h hb) ae a5;have hD:Below wr.heap.size wr wr.drew:=Below.drew ϑ;have hg:=lW xs[k] _ _ bm _ (ak.below a6 hD);have a8:=fun w' (a0:Below wr.heap.size wr w')=>D6 xs[j] xs[k] _ _ _ _ bk bm w' (ak.below a1 a0) (ak.below a6 a0)
     rw [hf] at hg;clear h hf a1 a6;by_cases hc:dJ xs[j] xs[k] < 0
     ·have af:¬ 0≤dJ xs[j] xs[k]:=by omega
      have HC:=η (HS.out hc);clear hc;go_wp2
      go_region_held3 (fun w'=>w'.cell? ⟨b,o+j * 2,none⟩=some (.string xs[j].name)∧w'.cell? ⟨b,o+j * 2+1,none⟩=some (.slice Ae xs[j].args.length ce)∧w'.cell? ⟨b,o+k * 2,none⟩=some (.string xs[k].name)∧w'.cell? ⟨b,o+k * 2+1,none⟩=some (.slice Af xs[k].args.length cf))
       (first | go_keep | exact ⟨x0,x1,x2,x3⟩ | exact ⟨y0,y1,y2,y3⟩)
       (first
        | (go_at_call 70; refine hg.mono ?_; rintro e w1 ⟨rfl,J⟩; have x0:=ξ J c0; have x1:=ξ J c1; have x2:=ξ J d0; have x3:=ξ J d1; have B1:=hD.trans J)
        | (go_at_call 130; refine (a8 _ B1).mono ?_; rintro e w2 ⟨rfl,U⟩; have y0:=ξ U x0; have y1:=ξ U x1; have y2:=ξ U x2; have y3:=ξ U x3; have B2:=B1.trans (U.mono B1.size)))
      go_wp2;go_roundw
      case rel=>exact ⟨k+1,by omega,by go_num,by rw [hK.out]; exact HC.out,hb.trans (B2.mono hb.size)⟩
      case measure=>have:=hK.out; simp [intOf]; omega
     ·have af:0≤dJ xs[j] xs[k]:=by omega
      have HC:=η (HB.out hc);clear hc;go_wp2
      go_region_held3 (fun w'=>w'.cell? ⟨b,o+j * 2,none⟩=some (.string xs[j].name)∧w'.cell? ⟨b,o+j * 2+1,none⟩=some (.slice Ae xs[j].args.length ce)∧w'.cell? ⟨b,o+k * 2,none⟩=some (.string xs[k].name)∧w'.cell? ⟨b,o+k * 2+1,none⟩=some (.slice Af xs[k].args.length cf))
       (first | go_keep | exact ⟨x0,x1,x2,x3⟩ | exact ⟨y0,y1,y2,y3⟩)
       (first
        | (go_at_call 70; refine hg.mono ?_; rintro e w1 ⟨rfl,J⟩; have x0:=ξ J c0; have x1:=ξ J c1; have x2:=ξ J d0; have x3:=ξ J d1; have B1:=hD.trans J)
        | (go_at_call 130; refine (a8 _ B1).mono ?_; rintro e w2 ⟨rfl,U⟩; have y0:=ξ U x0; have y1:=ξ U x1; have y2:=ξ U x2; have y3:=ξ U x3; have B2:=B1.trans (U.mono B1.size)))
      go_wp2;go_ret;exact ⟨aA (by rw [HC.out]; rfl),hb.trans (B2.mono hb.size)⟩
  ·have he:=η (show k=xs.length by omega)
   by_cases ag:xs.length≤m
   ·have a9:(xs.length:Int)≤(m:Int):=by omega
    go_wp2;go_ret;exact ⟨aA (by have:=HA.out; rw [he.out] at this; rw [TV this,decide_eq_true ag]; rfl),hb⟩
   ·have a9:¬ (xs.length:Int)≤(m:Int):=by omega
    go_wp2;go_ret;exact ⟨aA (by simp),hb⟩
end
section
open Go.RowKit Go.ChangeMaps D
attribute [local go_sem ↓] Go.wp_at_zero Go.wp_at_succ
theorem Gj (BS:List Nat) (a:Addr) (p:Pf) (w:World) (ha:AtP BS w a p) (y:∀ b ∈ BS,b < w.heap.size) (I:WP BS w) (hs:aK p≤16777216):
  Calls Tryz.prog 42 #[.pointer (some a)] w fun e w'=>e=.returned (.bool (decide (aK p≤60)))∧Below w.heap.size w w':=by
 have q:=size_any BS a p 60 w ha y I (by omega) (by omega) hs;have hp:=uX p;clear ha y I;by_cases h:aK p≤60
 ·have U:upTo 60 (aK p)=(aK p:Int):=by unfold upTo; rw [if_pos (by omega)]
  rw [U] at q;rw [decide_eq_true h];have h1:(0:Int) < (aK p:Int):=by omega
  have h2:(aK p:Int)≤60:=by omega
  clear U hs hp h;generalize aK p=n at *
  go_enter Tryz.func42,Tryz.ntmps42
  go_wp2_with fail
  refine q.mono ?_;rintro e w1 ⟨rfl,J⟩;clear q;go_wp2;go_ret;exact ⟨rfl,J⟩
 ·have U:upTo 60 (aK p)=61:=by unfold upTo; rw [if_neg (by omega)]; rfl
  rw [U] at q;rw [decide_eq_false h];clear U hs hp h
  go_enter Tryz.func42,Tryz.ntmps42
  go_wp2_with fail
  refine q.mono ?_;rintro e w1 ⟨rfl,J⟩;clear q;go_wp2;go_ret;exact ⟨rfl,J⟩
end
section
open Go.RowKit D
theorem MG (r:Ru) (c0 c1 c2:Value) (bs:List Nat) (left:Int) (w:World) (h:jk w [c0,c1,c2] r bs) (h0:0≤left) (h1:left≤1048576):
  Calls Tryz.prog 33 #[.agg #[c0,c1,c2],.int .i64 left] w (Left left (tC r) w.heap.size w):=by
 obtain ⟨b1,b2,rfl,hp,hq⟩:=dX h;obtain ⟨Ad,cap,Ae,I,rfl,rfl,rfl⟩:=iK h;have q1:=fun w' (hb:Below w.heap.size w w')=>qc r.head _ _ b1 left w' (ak.below hp hb) h0 h1
 have q2:=fun l (g0:0≤l) (g1:l≤1048576) w' (hb:Below w.heap.size w w')=>Jh r.body _ b2 l w' (aU.below hq hb) g0 g1
 have J:tC r=jl r.head+rY r.body:=rfl;have HB:=η J;clear h hp hq J;have U:=(Below.refl w.heap.size w).alloc ν (.cells #[.string r.head.name,.slice Ad r.head.args.length cap,.slice Ae r.body.length I] 71)
 go_enter Tryz.func33,Tryz.ntmps33
 go_wp2_with fail
 refine (q1 _ U).mono ?_;rintro e w1 ⟨y,z,rfl,hr⟩;have B1:=U.trans (y.mono U.size);have x0:w1.cell? ⟨w.heap.size,0,none⟩=some (.string r.head.name):=ξ y (by go_simp);have x1:w1.cell? ⟨w.heap.size,1,none⟩=some (.slice Ad r.head.args.length cap):=ξ y (by go_simp);have x2:w1.cell? ⟨w.heap.size,2,none⟩=some (.slice Ae r.body.length I):=ξ y (by go_simp);clear q1 U
 rcases hr with rfl | ⟨a0,a4⟩
 ·go_wp2
  go_ret;exact ⟨B1,_,rfl,.inl rfl⟩
 ·go_wp2_with fail
  refine (q2 z a0 (by omega) _ B1).mono ?_;rintro e w2 ⟨a1,z2,rfl,a2⟩;have B2:=B1.trans (a1.mono B1.size)
  rcases a2 with rfl | ⟨a3,a5⟩
  ·go_wp2
   go_ret;exact ⟨B2,_,rfl,.inl rfl⟩
  ·go_wp2
   go_ret;exact ⟨B2,_,rfl,.inr ⟨a3,by rw [HB.out]; omega⟩⟩
theorem Ry (r : Ru) (c0 c1 c2 : Value) (bs : List Nat) (w : World) (h : jk w [c0, c1, c2] r bs) (hn : tC r ≤ 1048576) :
    Calls Tryz.prog 38 #[.agg #[c0, c1, c2]] w (tV jk r w.heap.size w) := by
  obtain ⟨b1, b2, rfl, hp, hq⟩ := dX h;obtain ⟨Ad, cap, Ae, a6, rfl, rfl, rfl⟩ := iK h;have aw : jl r.head + rY r.body ≤ 1048576 := hn;have q1 := fun w' (U : Below w.heap.size w w') => wV r.head _ _ b1 w' (ak.below hp U) (by omega)
  have q2 := fun w' (U : Below w.heap.size w w') => Ji r.body _ b2 w' (aU.below hq U) (by omega)
  clear h hp hq;have hA := (((Below.refl w.heap.size w).alloc (Nat.le_refl _) (.cells #[.string r.head.name, .slice Ad r.head.args.length cap, .slice Ae r.body.length a6] 71)).alloc (by simp) (.cells #[.string ⟨#[]⟩, .slice none 0 0, .slice none 0 0] 77)).alloc (by simp; omega) (.cells #[.string ⟨#[]⟩, .slice none 0 0, .slice none 0 0] 77)
  go_enter Tryz.func38, Tryz.ntmps38
  go_wp2_with fail
  refine (q1 _ hA).mono ?_;rintro e J ⟨y, az, a3, rfl, a5, a8⟩;obtain ⟨a2, a0, rfl⟩ := mr a5;have ap : r.head.name.size ≤ maxLen := by obtain ⟨_, _, hn, _⟩ := a5; exact hn
  have B1 := hA.trans (y.mono hA.size);have x0 : J.cell? ⟨w.heap.size, 0, none⟩ = some (.string r.head.name) := cell_later y (by go_simp);have x1 : J.cell? ⟨w.heap.size, 1, none⟩ = some (.slice Ad r.head.args.length cap) := cell_later y (by go_simp);have x2 : J.cell? ⟨w.heap.size, 2, none⟩ = some (.slice Ae r.body.length a6) := cell_later y (by go_simp);have k0 : J.cell? ⟨w.heap.size + 1 + 1, 0, none⟩ = some (.string ⟨#[]⟩) := cell_later y (by go_simp);have k1 : J.cell? ⟨w.heap.size + 1 + 1, 1, none⟩ = some (.slice none 0 0) := cell_later y (by go_simp);have k2 : J.cell? ⟨w.heap.size + 1 + 1, 2, none⟩ = some (.slice none 0 0) := cell_later y (by go_simp);have l0 : J.cell? ⟨w.heap.size + 1, 0, none⟩ = some (.string ⟨#[]⟩) := cell_later y (by go_simp);have l1 : J.cell? ⟨w.heap.size + 1, 1, none⟩ = some (.slice none 0 0) := cell_later y (by go_simp);have l2 : J.cell? ⟨w.heap.size + 1, 2, none⟩ = some (.slice none 0 0) := cell_later y (by go_simp)
  have f0 : J.frozen? ⟨w.heap.size + 1 + 1, 0, none⟩ = false := (y.frozen (p := ⟨w.heap.size + 1 + 1, 0, none⟩) (by simp)).trans (by go_simp);have f1 : J.frozen? ⟨w.heap.size + 1 + 1, 1, none⟩ = false := (y.frozen (p := ⟨w.heap.size + 1 + 1, 1, none⟩) (by simp)).trans (by go_simp);have f2 : J.frozen? ⟨w.heap.size + 1 + 1, 2, none⟩ = false := (y.frozen (p := ⟨w.heap.size + 1 + 1, 2, none⟩) (by simp)).trans (by go_simp);have g0 : J.frozen? ⟨w.heap.size + 1, 0, none⟩ = false := (y.frozen (p := ⟨w.heap.size + 1, 0, none⟩) (by simp)).trans (by go_simp);have g1 : J.frozen? ⟨w.heap.size + 1, 1, none⟩ = false := (y.frozen (p := ⟨w.heap.size + 1, 1, none⟩) (by simp)).trans (by go_simp);have g2 : J.frozen? ⟨w.heap.size + 1, 2, none⟩ = false := (y.frozen (p := ⟨w.heap.size + 1, 2, none⟩) (by simp)).trans (by go_simp);have a4 : ∀ b ∈ a3, w.heap.size + 1 + 1 < b := fun b U => by have := (a8.own b U).1; simp at this; omega
  have aD : w.heap.size + 1 + 1 < J.heap.size := lt_of_cell k0;have a9 : Below w.heap.size w ((J.setCell ⟨w.heap.size + 1 + 1, 0, none⟩ (.string r.head.name)).setCell ⟨w.heap.size + 1 + 1, 1, none⟩ (.slice a2 r.head.args.length a0)) := (Below.setCell (Below.setCell B1 (by simp; omega) (.string r.head.name) (p := ⟨w.heap.size + 1 + 1, 0, none⟩)) (by simp; omega) (.slice a2 r.head.args.length a0) (p := ⟨w.heap.size + 1 + 1, 1, none⟩));clear hA q1
  go_wp2_with fail
  refine (q2 _ a9).mono ?_;rintro e w2 ⟨I, v2, aa, rfl, ae, af⟩;obtain ⟨ab, a1, rfl, _, _⟩ := ai ae;have B2 := a9.trans (I.mono a9.size);have aE : w2.cell? ⟨w.heap.size + 1 + 1, 0, none⟩ = some (.string r.head.name) := cell_later I (by go_simp);have aL : w2.cell? ⟨w.heap.size + 1 + 1, 1, none⟩ = some (.slice a2 r.head.args.length a0) := cell_later I (by go_simp);have aM : w2.cell? ⟨w.heap.size + 1 + 1, 2, none⟩ = some (.slice none 0 0) := cell_later I (by go_simp);have aq : w2.cell? ⟨w.heap.size + 1, 0, none⟩ = some (.string ⟨#[]⟩) := cell_later I (by go_simp);have ar : w2.cell? ⟨w.heap.size + 1, 1, none⟩ = some (.slice none 0 0) := cell_later I (by go_simp);have av : w2.cell? ⟨w.heap.size + 1, 2, none⟩ = some (.slice none 0 0) := cell_later I (by go_simp);have aR : w2.frozen? ⟨w.heap.size + 1 + 1, 2, none⟩ = false := (I.frozen (p := ⟨w.heap.size + 1 + 1, 2, none⟩) (by simp; omega)).trans (by go_simp)
  have b3 : w2.frozen? ⟨w.heap.size + 1, 0, none⟩ = false := (I.frozen (p := ⟨w.heap.size + 1, 0, none⟩) (by simp; omega)).trans (by go_simp);have b4 : w2.frozen? ⟨w.heap.size + 1, 1, none⟩ = false := (I.frozen (p := ⟨w.heap.size + 1, 1, none⟩) (by simp; omega)).trans (by go_simp);have b5 : w2.frozen? ⟨w.heap.size + 1, 2, none⟩ = false := (I.frozen (p := ⟨w.heap.size + 1, 2, none⟩) (by simp; omega)).trans (by go_simp);have a7 : ∀ b ∈ aa, w.heap.size + 1 + 1 < b := fun b U => by have := (af.own b U).1; simp at this; omega
  have ac : ∀ b ∈ a3, ((J.setCell ⟨w.heap.size + 1 + 1, 0, none⟩ (.string r.head.name)).setCell ⟨w.heap.size + 1 + 1, 1, none⟩ (.slice a2 r.head.args.length a0)).heap[b]? = J.heap[b]? := fun b U => by
    have := a4 b U;rw [Below.heap_setCell _ _ _ _ (by simp; omega), Below.heap_setCell _ _ _ _ (by simp; omega)]
  have ag := ak.below (ak.keep a5 ac) I;have am := (a8.keep ac).below I;have ao : ∀ b ∈ a3, b < J.heap.size := fun b U => a8.lt U
  clear x0 k0 l0 f0 g0 x1 k1 l1 f1 g1 x2 k2 l2 f2 g2 q2 ac a5;go_wp2
  have hk : ∀ b, w.heap.size + 1 + 1 < b → ((((w2.setCell ⟨w.heap.size + 1 + 1, 2, none⟩ (.slice ab r.body.length a1)).setCell ⟨w.heap.size + 1, 0, none⟩ (.string r.head.name)).setCell ⟨w.heap.size + 1, 1, none⟩ (.slice a2 r.head.args.length a0)).setCell ⟨w.heap.size + 1, 2, none⟩ (.slice ab r.body.length a1)).heap[b]? = w2.heap[b]? := fun b U => by
    rw [Below.heap_setCell _ _ _ _ (by simp; omega), Below.heap_setCell _ _ _ _ (by simp; omega), Below.heap_setCell _ _ _ _ (by simp; omega), Below.heap_setCell _ _ _ _ (by simp; omega)]
  exact bodyPost_ret (v := .agg #[.string r.head.name, .slice a2 r.head.args.length a0, .slice ab r.body.length a1]) (by simp [results, Tryz.results38, go_sem, aq, ar, av]) rfl
    ⟨((((B2.setCell (by first | (simp; done) | (simp; omega)) _).setCell (by first | (simp; done) | (simp; omega)) _).setCell (by first | (simp; done) | (simp; omega)) _).setCell (by first | (simp; done) | (simp; omega)) _), _, a3 ++ aa, rfl, ⟨_, _, a3, aa, rfl, ap, rfl, aG.keep (dK ag) (fun b U => hk b (a4 b U)), aU.keep ae (fun b U => hk b (a7 b U))⟩,
      (New.append ((am.keep (fun b U => hk b (a4 b U))).mono (B' := w.heap.size) (by simp; omega)) ((af.keep (fun b U => hk b (a7 b U))).mono (B' := J.heap.size) (by simp)) (by have := B1.size; omega) ao)⟩
def D.dM (a:A):ByteArray:=⟨(wI a).toArray⟩
theorem D.yQ {a b:A} (ha:aZ a=true) (y:aZ b=true) (h:dM a=dM b):a=b:=by
 have e:wI a=wI b:=by have:=congrArg (fun x=>x.data.toList) h; simpa [dM] using this
 have h1:=Et ha;rw [e,Et y] at h1;exact (Prod.mk.inj h1).1.symm
theorem D.qm {a:A} (ha:aZ a=true):(dM a).size≤maxLen:=by
 have:=Es ha;have e:(dM a).size=(wI a).length:=List.size_toArray;unfold maxLen; omega
theorem D.CW:∀ (y:List T),(∀ t ∈ y,t.name.size≤8)→iE y≤8 * y.length
 | [],_=>by simp [iE]
 | t :: y,h=>by
  have h1:=h t Γ;have J:=CW y fun u I=>h u (Δ _ I)
  unfold iE at *;simp only [List.map_cons,List.sum_cons,List.length_cons];omega
theorem D.Gl {a:A} (h:aZ a=true):jl a≤100:=by
 unfold aZ at h;simp only [ο,decide_eq_true_eq,ό] at h;have h1:=IW h.1.1;have y:a.name.data.toList.length=a.name.size:=Array.length_toList
 have J:=CW a.args fun t I=>by
  have:=(sJ (h.2 t I)).2.2;have y:t.name.data.toList.length=t.name.size:=Array.length_toList;omega
 unfold jl;omega
def D.keysOf (a:A):List WK:=⟨a.name,a.args.length,-1,⟨#[]⟩⟩ :: a.args.mapIdx fun i t=>⟨a.name,a.args.length,i,t.name⟩
theorem D.O0 {a:A} {i:Nat} (h:i < a.args.length):(⟨a.name,a.args.length,i,a.args[i].name⟩:WK) ∈ keysOf a:=by
 refine Δ _ (List.mem_mapIdx.2 ⟨i,h,rfl⟩)
def D.idxs (fs:List A) (k:WK):List Nat:=(List.range fs.length).filter fun i=>match fs[i]? with | some a=>decide (k ∈ keysOf a) | none=>false
theorem D.CX {fs:List A} {k:WK} {i:Nat}:i ∈ idxs fs k ↔ ∃ h:i < fs.length,k ∈ keysOf fs[i]:=by
 unfold idxs;rw [List.mem_filter,List.mem_range];constructor
 ·rintro ⟨h,y⟩
  rw [Ψ h] at y;exact ⟨h,by simpa using y⟩
 ·rintro ⟨h,y⟩
  exact ⟨h,by rw [Ψ h]; simpa using y⟩
theorem D.O1 (fs:List A) (a:A) (k:WK):idxs (fs ++ [a]) k=idxs fs k ++ (if k ∈ keysOf a then [fs.length] else []):=by
 unfold idxs;rw [χ,List.length_singleton,List.range_succ,List.filter_append]
 congr 1
 ·refine List.filter_congr fun i hi=>?_
  rw [List.getElem?_append_left (List.mem_range.1 hi)]
 ·by_cases h:k ∈ keysOf a <;> simp [h]
theorem D.lK (fs:List A) (k:WK):(idxs fs k).length≤fs.length:=by
 unfold idxs;refine τ (List.length_filter_le _ _) ?_;simp
structure D.jO (sb:Nat) (fs:List A) (rn:List Nat) (bs:List Nat) (w:World):Prop where
 ex:∃ Af cf Ar cr mu mp bf br Lu Lp,w.heap[sb]? = some (.cells #[.slice Af fs.length cf,.slice Ar rn.length cr,.map (some mu),.map (some mp)] 114 (0,0))∧
  aQ w [.slice Af fs.length cf] fs bf∧jf w [.slice Ar rn.length cr] rn br∧gq FZ mu Lu w∧gq isStr mp Lp w∧
  (∀ k,(∃ v b,(Ei k,v) ∈ Lu∧jf w [v] (idxs fs k) b∧∀ x ∈ b,x ∈ bs)∨((∀ p ∈ Lu,p.1 ≠ Ei k)∧idxs fs k = []))∧
  (∀ s:ByteArray,(∃ i:Nat,((.string s:Value),(.int .i64 i:Value)) ∈ Lp) ↔ s ∈ fs.map dM)∧(∀ p ∈ Lp,∃ i:Nat,p.2=.int .i64 i)∧
  mu ∈ bs∧mp ∈ bs∧(∀ b ∈ bf,b ∈ bs)∧∀ b ∈ br,b ∈ bs
 own:sb ∈ bs
 lt:∀ b ∈ bs,b < w.heap.size
theorem D.jO.keep {sb:Nat} {fs:List A} {rn:List Nat} {bs:List Nat} {w w':World} (h:jO sb fs rn bs w) (hk:∀ b ∈ bs,w'.heap[b]? = w.heap[b]?) (hs:w.heap.size≤w'.heap.size):jO sb fs rn bs w':=by
 obtain ⟨⟨Af,cf,Ar,cr,mu,mp,bf,br,Lu,Lp,h1,h2,h3,h4,h5,h6,h7,h8,h9,y,I,J⟩,ho,hl⟩:=h;refine ⟨⟨Af,cf,Ar,cr,mu,mp,bf,br,Lu,Lp,(hk _ ho).trans h1,au.keep h2 fun b U=>hk b (I b U),dG.keep h3 fun b U=>hk b (J b U),h4.same (hk _ h9),h5.same (hk _ y),fun k=>?_,h7,h8,h9,y,I,J⟩,ho,fun b U=>κ (hl b U) hs⟩
 rcases h6 k with ⟨v,b,g1,g2,g3⟩ | g
 ·exact .inl ⟨v,b,g1,dG.keep g2 fun x hx=>hk x (g3 x hx),g3⟩
 ·exact .inr g
theorem D.jO.below {sb:Nat} {fs:List A} {rn:List Nat} {I:List Nat} {w w':World} (h:jO sb fs rn I w) (J:Below w.heap.size w w'):jO sb fs rn I w':=h.keep (fun b y=>J.block b (h.lt b y)) J.size
section
variable {P:Program} {ops:Array Oper} {rest:List Oper} {o:Oper} {a:Act} {Q:Exit→Act→World→Prop}
end
structure D.O3 (mu:Nat) (fs:List A) (bs:List Nat) (w:World):Prop where
 ex:∃ Lu,gq FZ mu Lu w∧∀ k,(∃ v b,(Ei k,v) ∈ Lu∧jf w [v] (idxs fs k) b∧∀ x ∈ b,x ∈ bs)∨((∀ p ∈ Lu,p.1 ≠ Ei k)∧idxs fs k = [])
 own:mu ∈ bs
 lt:∀ b ∈ bs,b < w.heap.size
theorem D.O3.below {mu:Nat} {fs:List A} {y:List Nat} {w w':World} (h:O3 mu fs y w) {B:Nat} (I:Below B w w') (hB:∀ b ∈ y,b < B):O3 mu fs y w':=by
 obtain ⟨⟨Lu,h1,h2⟩,U,h4⟩:=h;refine ⟨⟨Lu,h1.below I (hB _ U),fun k=>?_⟩,U,fun b J=>κ (h4 b J) I.size⟩
 rcases h2 k with ⟨v,b',g1,g2,g3⟩ | g
 ·exact .inl ⟨v,b',g1,dG.Qd g2 I fun x hx=>hB x (g3 x hx),g3⟩
 ·exact .inr g
theorem D.O3.look {mu:Nat} {fs:List A} {bs:List Nat} {w:World} (h:O3 mu fs bs w) (k:WK):
  ∃ y I b,(Instr.lookup 111 (.map (some mu)) (.agg #[.string k.name,.int .i64 k.size,.int .i64 k.place,.string k.word]) false).run Tryz.prog w=.ok (.slice y (idxs fs k).length I) w∧jf w [.slice y (idxs fs k).length I] (idxs fs k) b∧∀ x ∈ b,x ∈ bs:=by
 obtain ⟨⟨Lu,h4,U⟩,_,_⟩:=h;show ∃ y I b,(Instr.lookup 111 (.map (some mu)) (Ei k) false).run Tryz.prog w=.ok (.slice y (idxs fs k).length I) w∧_
 rcases U k with ⟨v,b,g1,J,g3⟩ | ⟨g1,J⟩
 ·obtain ⟨y,I,rfl,_⟩:=ai J
  exact ⟨y,I,b,kH wW trivial false Tryz.underlying111 h4 g1,J,g3⟩
 ·refine ⟨none,0,[],?_,by rw [J]; exact ⟨none,0,rfl,ν,ε,fun _=>rfl,fun h=>absurd rfl h⟩,fun x hx=>by simp at hx⟩
  obtain ⟨⟨es,ck,hb,rfl⟩,h2,h3⟩:=h4;have a0:∀ e ∈ es.toList,FZ e.key:=fun e he=>h2 (e.key,e.val) (List.mem_map.2 ⟨e,he,rfl⟩)
  rcases iZ wW (w:=w) trivial (k:=Ei k) ⟨k,rfl⟩ es.toList a0 with ⟨h5,U⟩ | ⟨i,e1,h5,U,h7⟩
  ·simp [J,Instr.lookup,run_underlying Tryz.underlying111,MapKept.run_getObj_map hb,wW.check w _ ⟨k,rfl⟩,h5,Result.andThen]
  ·exact absurd h7 (g1 (e1.key,e1.val) (List.mem_map.2 ⟨e1,List.mem_of_getElem? U,rfl⟩))
theorem D.Jm {fs:List A} {mp:Nat} {I:List (Value × Value)} {w:World} (y:gq isStr mp I w) (J:∀ s:ByteArray,(∃ i:Nat,((.string s:Value),(.int .i64 i:Value)) ∈ I) ↔ s ∈ fs.map dM) (h8:∀ p ∈ I,∃ i:Nat,p.2=.int .i64 i)
  (s:ByteArray) (hs:s.size≤maxLen):∃ v,(Instr.lookup 112 (.map (some mp)) (.string s) true).run Tryz.prog w=.ok (.tuple #[v,.bool (decide (s ∈ fs.map dM))]) w:=by
 by_cases hm:s ∈ fs.map dM
 ·obtain ⟨i,hi⟩:=(J s).2 hm
  refine ⟨.int .i64 i,?_⟩;rw [decide_eq_true hm];exact kH lu trivial true Tryz.underlying112 y hi
 ·refine ⟨.int .i64 0,?_⟩
  rw [decide_eq_false hm]
  have U:∀ p ∈ I,p.1 ≠ .string s:=fun p hp e=>by
   obtain ⟨i,hi⟩:=h8 p hp;exact hm ((J s).1 ⟨i,by rw [← e,← hi]; exact hp⟩)
  obtain ⟨⟨es,ck,hb,rfl⟩,h2,h3⟩:=y;have a0:∀ e ∈ es.toList,isStr e.key:=fun e he=>h2 (e.key,e.val) (List.mem_map.2 ⟨e,he,rfl⟩)
  rcases iZ lu (w:=w) trivial (k:=.string s) ⟨s,rfl,hs⟩ es.toList a0 with ⟨y,h6⟩ | ⟨i,e1,y,h6,J⟩
  ·simp [Instr.lookup,run_underlying Tryz.underlying112,MapKept.run_getObj_map hb,lu.check w _ ⟨s,rfl,hs⟩,y,Result.andThen]
  ·exact absurd J (U (e1.key,e1.val) (List.mem_map.2 ⟨e1,List.mem_of_getElem? h6,rfl⟩))
end
end Go.Proofs.YtlmngncogomgeaaGreatDoor
