/- Of the proof of FnEvalOnly: Facts, StoP, iJ. -/
import Derived.Test.YtkjinanbccloeaaGreatDoorB15
import Derived.Test.YtkjinanbccloeaaGreatDoorB17
set_option linter.unusedVariables false
set_option maxHeartbeats 2000000
namespace Go.Proofs.YtkjinanbccloeaaGreatDoor
section
open Go.RowKit D
set_option linter.unusedSimpArgs false
attribute [local go_sem ↓] Go.wp_at_zero Go.wp_at_succ
theorem D.jc {P:Program} {ops:Array Oper} {Q:Exit→Act→World→Prop} {I:Region.Mode} {S:World→Prop} (i:Nat) {d op ty ps af gd} {fuel:Nat} {listed:Array Bool} {a:Act} {w:World} (J:ops[i]? = some (Oper.mk d op ty ps af gd))
  (y:(Region.noSelect ops && Region.free I ops listed i && (Region.ready I ops listed).contains i && !Region.wanted (Oper.mk d op ty ps af gd) (yielded ops a.tmps))=true) (U:∀ c a w,Q (.panic c) (a.put d undef) w→Q (.panic c) a w) (hS:S w)
  (h:wpAnyH P I ops Q S fuel (listed.setIfInBounds i true) (a.put d undef) w):wpAnyH P I ops Q S (fuel+1) listed a w:=by
 simp only [ο,Bool.not_eq_true'] at y;exact wpAnyH_take J y.1.1.1 y.1.1.2 y.1.2 U (.inr ⟨y.2,rfl⟩) hS h
theorem D.kU {P:Program} {ops:Array Oper} {Q:Exit→Act→World→Prop} {I:Region.Mode} {S:World→Prop} (i:Nat) {d op ty ps af gd} {v:Value} {fuel:Nat} {listed:Array Bool} {a:Act} {w:World} (J:ops[i]? = some (Oper.mk d op ty ps af gd))
  (y:(Region.noSelect ops && Region.free I ops listed i && (Region.ready I ops listed).contains i && Region.wanted (Oper.mk d op ty ps af gd) (yielded ops a.tmps))=true) (U:∀ c a w,Q (.panic c) (a.put d v) w→Q (.panic c) a w)
  (hv:∀ w,S w→(execOp a.eval (Oper.mk d op ty ps af gd)).run P w=.ok (.value v) w) (hS:S w)
  (h:wpAnyH P I ops Q S fuel (listed.setIfInBounds i true) (a.put d v) w):wpAnyH P I ops Q S (fuel+1) listed a w:=by
 simp only [ο] at y;exact wpAnyH_take J y.1.1.1 y.1.1.2 y.1.2 U (.inl ⟨y.2,hv⟩) hS h
theorem Tt (xs:List A) (v:Value) (bs:List Nat) (m:Nat) (w:World) (h:aU w [v] xs bs) (aa:m≤1000):
  Calls Tryz.prog 106 #[v,.int .i64 m] w fun e w'=>e=.returned (.bool (okB xs && decide (xs.length≤m)))∧Below w.heap.size w w':=by
 obtain ⟨Ad,cap,rfl,hl,hm⟩:=ak h;have am:=aA (τ hl hm);clear hm
 go_enter Tryz.func106,Tryz.ntmps106
 go_wp2
 go_loopw [5] (fun i wr=>∃ k:Nat,k≤xs.length∧i=.int .i64 k∧OY xs k∧Below w.heap.size w wr) (fun i _=>xs.length - (intOf i).toNat)
 case atStart=>exact ⟨0,ε,rfl,OZ _,ϑ⟩
 case round=>
  obtain ⟨k,hk,rfl,a4,hb⟩:=hrel;have HA:=η a4;clear a4;by_cases a2:k < xs.length
  ·have ab:(0:Int)≤(k:Int):=by omega
   have ac:(k:Int) < (xs.length:Int):=by omega
   cases hf:dX xs[k]
   ·have HF:=η (Oi a2 hf)
    obtain ⟨b,o,Ae,ce,bk,rfl,_,c0,c1,a1,_⟩:=dJ (au.below h hb) a2;have hg:=qf xs[k] _ _ bk _ (aj.below a1 (Below.drew ϑ));rw [hf] at hg;clear h hf a1;go_wp2;refine wp_region_held_drew (S:=(fun w'=>w'.cell? ⟨b,o+k * 2,none⟩=some (.string xs[k].name)∧w'.cell? ⟨b,o+k * 2+1,none⟩=some (.slice Ae xs[k].args.length ce))) (by kernel_rfl) ?_ (fun I=>?_)
    ·go_keep
    refine kU 0 (v:=?_) rfl (by kernel_rfl) (fun _ _ _ h=>h) ?_ (by assumption) ?_
    rotate_left
    ·(intro w y; (try dsimp only at y); go_simp); (first | done | with_reducible rfl)
    try simp only [Act.put,List.setIfInBounds_toArray,List.set_cons_zero,List.set_cons_succ]
    refine kU 1 (v:=?_) rfl (by kernel_rfl) (fun _ _ _ h=>h) ?_ (by assumption) ?_
    rotate_left
    ·(intro w y; (try dsimp only at y); go_simp); (first | done | with_reducible rfl)
    try simp only [Act.put,List.setIfInBounds_toArray,List.set_cons_zero,List.set_cons_succ]
    refine kU 2 (v:=?_) rfl (by kernel_rfl) (fun _ _ _ h=>h) ?_ (by assumption) ?_
    rotate_left
    ·(intro w y; (try dsimp only at y); go_simp); (first | done | with_reducible rfl)
    try simp only [Act.put,List.setIfInBounds_toArray,List.set_cons_zero,List.set_cons_succ]
    refine kU 3 (v:=?_) rfl (by kernel_rfl) (fun _ _ _ h=>h) ?_ (by assumption) ?_
    rotate_left
    ·(intro w y; (try dsimp only at y); go_simp); (first | done | with_reducible rfl)
    try simp only [Act.put,List.setIfInBounds_toArray,List.set_cons_zero,List.set_cons_succ]
    refine wpAnyH_ready (rs:=[4]) (by kernel_rfl) (by simp) ?_;refine AllReadyH.cons (o:=⟨_,_,_,_,_,_⟩) rfl (fun K hK=>?_) AllReadyH.nil;rw [if_pos (by rfl)];go_simp
    go_at_call 146
    refine hg.mono ?_;rintro e w' ⟨rfl,a0⟩;clear I;refine hK.out _ _ ?_ (fun I=>?_)
    ·exact ⟨ξ a0 c0,ξ a0 c1⟩
    clear hK;clear K
    try simp only [Act.put,List.setIfInBounds_toArray,List.set_cons_zero,List.set_cons_succ]
    refine kU 5 (v:=?_) rfl (by kernel_rfl) (fun _ _ _ h=>h) ?_ (by assumption) ?_
    rotate_left
    ·(intro w y; (try dsimp only at y); go_simp); (first | done | with_reducible rfl)
    try simp only [Act.put,List.setIfInBounds_toArray,List.set_cons_zero,List.set_cons_succ]
    refine kU 6 (v:=?_) rfl (by kernel_rfl) (fun _ _ _ h=>h) ?_ (by assumption) ?_
    rotate_left
    ·(intro w y; (try dsimp only at y); go_simp); (first | done | with_reducible rfl)
    try simp only [Act.put,List.setIfInBounds_toArray,List.set_cons_zero,List.set_cons_succ]
    refine jc 7 rfl (by kernel_rfl) (fun _ _ _ h=>h) (by assumption) ?_;refine jc 8 rfl (by kernel_rfl) (fun _ _ _ h=>h) (by assumption) ?_;refine jc 9 rfl (by kernel_rfl) (fun _ _ _ h=>h) (by assumption) ?_;refine jc 10 rfl (by kernel_rfl) (fun _ _ _ h=>h) (by assumption) ?_;refine jc 11 rfl (by kernel_rfl) (fun _ _ _ h=>h) (by assumption) ?_;refine jc 12 rfl (by kernel_rfl) (fun _ _ _ h=>h) (by assumption) ?_;refine jc 13 rfl (by kernel_rfl) (fun _ _ _ h=>h) (by assumption) ?_;refine jc 14 rfl (by kernel_rfl) (fun _ _ _ h=>h) (by assumption) ?_;refine jc 15 rfl (by kernel_rfl) (fun _ _ _ h=>h) (by assumption) ?_;refine jc 16 rfl (by kernel_rfl) (fun _ _ _ h=>h) (by assumption) ?_;refine jc 17 rfl (by kernel_rfl) (fun _ _ _ h=>h) (by assumption) ?_;refine jc 18 rfl (by kernel_rfl) (fun _ _ _ h=>h) (by assumption) ?_;refine jc 19 rfl (by kernel_rfl) (fun _ _ _ h=>h) (by assumption) ?_;refine jc 20 rfl (by kernel_rfl) (fun _ _ _ h=>h) (by assumption) ?_
    refine jc 21 rfl (by kernel_rfl) (fun _ _ _ h=>h) (by assumption) ?_
    try simp only [Act.put,List.setIfInBounds_toArray,List.set_cons_zero,List.set_cons_succ]
    refine kU 22 (v:=?_) rfl (by kernel_rfl) (fun _ _ _ h=>h) ?_ (by assumption) ?_
    rotate_left
    ·(intro w y; (try dsimp only at y); go_simp); (first | done | with_reducible rfl)
    try simp only [Act.put,List.setIfInBounds_toArray,List.set_cons_zero,List.set_cons_succ]
    clear I;refine wpAnyH_done (by kernel_rfl) ?_ _;go_wp2;go_ret;exact ⟨aJ (by rw [HF.out]; rfl),hb.trans ((Below.drew ϑ).trans (a0.mono hb.size))⟩
   ·cases k with
    | zero=>
     obtain ⟨b,o,Ae,ce,bk,rfl,_,c0,c1,a1,_⟩:=dJ (au.below h hb) a2;have hg:=qf xs[0] _ _ bk _ (aj.below a1 (Below.drew ϑ));rw [hf] at hg;have HN:=η (RD a2 hf);simp only [Nat.zero_mul,Nat.add_zero] at c0 c1;clear h hf a1;go_wp2;refine wp_region_held_drew (S:=(fun w'=>w'.cell? ⟨b,o,none⟩=some (.string xs[0].name)∧w'.cell? ⟨b,o+1,none⟩=some (.slice Ae xs[0].args.length ce))) (by kernel_rfl) ?_ (fun I=>?_)
     ·go_keep
     refine kU 0 (v:=?_) rfl (by kernel_rfl) (fun _ _ _ h=>h) ?_ (by assumption) ?_
     rotate_left
     ·(intro w y; (try dsimp only at y); go_simp); (first | done | with_reducible rfl)
     try simp only [Act.put,List.setIfInBounds_toArray,List.set_cons_zero,List.set_cons_succ]
     refine kU 1 (v:=?_) rfl (by kernel_rfl) (fun _ _ _ h=>h) ?_ (by assumption) ?_
     rotate_left
     ·(intro w y; (try dsimp only at y); go_simp); (first | done | with_reducible rfl)
     try simp only [Act.put,List.setIfInBounds_toArray,List.set_cons_zero,List.set_cons_succ]
     refine kU 2 (v:=?_) rfl (by kernel_rfl) (fun _ _ _ h=>h) ?_ (by assumption) ?_
     rotate_left
     ·(intro w y; (try dsimp only at y); go_simp); (first | done | with_reducible rfl)
     try simp only [Act.put,List.setIfInBounds_toArray,List.set_cons_zero,List.set_cons_succ]
     refine kU 3 (v:=?_) rfl (by kernel_rfl) (fun _ _ _ h=>h) ?_ (by assumption) ?_
     rotate_left
     ·(intro w y; (try dsimp only at y); go_simp); (first | done | with_reducible rfl)
     try simp only [Act.put,List.setIfInBounds_toArray,List.set_cons_zero,List.set_cons_succ]
     refine wpAnyH_ready (rs:=[4]) (by kernel_rfl) (by simp) ?_;refine AllReadyH.cons (o:=⟨_,_,_,_,_,_⟩) rfl (fun K hK=>?_) AllReadyH.nil;rw [if_pos (by rfl)];go_simp
     go_at_call 146
     refine hg.mono ?_;rintro e w' ⟨rfl,a0⟩;clear I;refine hK.out _ _ ?_ (fun I=>?_)
     ·exact ⟨ξ a0 c0,ξ a0 c1⟩
     clear hK;clear K
     try simp only [Act.put,List.setIfInBounds_toArray,List.set_cons_zero,List.set_cons_succ]
     refine kU 5 (v:=?_) rfl (by kernel_rfl) (fun _ _ _ h=>h) ?_ (by assumption) ?_
     rotate_left
     ·(intro w y; (try dsimp only at y); go_simp); (first | done | with_reducible rfl)
     try simp only [Act.put,List.setIfInBounds_toArray,List.set_cons_zero,List.set_cons_succ]
     refine kU 6 (v:=?_) rfl (by kernel_rfl) (fun _ _ _ h=>h) ?_ (by assumption) ?_
     rotate_left
     ·(intro w y; (try dsimp only at y); go_simp); (first | done | with_reducible rfl)
     try simp only [Act.put,List.setIfInBounds_toArray,List.set_cons_zero,List.set_cons_succ]
     refine kU 7 (v:=?_) rfl (by kernel_rfl) (fun _ _ _ h=>h) ?_ (by assumption) ?_
     rotate_left
     ·(intro w y; (try dsimp only at y); go_simp); (first | done | with_reducible rfl)
     try simp only [Act.put,List.setIfInBounds_toArray,List.set_cons_zero,List.set_cons_succ]
     refine kU 8 (v:=?_) rfl (by kernel_rfl) (fun _ _ _ h=>h) ?_ (by assumption) ?_
     rotate_left
     ·(intro w y; (try dsimp only at y); go_simp); (first | done | with_reducible rfl)
     try simp only [Act.put,List.setIfInBounds_toArray,List.set_cons_zero,List.set_cons_succ]
     refine kU 9 (v:=?_) rfl (by kernel_rfl) (fun _ _ _ h=>h) ?_ (by assumption) ?_
     rotate_left
     ·(intro w y; (try dsimp only at y); go_simp); (first | done | with_reducible rfl)
     try simp only [Act.put,List.setIfInBounds_toArray,List.set_cons_zero,List.set_cons_succ]
     refine jc 10 rfl (by kernel_rfl) (fun _ _ _ h=>h) (by assumption) ?_;refine jc 11 rfl (by kernel_rfl) (fun _ _ _ h=>h) (by assumption) ?_;refine jc 12 rfl (by kernel_rfl) (fun _ _ _ h=>h) (by assumption) ?_;refine jc 13 rfl (by kernel_rfl) (fun _ _ _ h=>h) (by assumption) ?_;refine jc 14 rfl (by kernel_rfl) (fun _ _ _ h=>h) (by assumption) ?_;refine jc 15 rfl (by kernel_rfl) (fun _ _ _ h=>h) (by assumption) ?_;refine jc 16 rfl (by kernel_rfl) (fun _ _ _ h=>h) (by assumption) ?_;refine jc 17 rfl (by kernel_rfl) (fun _ _ _ h=>h) (by assumption) ?_;refine jc 18 rfl (by kernel_rfl) (fun _ _ _ h=>h) (by assumption) ?_;refine jc 19 rfl (by kernel_rfl) (fun _ _ _ h=>h) (by assumption) ?_;refine jc 20 rfl (by kernel_rfl) (fun _ _ _ h=>h) (by assumption) ?_
     try simp only [Act.put,List.setIfInBounds_toArray,List.set_cons_zero,List.set_cons_succ]
     refine kU 21 (v:=?_) rfl (by kernel_rfl) (fun _ _ _ h=>h) ?_ (by assumption) ?_
     rotate_left
     ·(intro w y; (try dsimp only at y); go_simp); (first | done | with_reducible rfl)
     try simp only [Act.put,List.setIfInBounds_toArray,List.set_cons_zero,List.set_cons_succ]
     refine kU 22 (v:=?_) rfl (by kernel_rfl) (fun _ _ _ h=>h) ?_ (by assumption) ?_
     rotate_left
     ·(intro w y; (try dsimp only at y); go_simp); (first | done | with_reducible rfl)
     try simp only [Act.put,List.setIfInBounds_toArray,List.set_cons_zero,List.set_cons_succ]
     clear I;refine wpAnyH_done (by kernel_rfl) ?_ _;go_wp2;go_roundw
     case rel=>exact ⟨1,by omega,by go_num,HN.out,hb.trans ((Below.drew ϑ).trans (a0.mono hb.size))⟩
     case measure=>simp [intOf]; omega
    | succ j=>
     have ae:j < xs.length:=by omega
     have HS:=η (fun hc=>O1 (xs:=xs) (k:=j) HA.out a2 hf hc);have HB:=η (fun hc=>RF (xs:=xs) (k:=j) a2 hc);obtain ⟨k,a3⟩:∃ k,k=j+1:=⟨_,rfl⟩;have ao:IntKind.i64.wrap ((k:Int) - 1)=(j:Int):=(IntWalk.i64_in _ ⟨by omega,by omega⟩).trans (by omega);have hK:=η a3;rw [show ((j+1:Nat):Int)=(k:Int) by rw [a3]] at ab ac ⊢;have a5:k < xs.length:=by omega
     have a7:xs[j+1]=xs[k]'a5:=by simp only [a3]
     rw [a7] at hf HS HB;clear HA a7;have ap:(0:Int)≤(j:Int):=by omega
     have aq:(j:Int) < (xs.length:Int):=by omega
     have ar:0 < k:=by omega
     have av:(0:Int) < (k:Int):=by omega
     clear a3;obtain ⟨b,o,Ae,ce,bk,Af,cf,bm,rfl,c0,c1,a1,d0,d1,a6⟩:=EQ (au.below h hb) ae a5;have hD:Below wr.heap.size wr wr.drew:=Below.drew ϑ;have hg:=qf xs[k] _ _ bm _ (aj.below a6 hD);have a8:=fun w' (a0:Below wr.heap.size wr w')=>EZ xs[j] xs[k] _ _ _ _ bk bm w' (aj.below a1 a0) (aj.below a6 a0)
     rw [hf] at hg;clear h hf a1 a6;by_cases hc:dD xs[j] xs[k] < 0
     ·have af:¬ 0≤dD xs[j] xs[k]:=by omega
      have HC:=η (HS.out hc);clear hc;go_wp2
      go_region_held3 (fun w'=>w'.cell? ⟨b,o+j * 2,none⟩=some (.string xs[j].name)∧w'.cell? ⟨b,o+j * 2+1,none⟩=some (.slice Ae xs[j].args.length ce)∧w'.cell? ⟨b,o+k * 2,none⟩=some (.string xs[k].name)∧w'.cell? ⟨b,o+k * 2+1,none⟩=some (.slice Af xs[k].args.length cf))
       (first | go_keep | exact ⟨x0,x1,x2,x3⟩ | exact ⟨y0,y1,y2,y3⟩)
       (first
        | (go_at_call 146; refine hg.mono ?_; rintro e w1 ⟨rfl,J⟩; have x0:=ξ J c0; have x1:=ξ J c1; have x2:=ξ J d0; have x3:=ξ J d1; have B1:=hD.trans J)
        | (go_at_call 157; refine (a8 _ B1).mono ?_; rintro e w2 ⟨rfl,U⟩; have y0:=ξ U x0; have y1:=ξ U x1; have y2:=ξ U x2; have y3:=ξ U x3; have B2:=B1.trans (U.mono B1.size)))
      go_wp2;go_roundw
      case rel=>exact ⟨k+1,by omega,by go_num,by rw [hK.out]; exact HC.out,hb.trans (B2.mono hb.size)⟩
      case measure=>have:=hK.out; simp [intOf]; omega
     ·have af:0≤dD xs[j] xs[k]:=by omega
      have HC:=η (HB.out hc);clear hc;go_wp2
      go_region_held3 (fun w'=>w'.cell? ⟨b,o+j * 2,none⟩=some (.string xs[j].name)∧w'.cell? ⟨b,o+j * 2+1,none⟩=some (.slice Ae xs[j].args.length ce)∧w'.cell? ⟨b,o+k * 2,none⟩=some (.string xs[k].name)∧w'.cell? ⟨b,o+k * 2+1,none⟩=some (.slice Af xs[k].args.length cf))
       (first | go_keep | exact ⟨x0,x1,x2,x3⟩ | exact ⟨y0,y1,y2,y3⟩)
       (first
        | (go_at_call 146; refine hg.mono ?_; rintro e w1 ⟨rfl,J⟩; have x0:=ξ J c0; have x1:=ξ J c1; have x2:=ξ J d0; have x3:=ξ J d1; have B1:=hD.trans J)
        | (go_at_call 157; refine (a8 _ B1).mono ?_; rintro e w2 ⟨rfl,U⟩; have y0:=ξ U x0; have y1:=ξ U x1; have y2:=ξ U x2; have y3:=ξ U x3; have B2:=B1.trans (U.mono B1.size)))
      go_wp2;go_ret;exact ⟨aJ (by rw [HC.out]; rfl),hb.trans (B2.mono hb.size)⟩
  ·have he:=η (show k=xs.length by omega)
   by_cases ag:xs.length≤m
   ·have a9:(xs.length:Int)≤(m:Int):=by omega
    go_wp2;go_ret;exact ⟨aJ (by have:=HA.out; rw [he.out] at this; rw [Vd this,decide_eq_true ag]; rfl),hb⟩
   ·have a9:¬ (xs.length:Int)≤(m:Int):=by omega
    go_wp2;go_ret;exact ⟨aJ (by simp),hb⟩
end
section
open Go.RowKit D
def D.bU (a:A):ByteArray:=⟨(uz a).toArray⟩
theorem D.sN {a b:A} (ha:aX a=true) (y:aX b=true) (h:bU a=bU b):a=b:=by
 have e:uz a=uz b:=by have:=congrArg (fun x=>x.data.toList) h; simpa [bU] using this
 have h1:=FQ ha;rw [e,FQ y] at h1;exact (Prod.mk.inj h1).1.symm
theorem D.nN {a:A} (ha:aX a=true):(bU a).size≤maxLen:=by
 have:=FP ha;have e:(bU a).size=(uz a).length:=List.size_toArray;unfold maxLen; omega
theorem D.Dq:∀ (y:List T),(∀ t ∈ y,t.name.size≤8)→jm y≤8 * y.length
 | [],_=>by simp [jm]
 | t :: y,h=>by
  have h1:=h t Γ;have J:=Dq y fun u I=>h u (Δ _ I)
  unfold jm at *;simp only [List.map_cons,List.sum_cons,List.length_cons];omega
theorem D.zW {a:A} (h:aX a=true):EO a≤100:=by
 unfold aX at h;simp only [ο,decide_eq_true_eq,List.all_eq_true] at h;have h1:=JM h.1.1;have y:a.name.data.toList.length=a.name.size:=Array.length_toList
 have J:=Dq a.args fun t I=>by
  have:=(sJ (h.2 t I)).2.2;have y:t.name.data.toList.length=t.name.size:=Array.length_toList;omega
 unfold EO;omega
def D.keysOf (a:A):List WK:=⟨a.name,a.args.length,-1,⟨#[]⟩⟩ :: a.args.mapIdx fun i t=>⟨a.name,a.args.length,i,t.name⟩
theorem D.Qa {a:A} {i:Nat} (h:i < a.args.length):(⟨a.name,a.args.length,i,a.args[i].name⟩:WK) ∈ keysOf a:=by
 refine Δ _ (List.mem_mapIdx.2 ⟨i,h,rfl⟩)
def D.idxs (fs:List A) (k:WK):List Nat:=(List.range fs.length).filter fun i=>match fs[i]? with | some a=>decide (k ∈ keysOf a) | none=>false
theorem D.Dt {fs:List A} {k:WK} {i:Nat}:i ∈ idxs fs k ↔ ∃ h:i < fs.length,k ∈ keysOf fs[i]:=by
 unfold idxs;rw [List.mem_filter,List.mem_range];constructor
 ·rintro ⟨h,y⟩
  rw [Ψ h] at y;exact ⟨h,by simpa using y⟩
 ·rintro ⟨h,y⟩
  exact ⟨h,by rw [Ψ h]; simpa using y⟩
theorem D.Qb (fs:List A) (a:A) (k:WK):idxs (fs ++ [a]) k=idxs fs k ++ (if k ∈ keysOf a then [fs.length] else []):=by
 unfold idxs;rw [χ,List.length_singleton,List.range_succ,List.filter_append]
 congr 1
 ·refine List.filter_congr fun i y=>?_
  rw [List.getElem?_append_left (List.mem_range.1 y)]
 ·by_cases h:k ∈ keysOf a <;> simp [h]
theorem D.lW (fs:List A) (k:WK):(idxs fs k).length≤fs.length:=by
 unfold idxs;refine τ (List.length_filter_le _ _) ?_;simp
structure D.jv (sb:Nat) (fs:List A) (rn:List Nat) (bs:List Nat) (w:World):Prop where
 ex:∃ Af cf Ar cr mu mp bf br Lu Lp,w.heap[sb]? = some (.cells #[.slice Af fs.length cf,.slice Ar rn.length cr,.map (some mu),.map (some mp)] 127 (0,0))∧
  aU w [.slice Af fs.length cf] fs bf∧gU w [.slice Ar rn.length cr] rn br∧gm He mu Lu w∧gm isStr mp Lp w∧
  (∀ k,(∃ v b,(FH k,v) ∈ Lu∧gU w [v] (idxs fs k) b∧∀ x ∈ b,x ∈ bs)∨((∀ p ∈ Lu,p.1 ≠ FH k)∧idxs fs k = []))∧
  (∀ s:ByteArray,(∃ i:Nat,((.string s:Value),(.int .i64 i:Value)) ∈ Lp) ↔ s ∈ fs.map bU)∧(∀ p ∈ Lp,∃ i:Nat,p.2=.int .i64 i)∧
  mu ∈ bs∧mp ∈ bs∧(∀ b ∈ bf,b ∈ bs)∧∀ b ∈ br,b ∈ bs
 own:sb ∈ bs
 lt:∀ b ∈ bs,b < w.heap.size
theorem D.jv.keep {sb:Nat} {fs:List A} {rn:List Nat} {bs:List Nat} {w w':World} (h:jv sb fs rn bs w) (y:∀ b ∈ bs,w'.heap[b]? = w.heap[b]?) (hs:w.heap.size≤w'.heap.size):jv sb fs rn bs w':=by
 obtain ⟨⟨Af,cf,Ar,cr,mu,mp,bf,br,Lu,Lp,h1,h2,h3,h4,h5,h6,h7,h8,h9,I,J,U⟩,ho,hl⟩:=h;refine ⟨⟨Af,cf,Ar,cr,mu,mp,bf,br,Lu,Lp,(y _ ho).trans h1,au.keep h2 fun b hb=>y b (J b hb),aW.keep h3 fun b hb=>y b (U b hb),h4.same (y _ h9),h5.same (y _ I),fun k=>?_,h7,h8,h9,I,J,U⟩,ho,fun b hb=>κ (hl b hb) hs⟩
 rcases h6 k with ⟨v,b,g1,g2,g3⟩ | g
 ·exact .inl ⟨v,b,g1,aW.keep g2 fun x hx=>y x (g3 x hx),g3⟩
 ·exact .inr g
theorem D.jv.below {sb:Nat} {fs:List A} {rn:List Nat} {bs:List Nat} {w w':World} (h:jv sb fs rn bs w) (I:Below w.heap.size w w'):jv sb fs rn bs w':=h.keep (fun b y=>I.block b (h.lt b y)) I.size
section
variable {P:Program} {ops:Array Oper} {rest:List Oper} {o:Oper} {a:Act} {Q:Exit→Act→World→Prop}
end
structure D.Qc (mu:Nat) (fs:List A) (bs:List Nat) (w:World):Prop where
 ex:∃ Lu,gm He mu Lu w∧∀ k,(∃ v b,(FH k,v) ∈ Lu∧gU w [v] (idxs fs k) b∧∀ x ∈ b,x ∈ bs)∨((∀ p ∈ Lu,p.1 ≠ FH k)∧idxs fs k = [])
 own:mu ∈ bs
 lt:∀ b ∈ bs,b < w.heap.size
theorem D.Qc.below {mu:Nat} {fs:List A} {bs:List Nat} {w w':World} (h:Qc mu fs bs w) {B:Nat} (y:Below B w w') (hB:∀ b ∈ bs,b < B):Qc mu fs bs w':=by
 obtain ⟨⟨Lu,h1,h2⟩,J,h4⟩:=h;refine ⟨⟨Lu,h1.below y (hB _ J),fun k=>?_⟩,J,fun b I=>κ (h4 b I) y.size⟩
 rcases h2 k with ⟨v,b',g1,g2,U⟩ | g
 ·exact .inl ⟨v,b',g1,aW.Ro g2 y fun x hx=>hB x (U x hx),U⟩
 ·exact .inr g
theorem D.Qc.look {mu:Nat} {fs:List A} {bs:List Nat} {w:World} (h:Qc mu fs bs w) (k:WK):
  ∃ y I b,(Instr.lookup 125 (.map (some mu)) (.agg #[.string k.name,.int .i64 k.size,.int .i64 k.place,.string k.word]) false).run Tryz.prog w=.ok (.slice y (idxs fs k).length I) w∧gU w [.slice y (idxs fs k).length I] (idxs fs k) b∧∀ x ∈ b,x ∈ bs:=by
 obtain ⟨⟨Lu,h4,U⟩,_,_⟩:=h;show ∃ y I b,(Instr.lookup 125 (.map (some mu)) (FH k) false).run Tryz.prog w=.ok (.slice y (idxs fs k).length I) w∧_
 rcases U k with ⟨v,b,g1,J,g3⟩ | ⟨g1,J⟩
 ·obtain ⟨y,I,rfl,_⟩:=ak J
  exact ⟨y,I,b,kP wB trivial false Tryz.underlying125 h4 g1,J,g3⟩
 ·refine ⟨none,0,[],?_,by rw [J]; exact ⟨none,0,rfl,ν,ε,fun _=>rfl,fun h=>absurd rfl h⟩,fun x hx=>by simp at hx⟩
  obtain ⟨⟨es,ck,hb,rfl⟩,h2,h3⟩:=h4;have a0:∀ e ∈ es.toList,He e.key:=fun e he=>h2 (e.key,e.val) (List.mem_map.2 ⟨e,he,rfl⟩)
  rcases kC wB (w:=w) trivial (k:=FH k) ⟨k,rfl⟩ es.toList a0 with ⟨h5,U⟩ | ⟨i,e1,h5,U,h7⟩
  ·simp [J,Instr.lookup,run_underlying Tryz.underlying125,MapKept.run_getObj_map hb,wB.check w _ ⟨k,rfl⟩,h5,Result.andThen]
  ·exact absurd h7 (g1 (e1.key,e1.val) (List.mem_map.2 ⟨e1,List.mem_of_getElem? U,rfl⟩))
theorem D.J5 {fs:List A} {mp:Nat} {I:List (Value × Value)} {w:World} (y:gm isStr mp I w) (J:∀ s:ByteArray,(∃ i:Nat,((.string s:Value),(.int .i64 i:Value)) ∈ I) ↔ s ∈ fs.map bU) (h8:∀ p ∈ I,∃ i:Nat,p.2=.int .i64 i)
  (s:ByteArray) (hs:s.size≤maxLen):∃ v,(Instr.lookup 116 (.map (some mp)) (.string s) true).run Tryz.prog w=.ok (.tuple #[v,.bool (decide (s ∈ fs.map bU))]) w:=by
 by_cases hm:s ∈ fs.map bU
 ·obtain ⟨i,U⟩:=(J s).2 hm
  refine ⟨.int .i64 i,?_⟩;rw [decide_eq_true hm];exact kP jl trivial true Tryz.underlying116 y U
 ·refine ⟨.int .i64 0,?_⟩
  rw [decide_eq_false hm]
  have a0:∀ p ∈ I,p.1 ≠ .string s:=fun p hp e=>by
   obtain ⟨i,U⟩:=h8 p hp;exact hm ((J s).1 ⟨i,by rw [← e,← U]; exact hp⟩)
  obtain ⟨⟨es,ck,hb,rfl⟩,h2,h3⟩:=y;have a1:∀ e ∈ es.toList,isStr e.key:=fun e he=>h2 (e.key,e.val) (List.mem_map.2 ⟨e,he,rfl⟩)
  rcases kC jl (w:=w) trivial (k:=.string s) ⟨s,rfl,hs⟩ es.toList a1 with ⟨y,h6⟩ | ⟨i,e1,y,h6,J⟩
  ·simp [Instr.lookup,run_underlying Tryz.underlying116,MapKept.run_getObj_map hb,jl.check w _ ⟨s,rfl,hs⟩,y,Result.andThen]
  ·exact absurd J (a0 (e1.key,e1.val) (List.mem_map.2 ⟨e1,List.mem_of_getElem? h6,rfl⟩))
def D.WU (w:World) (y:Nat):Prop:=∀ o u,w.cell? ⟨y,o,none⟩=some u→∀ b,u ≠ .bool b
theorem D.J6 {w:World} {I:Nat} {s:ByteArray} {A B:Option Addr} {l c m d:Nat} {t:TypeId} (h:w.heap[I]? = some (.cells #[.string s,.slice A l c,.slice B m d] t (0,0))):WU w I:=by
 intro o u y;rw [ai h] at y
 match o with
 | 0=>simp at y; subst y; exact fun b=>by simp
 | 1=>simp at y; subst y; exact fun b=>by simp
 | 2=>simp at y; subst y; exact fun b=>by simp
 | o+3=>simp at y
theorem D.qh {w:World} {n0:Nat} (ha:WU w n0) {v:Value} {ts:List T} {bs:List Nat} (h:eP w [v] ts bs):n0 ∉ bs:=by
 intro J;obtain ⟨Ad,cap,a4,hl,hm,g0,g1⟩:=h;by_cases I:ts = []
 ·rw [g0 I] at J; simp at J
 ·obtain ⟨b,o,rfl,F,G,rfl,hF⟩:=g1 I
  rcases List.mem_cons.1 J with rfl | J
  ·match ts,I with
   | y :: r,_=>
    obtain ⟨a1,a2,a3⟩:=hF 0 y rfl;obtain ⟨e,_,_⟩:=a3;have:=a2 0 (.bool y.var) (by rw [e]; rfl);exact ha _ _ this _ rfl
  ·obtain ⟨k,hk,U⟩:=List.mem_flatMap.1 J
   have a0:=List.mem_range.1 hk;obtain ⟨a1,a2,a3⟩:=hF k ts[k] (Ψ a0);obtain ⟨_,_,e⟩:=a3;rw [e] at U; simp at U
theorem D.EF {w:World} {y:Nat} (ha:WU w y) {L:List Value} {xs:List Pt} {bs:List Nat} (h:aQ 3 nT w L xs bs):y ∉ bs:=by
 obtain ⟨h1,h2,G,rfl,I⟩:=h;intro J;obtain ⟨j,U,hc⟩:=List.mem_flatMap.1 J;obtain ⟨s,_,_,ht⟩:=I j (List.mem_range.1 U);exact qh ha ht hc
theorem Tv {w:World} {base e n k c:Nat} {A:Option Addr} {L:List Value} (h:w.ownsRow base e n (.slice A k c) k L):Lies w A L:=by
 rcases h.2 with ⟨I,U⟩ | ⟨g,cap,a0,I,_,hh,_,_,a1,ht⟩
 ·have:L.length=0:=by rw [h.1,U,Nat.zero_mul]
  rw [List.length_eq_zero_iff.1 this];exact Lies.nil _ _
 ·simp only [Value.slice.injEq] at I
  rw [I.1];refine Lies.mk fun j u y=>?_
  rw [Nat.zero_add,ai hh];rw [← ht] at y;by_cases J:j < k * n
  ·rw [List.getElem?_take_of_lt J] at y
   simpa using y
  ·rw [List.getElem?_take_eq_none (by omega)] at y
   cases y
structure iJ (g p rb:Nat) (wb:World) (a:A) (A1:Option Addr) (c1:Nat) (b1:List Nat) (xs:List Pt) (A2:Option Addr) (c2:Nat) (wr:World):Prop where
 box:wr.heap[rb]? = some (.cells #[.string a.name,.slice A1 a.args.length c1,.slice A2 xs.length c2] 40 (0,0))
 at_:aG wr [.string a.name,.slice A1 a.args.length c1] a b1
 alt:∀ b ∈ b1,b < wb.heap.size
 bd:jQ g p wb xs (.slice A2 xs.length c2) wr
 gb:g ≠ rb
 ga:g ∉ b1
 rbb:wb.heap.size≤rb
section
variable {g p rb:Nat} {wb:World} {a:A} {A1:Option Addr} {c1:Nat} {b1:List Nat} {xs:List Pt} {A2:Option Addr} {c2:Nat} {wr:World}
theorem iJ.call {p2:Nat} {y:World} (h:iJ g p rb wb a A1 c1 b1 xs A2 c2 wr) (I:kH g p2 y) (hK:aH [g] wr y):iJ g p2 rb wb a A1 c1 b1 xs A2 c2 y:=
 ⟨hK.blk h.box (by simp; exact fun e=>h.gb e.symm),Good.kept aj h.at_ hK (fun b J=>by simp; rintro rfl; exact h.ga J),h.alt,h.bd.call I hK,h.gb,h.ga,h.rbb⟩
theorem iJ.below {y:World} (h:iJ g p rb wb a A1 c1 b1 xs A2 c2 wr) (hB:Below wr.heap.size wr y):iJ g p rb wb a A1 c1 b1 xs A2 c2 y:=
 ⟨(hB.block _ (ψ h.box)).trans h.box,aj.below h.at_ hB,h.alt,h.bd.below hB,h.gb,h.ga,h.rbb⟩
theorem iJ.start {y:World} (I:aG wb [.string a.name,.slice A1 a.args.length c1] a b1) (J:g ∉ b1) (hF:jQ g p wb xs (.slice A2 xs.length c2) y):
  iJ g p y.heap.size wb a A1 c1 b1 xs A2 c2 (y.alloc (.cells #[.string a.name,.slice A1 a.args.length c1,.slice A2 xs.length c2] 40)):=by
 have U:Below y.heap.size y (y.alloc (.cells #[.string a.name,.slice A1 a.args.length c1,.slice A2 xs.length c2] 40)):=ζ;exact ⟨ω y _,aj.below (Good.kept aj I hF.kept (fun b hb=>by simp; rintro rfl; exact J hb)) U,aj.lt I,hF.below U,by have:=hF.kept.size; have:=hF.glt; omega,J,hF.kept.size⟩
theorem iJ.put {ys:List Pt} {U:Option Addr} {c3:Nat} {w2:World} (h:iJ g p rb wb a A1 c1 b1 xs A2 c2 wr) (a0:w2.heap[rb]? = wr.heap[rb]?) (a2:∀ b ∈ b1,w2.heap[b]? = wr.heap[b]?) (y:jQ g p wb ys (.slice U ys.length c3) w2):
  iJ g p rb wb a A1 c1 b1 ys U c3 (w2.setCell ⟨rb,2,none⟩ (.slice U ys.length c3)):=by
 have J:=a0.trans h.box;have hx:=bK (o:=2) (u:=.slice U ys.length c3) J;have a1:=J6 J;have I:=aj.keep h.at_ a2;have a3:rb ∉ b1:=qh a1 (dm I);obtain ⟨L,bs,hC,a4⟩:=y.coll;have a5:rb ∉ bs:=EF a1 hC.row;have a6:(Value.slice U ys.length c3).ownBlock ≠ some rb:=iQ hC.own J (by decide);exact ⟨hx,aj.keep I fun b hb=>π _ _ _ _ (by rintro rfl; exact a3 hb),h.alt,⟨⟨L,bs,hC.lZ jd a6 a5,a4⟩,y.small,y.rdr.fM ((Below.refl wb.heap.size w2).setCell h.rbb _) y.glt,y.kept.GK h.rbb _,y.glt⟩,h.gb,h.ga,h.rbb⟩
theorem iJ.bare (h:iJ g p rb wb a A1 c1 b1 xs A2 c2 wr):iJ g p rb wb a A1 c1 b1 [] (some ⟨wr.heap.size,0,none⟩) 0 ((wr.setCell ⟨rb,2,none⟩ (.slice (some ⟨wr.heap.size,0,none⟩) 0 0)).alloc (.cells #[] 42)):=by
 have I:=bK (o:=2) (u:=.slice (some ⟨wr.heap.size,0,none⟩) 0 0) h.box;have J:rb ∉ b1:=qh (J6 h.box) (dm h.at_);have U:=aj.keep h.at_ (w':=wr.setCell ⟨rb,2,none⟩ (.slice (some ⟨wr.heap.size,0,none⟩) 0 0)) fun b hb=>π _ _ _ _ (by rintro rfl; exact J hb)
 have a0:=h.bd.rdr.fM ((Below.refl wb.heap.size wr).setCell (p:=⟨rb,2,none⟩) h.rbb (.slice (some ⟨wr.heap.size,0,none⟩) 0 0)) h.bd.glt;have hk:=h.bd.kept.GK (p:=⟨rb,2,none⟩) h.rbb (.slice (some ⟨wr.heap.size,0,none⟩) 0 0);have a1:(wr.setCell ⟨rb,2,none⟩ (.slice (some ⟨wr.heap.size,0,none⟩) 0 0)).heap.size=wr.heap.size:=by simp [World.setCell]
 generalize wr.setCell ⟨rb,2,none⟩ (.slice (some ⟨wr.heap.size,0,none⟩) 0 0)=wx at *;rw [← a1] at I ⊢;have y:Below wx.heap.size wx (wx.alloc (.cells #[] 42)):=ζ;exact ⟨(y.block _ (ψ I)).trans I,aj.below U y,h.alt,⟨⟨_,_,aZ.empty (ω wx _) hk.size,fun b hb=>by simp at hb⟩,fun a ha=>by simp at ha,a0.below y,hk.fM y hk.size,h.bd.glt⟩,h.gb,h.ga,h.rbb⟩
theorem iJ.cell (h:iJ g p rb wb a A1 c1 b1 xs A2 c2 wr):wr.cell? ⟨rb,0,none⟩=some (.string a.name)∧wr.cell? ⟨rb,1,none⟩=some (.slice A1 a.args.length c1)∧wr.cell? ⟨rb,2,none⟩=some (.slice A2 xs.length c2):=⟨ai h.box,ai h.box,ai h.box⟩
theorem iJ.tq (h:iJ g p rb wb a A1 c1 b1 xs A2 c2 wr) (o:Nat):wr.frozen? ⟨rb,o,none⟩=false:=ax h.box
theorem iJ.keep {wx I:World} (h:iJ g p rb wb a A1 c1 b1 xs A2 c2 wr) (hA:Below wr.heap.size wr wx) (hG:wx.grownBy I (Value.slice A2 xs.length c2).ownBlock):
  I.heap[rb]? = wr.heap[rb]?∧I.cell? ⟨rb,2,none⟩=some (.slice A2 xs.length c2)∧I.frozen? ⟨rb,2,none⟩=false∧rb < I.heap.size:=by
 obtain ⟨L,bs,J,a0⟩:=h.bd.coll;have U:(Value.slice A2 xs.length c2).ownBlock ≠ some rb:=iQ J.own h.box (by decide)
 have y:I.heap[rb]? = wr.heap[rb]?:=by
  rw [hG.block rb (κ (ψ h.box) hA.size) (fun e=>U e.symm)];exact hA.block rb (ψ h.box)
 have hb:=y.trans h.box;exact ⟨y,ai hb,ax hb,ψ hb⟩
theorem iJ.app {y:A} {U:Option Addr} {c4:Nat} {wx J:World} {L4:List Value} {I:List Nat} (h:iJ g p rb wb a A1 c1 b1 xs A2 c2 wr) (hA:Below wr.heap.size wr wx) (hC:aZ 3 nT wb.heap.size 42 J (.slice U (xs.length+1) c4) L4 (xs ++ [⟨false,y⟩]) I) (a0:∀ b ∈ I,wb.heap.size≤b) (hB:Below wb.heap.size wr J) (hG:wx.grownBy J (Value.slice A2 xs.length c2).ownBlock) (hy:Wi ⟨false,y⟩):
  iJ g p rb wb a A1 c1 b1 (xs ++ [⟨false,y⟩]) U c4 (J.setCell ⟨rb,2,none⟩ (.slice U (xs.length+1) c4)):=by
 have a1:=h.bd.app hC a0 hB hy;have e:xs.length+1=(xs ++ [(⟨false,y⟩:Pt)]).length:=by simp
 rw [e];exact h.put (h.keep hA hG).1 (fun b hb=>hB.block b (h.alt b hb)) (by rw [← e]; exact a1)
theorem iJ.rule {B:Nat} (h:iJ g p rb wb a A1 c1 b1 xs A2 c2 wr) (I:∀ b ∈ b1,B≤b) (hB:B≤wb.heap.size):∃ br,fG wr [.string a.name,.slice A1 a.args.length c1,.slice A2 xs.length c2] ⟨a,xs⟩ br∧∀ b ∈ br,B≤b:=by
 obtain ⟨b2,hp,h2⟩:=h.bd.parts;obtain ⟨s,y,J,U⟩:=h.at_;simp only [List.cons.injEq,and_true,true_and] at y;subst y;exact ⟨b1 ++ b2,⟨_,_,b1,b2,rfl,J,rfl,U,hp⟩,fun b hb=>(μ.1 hb).elim (I b) (fun hb=>τ hB (h2 b hb))⟩
end
theorem D.J7 {w:World} {b:Nat} {x y z:ByteArray} (h:w.heap[b]? = some (.cells #[.bool true,.string x,.bool true,.string y,.bool true,.string z] 91 (0,0))) (U:x.size≤maxLen) (hy:y.size≤maxLen) (hz:z.size≤maxLen):
  eP w [.slice (some ⟨b,0,none⟩) 3 3] [⟨true,x⟩,⟨true,y⟩,⟨true,z⟩] [b]:=by
 refine ⟨_,3,rfl,ν,by unfold maxLen; omega,fun h=>by simp at h,fun _=>⟨b,0,rfl,fun k=>if k=0 then [.bool true,.string x] else if k=1 then [.bool true,.string y] else [.bool true,.string z],fun _=>[],by simp,fun k t J=>?_⟩⟩
 match k,J with
 | 0,J=>
  simp only [List.getElem?_cons_zero,Option.some.injEq] at J;subst J;refine ⟨rfl,fun j v I=>?_,rfl,U,rfl⟩
  match j,I with
  | 0,I=>rw [ai h]; simpa using I
  | 1,I=>rw [ai h]; simpa using I
  | j+2,I=>simp at I
 | 1,J=>
  simp only [List.getElem?_cons_succ,List.getElem?_cons_zero,Option.some.injEq] at J;subst J;refine ⟨rfl,fun j v I=>?_,rfl,hy,rfl⟩
  match j,I with
  | 0,I=>rw [ai h]; simpa using I
  | 1,I=>rw [ai h]; simpa using I
  | j+2,I=>simp at I
 | 2,J=>
  simp only [List.getElem?_cons_succ,List.getElem?_cons_zero,Option.some.injEq] at J;subst J;refine ⟨rfl,fun j v I=>?_,rfl,hz,rfl⟩
  match j,I with
  | 0,I=>rw [ai h]; simpa using I
  | 1,I=>rw [ai h]; simpa using I
  | j+2,I=>simp at I
 | k+3,J=>simp at J
theorem Du {g p n:Nat} {w y U:World} {xs:List Ru} {Av:Option Addr} {cp:Nat} {I:TypeInfo} (hi:Tryz.prog.info? 40=some I) (a0:I.zero=some (.agg #[.string ⟨#[]⟩,.slice none 0 0,.slice none 0 0])) (a1:I.size=3) (a2:I.bytes=64)
  {ops:Array Oper} {o:Oper} {a:Act} {K:Act→World→Prop} {Q:Exit→Act→World→Prop} {E:Prop} (a3:o.guard=none) (s x:Operand)
  (ho:o.op=.call { callee:=.builtin .append,args:=#[s,x],argTypes:=#[23,23] }) (b:Nat) (hs:a.eval s=.slice (some ⟨b,0,none⟩) 0 0) (hE:U.heap[b]? = some (.cells #[] 40 (0,0))) (hb:y.heap.size≤b)
  (H:fJ g p w xs (.slice Av n cp) y) (hx:a.eval x=.slice Av n cp) (hn:xs.length=n) (hB:Below y.heap.size y U) (hlen:n≤100)
  (h:∀ A cap w',(∃ L bs,aZ 3 fG y.heap.size 40 w' (.slice A n cap) L xs bs∧(∀ b ∈ bs,w.heap.size≤b))→Below y.heap.size y w'→U.grownBy w' (some b)→K (a.put o.dst (.slice A n cap)) w'):if Region.wanted o (yielded ops a.tmps)=true then Oper.wp Tryz.prog o a U K Q else E:=by
 subst hn;obtain ⟨L,bs,hC,a4⟩:=H.coll;have J:=hC.below aV hB
 refine aT a3 s x _ ho y.heap.size 40 I _ 3 64 Tryz.underlying23 hi a0 a1 a2 rfl (by omega) aV (.slice (some ⟨b,0,none⟩) 0 0) 0 [] [] [] hs (aZ.empty hE hb) rfl Av xs.length cp L xs bs hx J.row rfl (Tv J.own) (fun c hc=>by
  have:=hC.row.lt aV c hc
  simp [Value.ownBlock]; omega) (by unfold maxLen; omega) (by omega) y y.heap.size hB ν hB.size fun A cap w' a5 a6 _ hG=>?_
 rw [Nat.zero_add] at *;exact h A cap w' ⟨L,bs,by simpa using a5,a4⟩ a6 hG
theorem Tz {g p n:Nat} {w y W2:World} {xs:List Ru} {Av:Option Addr} {cp:Nat} {I:TypeInfo} (hi:Tryz.prog.info? 40=some I) (a0:I.zero=some (.agg #[.string ⟨#[]⟩,.slice none 0 0,.slice none 0 0])) (a1:I.size=3) (a2:I.bytes=64)
  {ops:Array Oper} {o:Oper} {a:Act} {K:Act→World→Prop} {Q:Exit→Act→World→Prop} {E:Prop} (a3:o.guard=none) (s x:Operand)
  (ho:o.op=.call { callee:=.builtin .append,args:=#[s,x],argTypes:=#[23,23] }) {L:List Value} {bs:List Nat} (hs:a.eval s=.slice Av n cp) (hC:aZ 3 fG y.heap.size 40 W2 (.slice Av n cp) L xs bs) (a4:∀ b ∈ bs,w.heap.size≤b)
  {v:Value} (H:fJ g p w xs v y) (lb:Nat) (hx:a.eval x=.slice (some ⟨lb,0,none⟩) 1 1) {c0 c1 c2:Value} (hl:W2.heap[lb]? = some (.cells #[c0,c1,c2] 40 (0,0))) {r:Ru} {br:List Nat} (hr:fG y [c0,c1,c2] r br) (a5:∀ b ∈ br,w.heap.size≤b) (a6:QZ r) (hn:xs.length=n) (hB:Below y.heap.size y W2) (hlen:n≤100)
  (h:∀ A cap w',fJ g p w (xs ++ [r]) (.slice A (n+1) cap) w'→Below y.heap.size y w'→K (a.put o.dst (.slice A (n+1) cap)) w'):if Region.wanted o (yielded ops a.tmps)=true then Oper.wp Tryz.prog o a W2 K Q else E:=by
 subst hn;have J:=H.kept.size;refine aT a3 s x _ ho y.heap.size 40 I _ 3 64 Tryz.underlying23 hi a0 a1 a2 rfl (by omega) aV (.slice Av xs.length cp) xs.length L xs bs hs hC rfl (some ⟨lb,0,none⟩) 1 1 _ [r] br hx (aQ.dh kY (aV.below hr hB)) rfl (aS hl) (fun c hc=>aP hC.own (aV.lt hr c hc)) (by unfold maxLen; omega) (by omega) y y.heap.size hB ν hB.size fun A cap w' a7 U _ hG=>?_
 have a8:Below w.heap.size y w':=U.mono J;exact h A cap w' (H.app (a7.mono J) (fun b hb=>(μ.1 hb).elim (a4 b) (a5 b)) a8 a6) U
end
end Go.Proofs.YtkjinanbccloeaaGreatDoor
