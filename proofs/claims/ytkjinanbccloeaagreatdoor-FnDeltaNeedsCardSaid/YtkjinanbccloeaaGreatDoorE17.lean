/- Of the proof of FnDeltaNeeds: ChC, FsX, Facts, Common, UnionP, StoP, OfP, BothP. -/
import Derived.Test.YtkjinanbccloeaaGreatDoorE12
import Derived.Test.YtkjinanbccloeaaGreatDoorE14
set_option linter.unusedVariables false
set_option maxHeartbeats 4000000
set_option maxRecDepth 100000
namespace Go.Proofs.YtkjinanbccloeaaGreatDoor
section
open Go.RowKit D
attribute [local go_sem ↓] Go.wp_at_zero Go.wp_at_succ
theorem Fj (c:Ch) (c0 c1:Value) (bs:List Nat) (w:World) (h:gK w [c0,c1] c bs) (h1:EY c.comes) (h2:EY c.goes):
  Calls Tryz.prog 77 #[.agg #[c0,c1]] w (Yy c w.heap.size w):=by
 obtain ⟨Ad,cap,Ae,y,rfl,rfl⟩:=iD h;obtain ⟨b1,b2,rfl,ht,hp⟩:=gQ h;have k1:=fun w' (hb:Below w.heap.size w w')=>wM c.comes _ b1 w' (au.below ht hb) (τ h1.1 (by omega)) h1.2
 have k2:=fun w' (hb:Below w.heap.size w w')=>wM c.goes _ b2 w' (au.below hp hb) (τ h2.1 (by omega)) h2.2
 clear h ht hp h1 h2;have J:Below w.heap.size w ((w.alloc (.cells #[.slice Ad c.comes.length cap,.slice Ae c.goes.length y] 54)).alloc (.cells #[.slice none 0 0,.slice none 0 0] 54)):=(ζ).alloc (by simp) _;have a4:=η (Ve (Xr w (.cells #[.slice Ad c.comes.length cap,.slice Ae c.goes.length y] 54) (.cells #[.slice none 0 0,.slice none 0 0] 54)));have x0:((w.alloc (.cells #[.slice Ad c.comes.length cap,.slice Ae c.goes.length y] 54)).alloc (.cells #[.slice none 0 0,.slice none 0 0] 54)).cell? ⟨w.heap.size,0,none⟩=some (.slice Ad c.comes.length cap):=by go_simp
 have x1:((w.alloc (.cells #[.slice Ad c.comes.length cap,.slice Ae c.goes.length y] 54)).alloc (.cells #[.slice none 0 0,.slice none 0 0] 54)).cell? ⟨w.heap.size,1,none⟩=some (.slice Ae c.goes.length y):=by go_simp
 go_enter Tryz.func77,Tryz.ntmps77
 go_wp2
 go_region_held3 (fun w'=>w'.cell? ⟨w.heap.size,0,none⟩=some (.slice Ad c.comes.length cap)∧w'.cell? ⟨w.heap.size,1,none⟩=some (.slice Ae c.goes.length y))
  (first | go_keep | exact ⟨x0,x1⟩)
  (first
   | (have a6:=B1; go_at_call 54; refine (k2 _ B1).mono ?_; rintro e w2 ⟨I,v2,b4,rfl,a1,a2⟩; obtain ⟨A2,p2,rfl,_,_⟩:=aj a1; have B2:=B1.trans (I.mono B1.size); replace x0:=ξ I x0; replace x1:=ξ I x1; have HZ:=η (fD I a5.out); have z0:w2.cell? ⟨w.heap.size+1,0,none⟩=some (.slice none 0 0):=dD HZ.out; have z1:w2.cell? ⟨w.heap.size+1,1,none⟩=some (.slice none 0 0):=dD HZ.out; have f0:w2.frozen? ⟨w.heap.size+1,0,none⟩=false:=bJ HZ.out; have f1:w2.frozen? ⟨w.heap.size+1,1,none⟩=false:=bJ HZ.out; have HF:=η (ι (fQ (c:=c) HZ.out (au.below U I) a1) (New.append ((a3.below I).mono J.drew.size) a2 B1.size (au.lt U))); clear U a3 a1 a2)
   | (go_at_call 54; refine (k1 _ J.drew).mono ?_; rintro e w1 ⟨a0,v1,b3,rfl,U,a3⟩; obtain ⟨A1,p1,rfl,_,_⟩:=aj U; have B1:=J.drew.trans (a0.mono J.drew.size); replace x0:=ξ a0 x0; replace x1:=ξ a0 x1; have a5:=η (fD a0 a4.out)))
 go_wp2;refine bodyPost_ret (v:=.agg #[.slice A1 c.comes.length p1,.slice A2 c.goes.length p2]) (by simp [results,Tryz.results77,go_sem,z0,z1]) rfl ⟨(B2.setCell (by simp) _).setCell (by simp) _,_,_,rfl,HF.out.1,(HF.out.2.Y1 _ _).Y1 _ _⟩
theorem D.JG {xs:List ByteArray} {s:ByteArray} (h:∀ j (h:j < xs.length),xs[j] ≠ s):s ∉ xs:=fun hm=>by
 obtain ⟨j,y,e⟩:=List.mem_iff_getElem.1 hm;exact h j y e
theorem Fp (xs:List ByteArray) (s:ByteArray) (v:Value) (bs:List Nat) (w:World) (h:iF w [v] xs bs):
  Calls Tryz.prog 22 #[v,.string s] w fun e w'=>e=.returned (.bool (decide (s ∈ xs)))∧Below w.heap.size w w':=by
 obtain ⟨Ad,cap,rfl,hl,hm⟩:=aj h;have a3:=ay (τ hl hm);clear hm hl
 go_enter Tryz.func22,Tryz.ntmps22
 go_wp2
 go_loopw [5] (fun i wr=>∃ k:Nat,k≤xs.length∧i=.int .i64 k∧(∀ j (h:j < xs.length),j < k→xs[j] ≠ s)∧Below w.heap.size w wr) (fun i _=>xs.length - (intOf i).toNat)
 case atStart=>exact ⟨0,ε,rfl,fun j _ h=>by omega,ϑ⟩
 case round=>
  obtain ⟨k,hk,rfl,y,hb⟩:=hrel;have HA:=η y;clear y;by_cases I:k < xs.length
  ·obtain ⟨b,o,rfl,_,c0,a4⟩:=nD (bP.below h hb) I
   have a2:(k:Int) < (xs.length:Int):=by omega
   have a5:(0:Int)≤(k:Int):=by omega
   have HY:Hid (xs[k]=s→decide (s ∈ xs)=true):=η (fun e=>by rw [← e]; simp)
   have HN:Hid (xs[k] ≠ s→∀ j (h:j < xs.length),j < k+1→xs[j] ≠ s):=η (fun e j U a6=>by
    by_cases h2:j=k
    ·subst h2; exact e
    ·exact HA.out j U (by omega))
   clear h;have J:=η I;generalize xs[k]=t at *;clear I;cases hs:(t.toList == s.toList)
   ·have a0:=η (HN.out (by rw [lu] at hs; simpa using hs))
    go_wp2;go_roundw
    case rel=>exact ⟨k+1,J.out,by go_num,a0.out,hb⟩
    case measure=>have:=J.out; simp [intOf]; omega
   ·have a1:=η (HY.out (by rw [lu] at hs; simpa using hs))
    go_wp2;go_ret;exact ⟨congrArg (fun b=>Ending.returned (Value.bool b)) a1.out.symm,hb⟩
  ·have he:k=xs.length:=by omega
   subst he;have HF:Hid (decide (s ∈ xs)=false):=η (by simpa using JG fun j U=>HA.out j U U);go_wp2;go_ret;exact ⟨congrArg (fun b=>Ending.returned (Value.bool b)) HF.out.symm,hb⟩
end
section
open Go.RowKit D
set_option linter.unusedSimpArgs false
attribute [local go_sem ↓] Go.wp_at_zero Go.wp_at_succ
theorem D.jG {P:Program} {ops:Array Oper} {Q:Exit→Act→World→Prop} {y:Region.Mode} {S:World→Prop} (i:Nat) {d op ty ps af gd} {fuel:Nat} {listed:Array Bool} {a:Act} {w:World} (I:ops[i]? = some (Oper.mk d op ty ps af gd))
  (hb:(Region.noSelect ops && Region.free y ops listed i && (Region.ready y ops listed).contains i && !Region.wanted (Oper.mk d op ty ps af gd) (yielded ops a.tmps))=true) (J:∀ c a w,Q (.panic c) (a.put d undef) w→Q (.panic c) a w) (U:S w)
  (h:wpAnyH P y ops Q S fuel (listed.setIfInBounds i true) (a.put d undef) w):wpAnyH P y ops Q S (fuel+1) listed a w:=by
 simp only [ο,Bool.not_eq_true'] at hb;exact wpAnyH_take I hb.1.1.1 hb.1.1.2 hb.1.2 J (.inr ⟨hb.2,rfl⟩) U h
theorem D.mQ {P:Program} {ops:Array Oper} {Q:Exit→Act→World→Prop} {y:Region.Mode} {S:World→Prop} (i:Nat) {d op ty ps af gd} {v:Value} {fuel:Nat} {listed:Array Bool} {a:Act} {w:World} (I:ops[i]? = some (Oper.mk d op ty ps af gd))
  (hb:(Region.noSelect ops && Region.free y ops listed i && (Region.ready y ops listed).contains i && Region.wanted (Oper.mk d op ty ps af gd) (yielded ops a.tmps))=true) (J:∀ c a w,Q (.panic c) (a.put d v) w→Q (.panic c) a w)
  (hv:∀ w,S w→(execOp a.eval (Oper.mk d op ty ps af gd)).run P w=.ok (.value v) w) (U:S w)
  (h:wpAnyH P y ops Q S fuel (listed.setIfInBounds i true) (a.put d v) w):wpAnyH P y ops Q S (fuel+1) listed a w:=by
 simp only [ο] at hb;exact wpAnyH_take I hb.1.1.1 hb.1.1.2 hb.1.2 J (.inl ⟨hb.2,hv⟩) U h
theorem MX (xs:List A) (v:Value) (bs:List Nat) (m:Nat) (w:World) (h:aC w [v] xs bs) (aa:m≤1000):
  Calls Tryz.prog 106 #[v,.int .i64 m] w fun e w'=>e=.returned (.bool (okB xs && decide (xs.length≤m)))∧Below w.heap.size w w':=by
 obtain ⟨Ad,cap,rfl,hl,hm⟩:=aj h;have am:=ay (τ hl hm);clear hm
 go_enter Tryz.func106,Tryz.ntmps106
 go_wp2
 go_loopw [5] (fun i wr=>∃ k:Nat,k≤xs.length∧i=.int .i64 k∧QV xs k∧Below w.heap.size w wr) (fun i _=>xs.length - (intOf i).toNat)
 case atStart=>exact ⟨0,ε,rfl,QW _,ϑ⟩
 case round=>
  obtain ⟨k,hk,rfl,a4,hb⟩:=hrel;have HA:=η a4;clear a4;by_cases a2:k < xs.length
  ·have ab:(0:Int)≤(k:Int):=by omega
   have ac:(k:Int) < (xs.length:Int):=by omega
   cases hf:dI xs[k]
   ·have HF:=η (Qm a2 hf)
    obtain ⟨b,o,Ae,ce,bk,rfl,_,c0,c1,a1,_⟩:=dL (au.below h hb) a2;have hg:=sH xs[k] _ _ bk _ (ak.below a1 (Below.drew ϑ));rw [hf] at hg;clear h hf a1;go_wp2;refine wp_region_held_drew (S:=(fun w'=>w'.cell? ⟨b,o+k * 2,none⟩=some (.string xs[k].name)∧w'.cell? ⟨b,o+k * 2+1,none⟩=some (.slice Ae xs[k].args.length ce))) (by kernel_rfl) ?_ (fun I=>?_)
    ·go_keep
    refine mQ 0 (v:=?_) rfl (by kernel_rfl) (fun _ _ _ h=>h) ?_ (by assumption) ?_
    rotate_left
    ·(intro w y; (try dsimp only at y); go_simp); (first | done | with_reducible rfl)
    try simp only [Act.put,List.setIfInBounds_toArray,List.set_cons_zero,List.set_cons_succ]
    refine mQ 1 (v:=?_) rfl (by kernel_rfl) (fun _ _ _ h=>h) ?_ (by assumption) ?_
    rotate_left
    ·(intro w y; (try dsimp only at y); go_simp); (first | done | with_reducible rfl)
    try simp only [Act.put,List.setIfInBounds_toArray,List.set_cons_zero,List.set_cons_succ]
    refine mQ 2 (v:=?_) rfl (by kernel_rfl) (fun _ _ _ h=>h) ?_ (by assumption) ?_
    rotate_left
    ·(intro w y; (try dsimp only at y); go_simp); (first | done | with_reducible rfl)
    try simp only [Act.put,List.setIfInBounds_toArray,List.set_cons_zero,List.set_cons_succ]
    refine mQ 3 (v:=?_) rfl (by kernel_rfl) (fun _ _ _ h=>h) ?_ (by assumption) ?_
    rotate_left
    ·(intro w y; (try dsimp only at y); go_simp); (first | done | with_reducible rfl)
    try simp only [Act.put,List.setIfInBounds_toArray,List.set_cons_zero,List.set_cons_succ]
    refine wpAnyH_ready (rs:=[4]) (by kernel_rfl) (by simp) ?_;refine AllReadyH.cons (o:=⟨_,_,_,_,_,_⟩) rfl (fun K hK=>?_) AllReadyH.nil;rw [if_pos (by rfl)];go_simp
    go_at_call 146
    refine hg.mono ?_;rintro e w' ⟨rfl,a0⟩;clear I;refine hK.out _ _ ?_ (fun I=>?_)
    ·exact ⟨ξ a0 c0,ξ a0 c1⟩
    clear hK;clear K
    try simp only [Act.put,List.setIfInBounds_toArray,List.set_cons_zero,List.set_cons_succ]
    refine mQ 5 (v:=?_) rfl (by kernel_rfl) (fun _ _ _ h=>h) ?_ (by assumption) ?_
    rotate_left
    ·(intro w y; (try dsimp only at y); go_simp); (first | done | with_reducible rfl)
    try simp only [Act.put,List.setIfInBounds_toArray,List.set_cons_zero,List.set_cons_succ]
    refine mQ 6 (v:=?_) rfl (by kernel_rfl) (fun _ _ _ h=>h) ?_ (by assumption) ?_
    rotate_left
    ·(intro w y; (try dsimp only at y); go_simp); (first | done | with_reducible rfl)
    try simp only [Act.put,List.setIfInBounds_toArray,List.set_cons_zero,List.set_cons_succ]
    refine jG 7 rfl (by kernel_rfl) (fun _ _ _ h=>h) (by assumption) ?_;refine jG 8 rfl (by kernel_rfl) (fun _ _ _ h=>h) (by assumption) ?_;refine jG 9 rfl (by kernel_rfl) (fun _ _ _ h=>h) (by assumption) ?_;refine jG 10 rfl (by kernel_rfl) (fun _ _ _ h=>h) (by assumption) ?_;refine jG 11 rfl (by kernel_rfl) (fun _ _ _ h=>h) (by assumption) ?_;refine jG 12 rfl (by kernel_rfl) (fun _ _ _ h=>h) (by assumption) ?_;refine jG 13 rfl (by kernel_rfl) (fun _ _ _ h=>h) (by assumption) ?_;refine jG 14 rfl (by kernel_rfl) (fun _ _ _ h=>h) (by assumption) ?_;refine jG 15 rfl (by kernel_rfl) (fun _ _ _ h=>h) (by assumption) ?_;refine jG 16 rfl (by kernel_rfl) (fun _ _ _ h=>h) (by assumption) ?_;refine jG 17 rfl (by kernel_rfl) (fun _ _ _ h=>h) (by assumption) ?_;refine jG 18 rfl (by kernel_rfl) (fun _ _ _ h=>h) (by assumption) ?_;refine jG 19 rfl (by kernel_rfl) (fun _ _ _ h=>h) (by assumption) ?_;refine jG 20 rfl (by kernel_rfl) (fun _ _ _ h=>h) (by assumption) ?_
    refine jG 21 rfl (by kernel_rfl) (fun _ _ _ h=>h) (by assumption) ?_
    try simp only [Act.put,List.setIfInBounds_toArray,List.set_cons_zero,List.set_cons_succ]
    refine mQ 22 (v:=?_) rfl (by kernel_rfl) (fun _ _ _ h=>h) ?_ (by assumption) ?_
    rotate_left
    ·(intro w y; (try dsimp only at y); go_simp); (first | done | with_reducible rfl)
    try simp only [Act.put,List.setIfInBounds_toArray,List.set_cons_zero,List.set_cons_succ]
    clear I;refine wpAnyH_done (by kernel_rfl) ?_ _;go_wp2;go_ret;exact ⟨aH (by rw [HF.out]; rfl),hb.trans ((Below.drew ϑ).trans (a0.mono hb.size))⟩
   ·cases k with
    | zero=>
     obtain ⟨b,o,Ae,ce,bk,rfl,_,c0,c1,a1,_⟩:=dL (au.below h hb) a2;have hg:=sH xs[0] _ _ bk _ (ak.below a1 (Below.drew ϑ));rw [hf] at hg;have HN:=η (Ux a2 hf);simp only [Nat.zero_mul,Nat.add_zero] at c0 c1;clear h hf a1;go_wp2;refine wp_region_held_drew (S:=(fun w'=>w'.cell? ⟨b,o,none⟩=some (.string xs[0].name)∧w'.cell? ⟨b,o+1,none⟩=some (.slice Ae xs[0].args.length ce))) (by kernel_rfl) ?_ (fun I=>?_)
     ·go_keep
     refine mQ 0 (v:=?_) rfl (by kernel_rfl) (fun _ _ _ h=>h) ?_ (by assumption) ?_
     rotate_left
     ·(intro w y; (try dsimp only at y); go_simp); (first | done | with_reducible rfl)
     try simp only [Act.put,List.setIfInBounds_toArray,List.set_cons_zero,List.set_cons_succ]
     refine mQ 1 (v:=?_) rfl (by kernel_rfl) (fun _ _ _ h=>h) ?_ (by assumption) ?_
     rotate_left
     ·(intro w y; (try dsimp only at y); go_simp); (first | done | with_reducible rfl)
     try simp only [Act.put,List.setIfInBounds_toArray,List.set_cons_zero,List.set_cons_succ]
     refine mQ 2 (v:=?_) rfl (by kernel_rfl) (fun _ _ _ h=>h) ?_ (by assumption) ?_
     rotate_left
     ·(intro w y; (try dsimp only at y); go_simp); (first | done | with_reducible rfl)
     try simp only [Act.put,List.setIfInBounds_toArray,List.set_cons_zero,List.set_cons_succ]
     refine mQ 3 (v:=?_) rfl (by kernel_rfl) (fun _ _ _ h=>h) ?_ (by assumption) ?_
     rotate_left
     ·(intro w y; (try dsimp only at y); go_simp); (first | done | with_reducible rfl)
     try simp only [Act.put,List.setIfInBounds_toArray,List.set_cons_zero,List.set_cons_succ]
     refine wpAnyH_ready (rs:=[4]) (by kernel_rfl) (by simp) ?_;refine AllReadyH.cons (o:=⟨_,_,_,_,_,_⟩) rfl (fun K hK=>?_) AllReadyH.nil;rw [if_pos (by rfl)];go_simp
     go_at_call 146
     refine hg.mono ?_;rintro e w' ⟨rfl,a0⟩;clear I;refine hK.out _ _ ?_ (fun I=>?_)
     ·exact ⟨ξ a0 c0,ξ a0 c1⟩
     clear hK;clear K
     try simp only [Act.put,List.setIfInBounds_toArray,List.set_cons_zero,List.set_cons_succ]
     refine mQ 5 (v:=?_) rfl (by kernel_rfl) (fun _ _ _ h=>h) ?_ (by assumption) ?_
     rotate_left
     ·(intro w y; (try dsimp only at y); go_simp); (first | done | with_reducible rfl)
     try simp only [Act.put,List.setIfInBounds_toArray,List.set_cons_zero,List.set_cons_succ]
     refine mQ 6 (v:=?_) rfl (by kernel_rfl) (fun _ _ _ h=>h) ?_ (by assumption) ?_
     rotate_left
     ·(intro w y; (try dsimp only at y); go_simp); (first | done | with_reducible rfl)
     try simp only [Act.put,List.setIfInBounds_toArray,List.set_cons_zero,List.set_cons_succ]
     refine mQ 7 (v:=?_) rfl (by kernel_rfl) (fun _ _ _ h=>h) ?_ (by assumption) ?_
     rotate_left
     ·(intro w y; (try dsimp only at y); go_simp); (first | done | with_reducible rfl)
     try simp only [Act.put,List.setIfInBounds_toArray,List.set_cons_zero,List.set_cons_succ]
     refine mQ 8 (v:=?_) rfl (by kernel_rfl) (fun _ _ _ h=>h) ?_ (by assumption) ?_
     rotate_left
     ·(intro w y; (try dsimp only at y); go_simp); (first | done | with_reducible rfl)
     try simp only [Act.put,List.setIfInBounds_toArray,List.set_cons_zero,List.set_cons_succ]
     refine mQ 9 (v:=?_) rfl (by kernel_rfl) (fun _ _ _ h=>h) ?_ (by assumption) ?_
     rotate_left
     ·(intro w y; (try dsimp only at y); go_simp); (first | done | with_reducible rfl)
     try simp only [Act.put,List.setIfInBounds_toArray,List.set_cons_zero,List.set_cons_succ]
     refine jG 10 rfl (by kernel_rfl) (fun _ _ _ h=>h) (by assumption) ?_;refine jG 11 rfl (by kernel_rfl) (fun _ _ _ h=>h) (by assumption) ?_;refine jG 12 rfl (by kernel_rfl) (fun _ _ _ h=>h) (by assumption) ?_;refine jG 13 rfl (by kernel_rfl) (fun _ _ _ h=>h) (by assumption) ?_;refine jG 14 rfl (by kernel_rfl) (fun _ _ _ h=>h) (by assumption) ?_;refine jG 15 rfl (by kernel_rfl) (fun _ _ _ h=>h) (by assumption) ?_;refine jG 16 rfl (by kernel_rfl) (fun _ _ _ h=>h) (by assumption) ?_;refine jG 17 rfl (by kernel_rfl) (fun _ _ _ h=>h) (by assumption) ?_;refine jG 18 rfl (by kernel_rfl) (fun _ _ _ h=>h) (by assumption) ?_;refine jG 19 rfl (by kernel_rfl) (fun _ _ _ h=>h) (by assumption) ?_;refine jG 20 rfl (by kernel_rfl) (fun _ _ _ h=>h) (by assumption) ?_
     try simp only [Act.put,List.setIfInBounds_toArray,List.set_cons_zero,List.set_cons_succ]
     refine mQ 21 (v:=?_) rfl (by kernel_rfl) (fun _ _ _ h=>h) ?_ (by assumption) ?_
     rotate_left
     ·(intro w y; (try dsimp only at y); go_simp); (first | done | with_reducible rfl)
     try simp only [Act.put,List.setIfInBounds_toArray,List.set_cons_zero,List.set_cons_succ]
     refine mQ 22 (v:=?_) rfl (by kernel_rfl) (fun _ _ _ h=>h) ?_ (by assumption) ?_
     rotate_left
     ·(intro w y; (try dsimp only at y); go_simp); (first | done | with_reducible rfl)
     try simp only [Act.put,List.setIfInBounds_toArray,List.set_cons_zero,List.set_cons_succ]
     clear I;refine wpAnyH_done (by kernel_rfl) ?_ _;go_wp2;go_roundw
     case rel=>exact ⟨1,by omega,by go_num,HN.out,hb.trans ((Below.drew ϑ).trans (a0.mono hb.size))⟩
     case measure=>simp [intOf]; omega
    | succ j=>
     have ae:j < xs.length:=by omega
     have HS:=η (fun hc=>QY (xs:=xs) (k:=j) HA.out a2 hf hc);have HB:=η (fun hc=>Uy (xs:=xs) (k:=j) a2 hc);obtain ⟨k,a3⟩:∃ k,k=j+1:=⟨_,rfl⟩;have ao:IntKind.i64.wrap ((k:Int) - 1)=(j:Int):=(IntWalk.i64_in _ ⟨by omega,by omega⟩).trans (by omega);have hK:=η a3;rw [show ((j+1:Nat):Int)=(k:Int) by rw [a3]] at ab ac ⊢;have a5:k < xs.length:=by omega
     have a7:xs[j+1]=xs[k]'a5:=by simp only [a3]
     rw [a7] at hf HS HB;clear HA a7;have aq:(0:Int)≤(j:Int):=by omega
     have ar:(j:Int) < (xs.length:Int):=by omega
     have av:0 < k:=by omega
     have aw:(0:Int) < (k:Int):=by omega
     clear a3;obtain ⟨b,o,Ae,ce,bk,Af,cf,bm,rfl,c0,c1,a1,d0,d1,a6⟩:=GX (au.below h hb) ae a5;have hD:Below wr.heap.size wr wr.drew:=Below.drew ϑ;have hg:=sH xs[k] _ _ bm _ (ak.below a6 hD);have a8:=fun w' (a0:Below wr.heap.size wr w')=>Hf xs[j] xs[k] _ _ _ _ bk bm w' (ak.below a1 a0) (ak.below a6 a0)
     rw [hf] at hg;clear h hf a1 a6;by_cases hc:bV xs[j] xs[k] < 0
     ·have af:¬ 0≤bV xs[j] xs[k]:=by omega
      have HC:=η (HS.out hc);clear hc;go_wp2
      go_region_held3 (fun w'=>w'.cell? ⟨b,o+j * 2,none⟩=some (.string xs[j].name)∧w'.cell? ⟨b,o+j * 2+1,none⟩=some (.slice Ae xs[j].args.length ce)∧w'.cell? ⟨b,o+k * 2,none⟩=some (.string xs[k].name)∧w'.cell? ⟨b,o+k * 2+1,none⟩=some (.slice Af xs[k].args.length cf))
       (first | go_keep | exact ⟨x0,x1,x2,x3⟩ | exact ⟨y0,y1,y2,y3⟩)
       (first
        | (go_at_call 146; refine hg.mono ?_; rintro e w1 ⟨rfl,J⟩; have x0:=ξ J c0; have x1:=ξ J c1; have x2:=ξ J d0; have x3:=ξ J d1; have B1:=hD.trans J)
        | (go_at_call 157; refine (a8 _ B1).mono ?_; rintro e w2 ⟨rfl,U⟩; have y0:=ξ U x0; have y1:=ξ U x1; have y2:=ξ U x2; have y3:=ξ U x3; have B2:=B1.trans (U.mono B1.size)))
      go_wp2;go_roundw
      case rel=>exact ⟨k+1,by omega,by go_num,by rw [hK.out]; exact HC.out,hb.trans (B2.mono hb.size)⟩
      case measure=>have:=hK.out; simp [intOf]; omega
     ·have af:0≤bV xs[j] xs[k]:=by omega
      have HC:=η (HB.out hc);clear hc;go_wp2
      go_region_held3 (fun w'=>w'.cell? ⟨b,o+j * 2,none⟩=some (.string xs[j].name)∧w'.cell? ⟨b,o+j * 2+1,none⟩=some (.slice Ae xs[j].args.length ce)∧w'.cell? ⟨b,o+k * 2,none⟩=some (.string xs[k].name)∧w'.cell? ⟨b,o+k * 2+1,none⟩=some (.slice Af xs[k].args.length cf))
       (first | go_keep | exact ⟨x0,x1,x2,x3⟩ | exact ⟨y0,y1,y2,y3⟩)
       (first
        | (go_at_call 146; refine hg.mono ?_; rintro e w1 ⟨rfl,J⟩; have x0:=ξ J c0; have x1:=ξ J c1; have x2:=ξ J d0; have x3:=ξ J d1; have B1:=hD.trans J)
        | (go_at_call 157; refine (a8 _ B1).mono ?_; rintro e w2 ⟨rfl,U⟩; have y0:=ξ U x0; have y1:=ξ U x1; have y2:=ξ U x2; have y3:=ξ U x3; have B2:=B1.trans (U.mono B1.size)))
      go_wp2;go_ret;exact ⟨aH (by rw [HC.out]; rfl),hb.trans (B2.mono hb.size)⟩
  ·have he:=η (show k=xs.length by omega)
   by_cases ag:xs.length≤m
   ·have a9:(xs.length:Int)≤(m:Int):=by omega
    go_wp2;go_ret;exact ⟨aH (by have:=HA.out; rw [he.out] at this; rw [Xc this,decide_eq_true ag]; rfl),hb⟩
   ·have a9:¬ (xs.length:Int)≤(m:Int):=by omega
    go_wp2;go_ret;exact ⟨aH (by simp),hb⟩
end
section
open Go.RowKit D Go.Shelf
attribute [local go_sem ↓] Go.wp_at_zero Go.wp_at_succ
attribute [local go_sem] Oper.semAt_some
theorem PK (xs ys:List A) (v1 v2:Value) (a4 a5:List Nat) (w:World) (h1:aC w [v1] xs a4) (h2:aC w [v2] ys a5):
  Calls Tryz.prog 82 #[v1,v2] w fun e w'=>e=.returned (.bool ((bQ xs ys).any (fun p=>p.2 == 2)))∧Below w.heap.size w w':=by
 obtain ⟨Ad,cap,rfl,hl,hm⟩:=aj h1;obtain ⟨y,cap2,rfl,a8,a7⟩:=aj h2;clear hm a7;refine (callsIn_wide (n:=4)).1 ?_;refine callsIn_of_wp_marks Tryz.func82 rfl trivial ?_ rfl;simp only [Tryz.ntmps82,List.size_toArray,List.length_cons,List.length_nil,Nat.reduceAdd,Nat.reduceSub,Array.replicate_succ,Array.replicate_zero,List.push_toArray,List.append_toArray,List.nil_append,List.cons_append];have a6:Below w.heap.size w (w.alloc (.cells #[.bool false] 4)):=ζ
 gi_wp2
 refine ⟨trivial,?_⟩;refine (callsIn_wide.2 (iH Ad xs.length cap _)).mono ?_;rintro e w2 ⟨rfl,a0⟩;have B2:=a6.trans (a0.mono a6.size);have x2:w2.cell? ⟨w.heap.size,0,none⟩=some (.bool false):=ξ a0 (by go_simp);have f2:w2.frozen? ⟨w.heap.size,0,none⟩=false:=(a0.frozen (p:=⟨w.heap.size,0,none⟩) (by simp)).trans (by go_simp)
 gi_wp2
 refine ⟨trivial,?_⟩;refine (callsIn_wide.2 (iH y ys.length cap2 _)).mono ?_;rintro e I ⟨rfl,a1⟩;have B3:=B2.trans (a1.mono B2.size);have x3:I.cell? ⟨w.heap.size,0,none⟩=some (.bool false):=ξ a1 x2;have f3:I.frozen? ⟨w.heap.size,0,none⟩=false:=(a1.frozen (p:=⟨w.heap.size,0,none⟩) (lt_of_cell x2)).trans f2;clear x2 f2
 gi_wp2
 refine ⟨trivial,?_⟩;refine (callsIn_wide.2 (merge_any _ _ _ _ _ _ _)).mono ?_;rintro e w4 ⟨rfl,rfl⟩
 gi_wp2
 have hM:Below I.heap.size I ((I.alloc (.cells #[.slice Ad xs.length cap,.func (.func 64) #[] #[]] 112)).alloc (.cells #[.slice y ys.length cap2,.func (.func 64) #[] #[]] 112)):=(ζ).alloc (by simp) _;have s1:((I.alloc (.cells #[.slice Ad xs.length cap,.func (.func 64) #[] #[]] 112)).alloc (.cells #[.slice y ys.length cap2,.func (.func 64) #[] #[]] 112)).cell? ⟨I.heap.size,0,none⟩=some (.slice Ad xs.length cap):=by go_simp
 have s2:((I.alloc (.cells #[.slice Ad xs.length cap,.func (.func 64) #[] #[]] 112)).alloc (.cells #[.slice y ys.length cap2,.func (.func 64) #[] #[]] 112)).cell? ⟨I.heap.size,1,none⟩=some (.func (.func 64) #[] #[]):=by go_simp
 have s3:((I.alloc (.cells #[.slice Ad xs.length cap,.func (.func 64) #[] #[]] 112)).alloc (.cells #[.slice y ys.length cap2,.func (.func 64) #[] #[]] 112)).cell? ⟨I.heap.size+1,0,none⟩=some (.slice y ys.length cap2):=by go_simp
 generalize ((I.alloc (.cells #[.slice Ad xs.length cap,.func (.func 64) #[] #[]] 112)).alloc (.cells #[.slice y ys.length cap2,.func (.func 64) #[] #[]] 112))=wm at *;have B4:=B3.trans (hM.mono B3.size);have x4:=ξ hM x3;have f4:wm.frozen? ⟨w.heap.size,0,none⟩=false:=(hM.frozen (p:=⟨w.heap.size,0,none⟩) (lt_of_cell x3)).trans f3;clear x3 f3;have a2:w.heap.size≤wm.heap.size:=B4.size
 refine wpIn_rangeFunc_ownG rfl (by omega) (gf:=197) (lb:=#[.pointer (some ⟨I.heap.size,0,none⟩),.pointer (some ⟨I.heap.size+1,0,none⟩)]) rfl trivial (enters_of Tryz.func197 (by kernel_rfl) rfl)
  (uP 3 (by omega) I.heap.size (I.heap.size+1) xs ys _ _ a4 a5 w wm h1 h2 (Below wm.heap.size) (fun W W' hk hI=>⟨(hk.cell (p:=⟨I.heap.size,0,none⟩) (lt_of_cell s1)).trans hI.s1,(hk.cell (p:=⟨I.heap.size,1,none⟩) (lt_of_cell s2)).trans hI.s2,(hk.cell (p:=⟨I.heap.size+1,0,none⟩) (lt_of_cell s3)).trans hI.s3,hI.hb.trans (hk.mono a2)⟩) ⟨s1,s2,s3,B4⟩) belowK_t (belowK_b ν) ϑ (fun _=>rfl)
  (fun J W=>(J.all (fun x=>x.s != 2)=true∧W.cell? ⟨w.heap.size,0,none⟩=some (.bool false)∧W.frozen? ⟨w.heap.size,0,none⟩=false)∧Below w.heap.size w W)
  (fun c J W=>(c=.ret∧J.any (fun x=>x.s == 2)=true∧W.cell? ⟨w.heap.size,0,none⟩=some (.bool true))∧Below w.heap.size w W)
  (OwnFrom.and (Own.from (fun s A B row U hg hr=>⟨U.1,cell_kept U.2.1 hg hr,(frozen_kept U.2.1 hg hr).trans U.2.2⟩) _) (ownFrom_below ν a2))
  (fun c=>OwnFrom.and (Own.from (fun s A B row U hg hr=>⟨U.1,U.2.1,cell_kept U.2.2 hg hr⟩) _) (ownFrom_below ν a2))
  ⟨⟨rfl,x4,f4⟩,B4⟩
  (fun x=>{ tmps:=#[.slice Ad xs.length cap,.slice y ys.length cap2,undef,undef,.pointer (some ⟨w.heap.size,0,none⟩),undef,.int .i64 x.s,.slice Ad xs.length cap,.agg #[.slice Ad xs.length cap,.func (.func 64) #[] #[]],.slice y ys.length cap2,.agg #[.slice y ys.length cap2,.func (.func 64) #[] #[]],.func (.func 197) #[] #[.pointer (some ⟨I.heap.size,0,none⟩),.pointer (some ⟨I.heap.size+1,0,none⟩)],.agg #[x.c0,x.c1],.int .i64 x.s,undef,undef],defers:=[] }) ?assign ?body ?done ?stop
 case assign=>
  intro l x W K hK;dsimp only [pK.enc]
  gi_wp2
  exact hK
 case body=>
  rintro l J x W ⟨⟨hp,hc,hf⟩,hB⟩ _;by_cases U:x.s=2
  ·have h2:((x.s:Int) == 2)=true:=beq_iff_eq.2 (by omega)
   have HS:=η U;clear U
   gi_wp2
   exact ⟨(KeepsOthers.setCell _ _ _).from _,⟨rfl,by simp [HS.out],World.cell?_setCell_same' _ _ _ (by rw [hc]; rfl)⟩,hB.setCell (p:=⟨w.heap.size,0,none⟩) ν _⟩
  ·have h2:((x.s:Int) == 2)=false:=beq_eq_false_iff_ne.2 (by omega)
   have HS:=η U;have HP:=η hp;clear U hp
   gi_wp2
   exact ⟨KeepsFrom.refl _ _,ϑ,⟨by rw [List.all_append,HP.out]; have:=HS.out; simp [this],hc,hf⟩,hB⟩
 case done=>
  rintro D pr W hD hS ⟨⟨hp,hc,hf⟩,hB⟩ hK
  have HR:Hid ((bQ xs ys).any (fun p=>p.2 == 2)=false):=η (by
   rw [← hS,List.any_map,List.any_eq_false];intro x hx;have:=ό.1 hp x hx
   simpa [pK.key] using this)
  clear hp hS
  gi_wp2
  have hK':=(KeepsOthers.setCell W ⟨w.heap.size,0,none⟩ (.bool false)).same D _ hK rfl;refine ⟨by simp,.inl ⟨_,_,rfl,run_takeDeferred hK',?_⟩⟩;have a3:=cell_kept (World.cell?_setCell_same' W ⟨w.heap.size,0,none⟩ (.bool false) (by rw [hc]; rfl)) (grownBy_putObj' _ D (.deferred none)) (fun r e=>by cases e; exact ⟨_,hK',rfl⟩);refine ⟨.bool false,?_,by rw [HR.out],(hB.setCell (p:=⟨w.heap.size,0,none⟩) ν _).trans (belowK_b (w:=w) ν _ D _ _ (by omega) hK' rfl rfl)⟩;simp [results,Tryz.f82,go_sem,a3]
 case stop=>
  rintro D c J W hD ⟨rest,hr⟩ ⟨⟨rfl,ha,hc⟩,hB⟩ hK
  have HR:Hid ((bQ xs ys).any (fun p=>p.2 == 2)=true):=η (by
   rw [← hr,List.any_append,List.any_map]
   rw [show J.any ((fun p=>p.2 == 2) ∘ pK.key)=true from ha]; rfl)
  clear ha hr
  gi_wp2
  refine ⟨by simp,.inl ⟨_,_,rfl,run_takeDeferred hK,?_⟩⟩;have a3:=cell_kept hc (grownBy_putObj' _ D (.deferred none)) (fun r e=>by cases e; exact ⟨_,hK,rfl⟩);refine ⟨.bool true,?_,by rw [HR.out],hB.trans (belowK_b (w:=w) ν W D _ _ (by omega) hK rfl rfl)⟩;simp [results,Tryz.f82,go_sem,a3]
theorem IA:(Tryz.prog.info? 33).map (fun i=>(i.zero,i.size,i.bytes))=some (some (.agg #[.string ⟨#[]⟩,.slice none 0 0]),2,40):=by kernel_rfl
structure D.mO (Bo n0:Nat) (W W':World):Prop where
 os:W'.os=W.os
 tape:W'.tape=W.tape
 output:W'.output=W.output
 size:W.heap.size≤W'.heap.size
 block:∀ k,k < n0→k ≠ Bo→W'.heap[k]? = W.heap[k]?
theorem D.mO.trans {y I:Nat} {A B C:World} (h:mO y I A B) (k:mO y I B C):mO y I A C:=
 ⟨k.os.trans h.os,k.tape.trans h.tape,k.output.trans h.output,τ h.size k.size,fun n hn hb=>(k.block n hn hb).trans (h.block n hn hb)⟩
theorem D.mO.dB {I y:Nat} {W J:World} {row:Option Nat} (h:W.grownBy J row) (hn:y≤W.heap.size) (hr:∀ r,row=some r→y≤r∨r=I):mO I y W J:=
 ⟨h.os,h.tape,h.output,h.size,fun k U hb=>h.block k (by omega) fun e=>by rcases hr k e.symm with g | g <;> omega⟩
theorem D.mO.putObj {I:Nat} {w:World} (W:World) (l:Nat) (o y:Obj) (J:w.heap.size≤l) (h:W.heap[l]? = some o) (_:o.isCells=false) (_:o.isWalk=false):mO I w.heap.size W (W.putObj l y):=
 mO.dB (grownBy_putObj' W l y) (by have:=(Array.getElem?_eq_some_iff.1 h).1; omega) fun r e=>by cases e; exact .inl J
theorem D.mO.inv {I J U n0 : Nat} {v1 v2 : Value} {wd W W' : World} (y : mO U n0 W W') (h : MInv I J v1 v2 wd W) (g1 : I < n0) (g2 : J < n0) (e1 : I ≠ U) (e2 : J ≠ U) (hd : wd.heap.size ≤ U) (hn : U < n0) : MInv I J v1 v2 wd W' :=
  ⟨(World.cell?_of_block (w := W) (y.block I g1 e1)).trans h.s1, (World.cell?_of_block (w := W) (y.block I g1 e1)).trans h.s2, (World.cell?_of_block (w := W) (y.block J g2 e2)).trans h.s3,
    ⟨y.os.trans h.hb.os, y.tape.trans h.hb.tape, y.output.trans h.hb.output, Nat.le_trans h.hb.size y.size, fun k a0 => (y.block k (by omega) (by omega)).trans (h.hb.block k a0)⟩⟩
def D.pU {wd:World} (y:List (pK wd)):List Value:=y.flatMap fun x=>[x.c0,x.c1]
theorem D.Dl {wd:World} (y:List (pK wd)) (x:pK wd):pU (y ++ [x])=pU y ++ [x.c0,x.c1]:=by simp [pU]
theorem D.YA {wd:World}:∀ y:List (pK wd),∃ bs,aT 2 aJ wd (pU y) (y.map (·.a)) bs
 | []=>⟨[],aT.nil⟩
 | x :: y=>by
  obtain ⟨bs,h⟩:=YA y;have:=(aT.dJ (n:=2) (R:=aJ) eH x.h).append h;exact ⟨_,this⟩
theorem D.SL {wd:World} {xs ys:List A} {y:List (pK wd)} (h:y.map pK.key=bQ xs ys):y.map (·.a)=dA xs ys:=by
 unfold dA; rw [← h,List.map_map]; rfl
theorem D.IB {W U:World} {n0 B:Nat} {t e:TypeId} {size:Nat} {v v':Value} {k m:Nat} {xs ys:List Value} {J:Obj}
  (hv:Boxed W B t v) (a2:t ≠ e) (a0:W.ownsRow n0 e size v k xs) (y:U.ownsRow n0 e size v' m ys) (I:(W.alloc J).grownBy U v.ownBlock):
  Boxed U B t v∧Boxed (U.setCell ⟨B,0,none⟩ v') B t v'∧(U.setCell ⟨B,0,none⟩ v').ownsRow n0 e size v' m ys∧KeepsOthers W (U.setCell ⟨B,0,none⟩ v'):=by
 have a1:Boxed U B t v:=(hv.alloc J).kept I (hv.not_row a2 a0);refine ⟨a1,a1.set v',y.kept (grownBy_setCell' U B v') (.inr (a1.not_row a2 y).symm),?_⟩;refine ((KeepsOthers.alloc W J).trans (KeepsOthers.of_grownBy I fun j o ej hj=>?_)).trans (KeepsOthers.setCell _ _ _)
 rcases (a0.alloc J).2 with ⟨rfl,_⟩ | ⟨g,cap,a4,rfl,_,a3,_⟩
 ·simp [Value.ownBlock] at ej
 ·obtain rfl:g=j:=by simpa [Value.ownBlock] using ej
  rw [a3] at hj; cases hj; rfl
theorem D.Fv {w:World} {base e size k:Nat} {v:Value} {L:List Value} (h:w.ownsRow base e size v k L):∀ r,v.ownBlock=some r→base≤r:=by
 intro r hr
 rcases h.2 with ⟨rfl,_⟩ | ⟨g,cap,y,rfl,I,_⟩
 ·simp [Value.ownBlock] at hr
 ·have:g=r:=by simpa [Value.ownBlock] using hr
  omega
def D.gW {wd:World} (y:List (pK wd)):List (pK wd):=y.filter fun x=>x.s == 0
theorem D.PL {wd:World} (y:List (pK wd)) (x:pK wd) (h:x.s=0):gW (y ++ [x])=gW y ++ [x]:=by simp [gW,h]
theorem D.SN {wd:World} (y:List (pK wd)) (x:pK wd) (h:x.s ≠ 0):gW (y ++ [x])=gW y:=by simp [gW,h]
theorem D.SQ {wd:World} (y:List (pK wd)):(gW y).length≤y.length:=List.length_filter_le _ _
theorem D.Vm {wd:World} {xs ys:List A} {y:List (pK wd)} (h:y.map pK.key=bQ xs ys):(gW y).map (·.a)=gy xs ys:=by
 unfold gy gW;rw [← h,List.filter_map,List.map_map];rfl
end
section
open Go.RowKit D
def D.eX (a:A):ByteArray:=⟨(yw a).toArray⟩
theorem D.BF {a b:A} (ha:aZ a=true) (hb:aZ b=true) (h:eX a=eX b):a=b:=by
 have e:yw a=yw b:=by have:=congrArg (fun x=>x.data.toList) h; simpa [eX] using this
 have h1:=Il ha;rw [e,Il hb] at h1;exact (Prod.mk.inj h1).1.symm
theorem D.sK {a:A} (ha:aZ a=true):(eX a).size≤maxLen:=by
 have:=Ik ha;have e:(eX a).size=(yw a).length:=List.size_toArray;unfold maxLen; omega
theorem D.Fz:∀ (y:List T),(∀ t ∈ y,t.name.size≤8)→jW y≤8 * y.length
 | [],_=>by simp [jW]
 | t :: y,h=>by
  have h1:=h t Γ;have J:=Fz y fun u I=>h u (Δ _ I)
  unfold jW at *;simp only [List.map_cons,List.sum_cons,List.length_cons];omega
theorem D.JH {a:A} (h:aZ a=true):Kv a≤100:=by
 unfold aZ at h;simp only [ο,decide_eq_true_eq,ό] at h;have h1:=Md h.1.1;have y:a.name.data.toList.length=a.name.size:=Array.length_toList
 have J:=Fz a.args fun t I=>by
  have:=(vU (h.2 t I)).2.2;have y:t.name.data.toList.length=t.name.size:=Array.length_toList;omega
 unfold Kv;omega
def D.keysOf (a:A):List WK:=⟨a.name,a.args.length,-1,⟨#[]⟩⟩ :: a.args.mapIdx fun i t=>⟨a.name,a.args.length,i,t.name⟩
theorem D.SS {a:A} {i:Nat} (h:i < a.args.length):(⟨a.name,a.args.length,i,a.args[i].name⟩:WK) ∈ keysOf a:=by
 refine Δ _ (List.mem_mapIdx.2 ⟨i,h,rfl⟩)
def D.idxs (fs:List A) (k:WK):List Nat:=(List.range fs.length).filter fun i=>match fs[i]? with | some a=>decide (k ∈ keysOf a) | none=>false
theorem D.FB {fs:List A} {k:WK} {i:Nat}:i ∈ idxs fs k ↔ ∃ h:i < fs.length,k ∈ keysOf fs[i]:=by
 unfold idxs;rw [List.mem_filter,List.mem_range];constructor
 ·rintro ⟨h,y⟩
  rw [Ψ h] at y;exact ⟨h,by simpa using y⟩
 ·rintro ⟨h,y⟩
  exact ⟨h,by rw [Ψ h]; simpa using y⟩
theorem D.SV (fs:List A) (a:A) (k:WK):idxs (fs ++ [a]) k=idxs fs k ++ (if k ∈ keysOf a then [fs.length] else []):=by
 unfold idxs;rw [χ,List.length_singleton,List.range_succ,List.filter_append]
 congr 1
 ·refine List.filter_congr fun i y=>?_
  rw [List.getElem?_append_left (List.mem_range.1 y)]
 ·by_cases h:k ∈ keysOf a <;> simp [h]
theorem D.nX (fs:List A) (k:WK):(idxs fs k).length≤fs.length:=by
 unfold idxs;refine τ (List.length_filter_le _ _) ?_;simp
structure D.kW (sb:Nat) (fs:List A) (rn:List Nat) (bs:List Nat) (w:World):Prop where
 ex:∃ Af cf Ar cr mu mp bf br Lu Lp,w.heap[sb]? = some (.cells #[.slice Af fs.length cf,.slice Ar rn.length cr,.map (some mu),.map (some mp)] 127 (0,0))∧
  aC w [.slice Af fs.length cf] fs bf∧jT w [.slice Ar rn.length cr] rn br∧oG Jt mu Lu w∧oG isStr mp Lp w∧
  (∀ k,(∃ v b,(Ib k,v) ∈ Lu∧jT w [v] (idxs fs k) b∧∀ x ∈ b,x ∈ bs)∨((∀ p ∈ Lu,p.1 ≠ Ib k)∧idxs fs k = []))∧
  (∀ s:ByteArray,(∃ i:Nat,((.string s:Value),(.int .i64 i:Value)) ∈ Lp) ↔ s ∈ fs.map eX)∧(∀ p ∈ Lp,∃ i:Nat,p.2=.int .i64 i)∧
  mu ∈ bs∧mp ∈ bs∧(∀ b ∈ bf,b ∈ bs)∧∀ b ∈ br,b ∈ bs
 own:sb ∈ bs
 lt:∀ b ∈ bs,b < w.heap.size
theorem D.kW.keep {sb:Nat} {fs:List A} {rn:List Nat} {bs:List Nat} {w w':World} (h:kW sb fs rn bs w) (y:∀ b ∈ bs,w'.heap[b]? = w.heap[b]?) (hs:w.heap.size≤w'.heap.size):kW sb fs rn bs w':=by
 obtain ⟨⟨Af,cf,Ar,cr,mu,mp,bf,br,Lu,Lp,h1,h2,h3,h4,h5,h6,h7,h8,h9,I,J,U⟩,ho,hl⟩:=h;refine ⟨⟨Af,cf,Ar,cr,mu,mp,bf,br,Lu,Lp,(y _ ho).trans h1,au.keep h2 fun b hb=>y b (J b hb),dS.keep h3 fun b hb=>y b (U b hb),h4.same (y _ h9),h5.same (y _ I),fun k=>?_,h7,h8,h9,I,J,U⟩,ho,fun b hb=>κ (hl b hb) hs⟩
 rcases h6 k with ⟨v,b,g1,g2,g3⟩ | g
 ·exact .inl ⟨v,b,g1,dS.keep g2 fun x hx=>y x (g3 x hx),g3⟩
 ·exact .inr g
theorem D.kW.below {sb:Nat} {fs:List A} {rn:List Nat} {bs:List Nat} {w w':World} (h:kW sb fs rn bs w) (hb:Below w.heap.size w w'):kW sb fs rn bs w':=h.keep (fun b y=>hb.block b (h.lt b y)) hb.size
section
variable {P:Program} {ops:Array Oper} {rest:List Oper} {o:Oper} {a:Act} {Q:Exit→Act→World→Prop}
end
structure D.SX (mu:Nat) (fs:List A) (bs:List Nat) (w:World):Prop where
 ex:∃ Lu,oG Jt mu Lu w∧∀ k,(∃ v b,(Ib k,v) ∈ Lu∧jT w [v] (idxs fs k) b∧∀ x ∈ b,x ∈ bs)∨((∀ p ∈ Lu,p.1 ≠ Ib k)∧idxs fs k = [])
 own:mu ∈ bs
 lt:∀ b ∈ bs,b < w.heap.size
theorem D.SX.below {mu:Nat} {fs:List A} {bs:List Nat} {w w':World} (h:SX mu fs bs w) {B:Nat} (hb:Below B w w') (hB:∀ b ∈ bs,b < B):SX mu fs bs w':=by
 obtain ⟨⟨U,h1,h2⟩,I,h4⟩:=h;refine ⟨⟨U,h1.below hb (hB _ I),fun k=>?_⟩,I,fun b y=>κ (h4 b y) hb.size⟩
 rcases h2 k with ⟨v,b',g1,g2,J⟩ | g
 ·exact .inl ⟨v,b',g1,dS.Un g2 hb fun x hx=>hB x (J x hx),J⟩
 ·exact .inr g
theorem D.SX.look {mu:Nat} {fs:List A} {bs:List Nat} {w:World} (h:SX mu fs bs w) (k:WK):
  ∃ y I b,(Instr.lookup 125 (.map (some mu)) (.agg #[.string k.name,.int .i64 k.size,.int .i64 k.place,.string k.word]) false).run Tryz.prog w=.ok (.slice y (idxs fs k).length I) w∧jT w [.slice y (idxs fs k).length I] (idxs fs k) b∧∀ x ∈ b,x ∈ bs:=by
 obtain ⟨⟨Lu,h4,U⟩,_,_⟩:=h;show ∃ y I b,(Instr.lookup 125 (.map (some mu)) (Ib k) false).run Tryz.prog w=.ok (.slice y (idxs fs k).length I) w∧_
 rcases U k with ⟨v,b,g1,J,g3⟩ | ⟨g1,J⟩
 ·obtain ⟨y,I,rfl,_⟩:=aj J
  exact ⟨y,I,b,rJ yK trivial false Tryz.underlying125 h4 g1,J,g3⟩
 ·refine ⟨none,0,[],?_,by rw [J]; exact ⟨none,0,rfl,ν,ε,fun _=>rfl,fun h=>absurd rfl h⟩,fun x hx=>by simp at hx⟩
  obtain ⟨⟨es,ck,hb,rfl⟩,h2,h3⟩:=h4;have a0:∀ e ∈ es.toList,Jt e.key:=fun e he=>h2 (e.key,e.val) (List.mem_map.2 ⟨e,he,rfl⟩)
  rcases mZ yK (w:=w) trivial (k:=Ib k) ⟨k,rfl⟩ es.toList a0 with ⟨h5,U⟩ | ⟨i,e1,h5,U,h7⟩
  ·simp [J,Instr.lookup,run_underlying Tryz.underlying125,MapKept.run_getObj_map hb,yK.check w _ ⟨k,rfl⟩,h5,Result.andThen]
  ·exact absurd h7 (g1 (e1.key,e1.val) (List.mem_map.2 ⟨e1,List.mem_of_getElem? U,rfl⟩))
theorem D.MZ {fs:List A} {mp:Nat} {I:List (Value × Value)} {w:World} (y:oG isStr mp I w) (J:∀ s:ByteArray,(∃ i:Nat,((.string s:Value),(.int .i64 i:Value)) ∈ I) ↔ s ∈ fs.map eX) (h8:∀ p ∈ I,∃ i:Nat,p.2=.int .i64 i)
  (s:ByteArray) (hs:s.size≤maxLen):∃ v,(Instr.lookup 116 (.map (some mp)) (.string s) true).run Tryz.prog w=.ok (.tuple #[v,.bool (decide (s ∈ fs.map eX))]) w:=by
 by_cases hm:s ∈ fs.map eX
 ·obtain ⟨i,U⟩:=(J s).2 hm
  refine ⟨.int .i64 i,?_⟩;rw [decide_eq_true hm];exact rJ nP trivial true Tryz.underlying116 y U
 ·refine ⟨.int .i64 0,?_⟩
  rw [decide_eq_false hm]
  have a0:∀ p ∈ I,p.1 ≠ .string s:=fun p hp e=>by
   obtain ⟨i,U⟩:=h8 p hp;exact hm ((J s).1 ⟨i,by rw [← e,← U]; exact hp⟩)
  obtain ⟨⟨es,ck,hb,rfl⟩,h2,h3⟩:=y;have a1:∀ e ∈ es.toList,isStr e.key:=fun e he=>h2 (e.key,e.val) (List.mem_map.2 ⟨e,he,rfl⟩)
  rcases mZ nP (w:=w) trivial (k:=.string s) ⟨s,rfl,hs⟩ es.toList a1 with ⟨y,h6⟩ | ⟨i,e1,y,h6,J⟩
  ·simp [Instr.lookup,run_underlying Tryz.underlying116,MapKept.run_getObj_map hb,nP.check w _ ⟨s,rfl,hs⟩,y,Result.andThen]
  ·exact absurd J (a0 (e1.key,e1.val) (List.mem_map.2 ⟨e1,List.mem_of_getElem? h6,rfl⟩))
theorem D.SY (xs:List A):cu xs xs = []:=by
 unfold cu;rw [List.filter_eq_nil_iff];intro x y;rw [jR y]; simp
theorem D.YB {xs ys:List A} (I:∀ y ∈ ys,dI y=true) {x:A} (J:x ∈ xs) (hf:dI x=true):x ∈ cu xs ys ↔ x ∉ ys:=by
 constructor
 ·intro h hm
  have:=(List.mem_filter.1 h).2;rw [jR hm] at this; simp at this
 ·intro h
  refine List.mem_filter.2 ⟨J,?_⟩;cases hb:hasB ys x
  ·rfl
  ·exact absurd ((zI I hf).1 hb) h
theorem D.Qz {xs:List A} (h:aU xs=true) (ys:List A):aU (cu xs ys)=true:=
 wX (τ (List.length_filter_le _ _) (iP h)) (fun x y=>gU h x (qI y)) (yt (dV h))
theorem D.Vo {xs ys:List A} (y:aU xs=true) (I:aU ys=true):fK ⟨cu ys xs,cu xs ys⟩=true:=by
 unfold fK;rw [Qz I xs,Qz y ys]
 have:meets (cu ys xs) (cu xs ys)=false:=by
  unfold meets;rw [List.any_eq_false];intro x hm h;rw [qH] at h;have:=(List.mem_filter.1 hm).2;simp only [ο,Bool.not_eq_true'] at h this;rw [h.1] at this; cases this
 rw [this]; rfl
theorem D.S9 {xs ys:List A} (y:aU xs=true) (I:aU ys=true):behind xs ⟨cu ys xs,cu xs ys⟩=ys:=by
 refine D8 (Px _ (dV y)) (dV I) (JC y (Vo y I)) (gU I) fun a=>?_
 unfold behind;rw [vN,qH,qH,qH]
 cases hasB xs a <;> cases hasB ys a <;> rfl
theorem D.YC {xs ys:List A} (y:aU xs=true) (I:aU ys=true):YU xs ⟨cu ys xs,cu xs ys⟩=ys:=by
 unfold YU;rw [y,Vo y I,S9 y I];simp [iP I]
end
section
open Go.RowKit D
def D.Xy (p:Ch × Bool) (B:Nat) (w:World) (e:Ending) (w':World):Prop:=Below B w w'∧∃ cs bs,e=.returned (.tuple #[.agg cs,.bool p.2])∧gK w' cs.toList p.1 bs
def D.Xz (p:Ch × Bool) (B:Nat) (w:World) (e:Ending) (w':World):Prop:=Below B w w'∧∃ cs bs,e=.returned (.tuple #[.agg cs,.bool p.2])∧gK w' cs.toList p.1 bs∧New B w' bs
end
end Go.Proofs.YtkjinanbccloeaaGreatDoor
