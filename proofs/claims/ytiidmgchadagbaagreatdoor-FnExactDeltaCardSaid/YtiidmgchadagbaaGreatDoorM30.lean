/- Of the proof of FnExactDelta: HRuleS, Laid, StoR, HolI. -/
import Derived.Test.YtiidmgchadagbaaGreatDoorM29
import Derived.LaidHandle
import Derived.Stop.Joined
import Derived.Test.YtiidmgchadagbaaGreatDoorM28
set_option linter.unusedVariables false
set_option maxHeartbeats 4000000
set_option maxRecDepth 100000
namespace Go.Proofs.YtiidmgchadagbaaGreatDoor
open Go.RowKit D
attribute [local go_sem ↓] Go.wp_at_zero Go.wp_at_succ
theorem TB:(Tryz.prog.info? 71).map (fun i=>(i.zero,i.size,i.bytes))=some (some (.agg #[.string ⟨#[]⟩,.slice none 0 0,.slice none 0 0]),3,64):=by kernel_rfl
theorem J8 (ts:List Ru) (v:Value) (bs:List Nat) (left:Int) (w:World) (h:dO w [v] ts bs) (h0:0≤left) (h1:left≤1048576):
  Calls Tryz.prog 6 #[v,.int .i64 left] w (Left left (vI ts) w.heap.size w):=by
 obtain ⟨Ad,cap,rfl,hl,hm⟩:=af h;have hlm:=au (Nat.le_trans hl hm);have hbk:vI ts=ts.length+bI rP ts:=rfl;have HB:=η hbk;clear hm hbk
 go_enter Tryz.func6,Tryz.ntmps6
 go_wp2
 ·go_ret
  exact ⟨Below.refl _ _,_,rfl,.inl rfl⟩
 ·go_loopw [1,5] (fun l i wr=>∃ (k:Nat) (m:Int),k≤ts.length∧i=.int .i64 k∧l=.int .i64 m∧0≤m∧m≤1048576∧m+ts.length+bI rP (ts.take k)=left∧Below w.heap.size w wr) (fun _ i _=>ts.length - (intOf i).toNat)
  case atStart=>exact ⟨0,_,Nat.zero_le _,rfl,rfl,by assumption,by omega,by simp [bI],Below.refl _ _⟩
  case round=>
   obtain ⟨k,m,hk,rfl,rfl,hm0,hm1,hsum,hb⟩:=hrel;have HS:=η hsum;clear hsum;by_cases hlt:k < ts.length
   ·have hw:=aC.below h hb
    obtain ⟨b,o,Ae,ce,Af,cf,bk,rfl,_,c0,c1,c2,hel,_⟩:=gq hw hlt;have HT:=η (jG rP ts k hlt);clear h hw;generalize ts[k]=t at *
    go_wp2_with fail
    refine (NH t _ _ _ bk m _ hel hm0 hm1).mono ?_;rintro e w' ⟨hb',r,rfl,hr⟩;clear hel;go_wp2
    ·rcases hr with rfl | ⟨_,_⟩
     ·go_ret
      exact ⟨hb.trans (hb'.mono hb.size),_,rfl,.inl rfl⟩
     ·exfalso; omega
    ·rcases hr with rfl | ⟨hr0,hr1⟩
     ·exfalso; omega
     ·have:=HS.out
      have:=HT.out;go_roundw
      case rel=>exact ⟨k+1,r,by omega,by go_num,rfl,hr0,by omega,by omega,hb.trans (hb'.mono hb.size)⟩
      case measure=>simp [intOf]; omega
   ·have he:k=ts.length:=by omega
    go_wp2;go_ret;refine ⟨hb,_,rfl,.inr ⟨hm0,?_⟩⟩;have:=HS.out;rw [he,List.take_of_length_le (Nat.le_refl _)] at this;rw [HB.out];omega
theorem J9 (ts:List Ru) (v:Value) (bs:List Nat) (w:World) (h:dO w [v] ts bs) (hn:vI ts≤1048576):
  Calls Tryz.prog 9 #[v] w (Makes dO ts w.heap.size w):=by
 obtain ⟨Ad,cap,rfl,hl,hm⟩:=af h;obtain ⟨i0,hi,hz0,hz1,hz2⟩:=info_parts TB;have hn2:ts.length+bI rP ts≤1048576:=hn;clear hm
 go_enter Tryz.func9,Tryz.ntmps9
 go_wp2_with (refine wpList_make_full _ rfl _ _ _ rfl w.heap.size 71 i0 _ 3 Tryz.underlying29 hi hz0 hz1 _ _ _ _ ts.length rfl rfl rfl rfl (by rw [hz2]; omega) (by unfold maxLen; omega) (Nat.le_refl _) ?_; intro w1 hown hgrow)
 have hb1:Below w.heap.size w w1:=(Below.refl _ _).grown hgrow (Nat.le_refl _) (fun _ e=>by cases e);have hg1:w.heap.size < w1.heap.size:=(hown.lt _ rfl).2;clear hgrow
 go_loopw [4] (fun i wr=>∃ (k:Nat) (L:List Value) (bs':List Nat),k≤ts.length∧i=.int .i64 k∧wr.ownsRow w.heap.size 71 3 (.slice (some ⟨w.heap.size,0,none⟩) ts.length ts.length) ts.length L∧
   gX 3 jK w1.heap.size wr L ts k bs'∧Below w.heap.size w wr∧w1.heap.size≤wr.heap.size) (fun i _=>ts.length - (intOf i).toNat)
 case atStart=>exact ⟨0,_,_,Nat.zero_le _,rfl,hown,gX.start,hb1,Nat.le_refl _⟩
 case round=>
  obtain ⟨k,L,bs',hk,rfl,how,hF,hb,hsz⟩:=hrel;clear hown hb1;by_cases hlt:k < ts.length
  ·have hw:=aC.below h hb
   obtain ⟨b,o,Ae,ce,Af,cf,bk,rfl,_,c0,c1,c2,hel,_⟩:=gq hw hlt;have hle:rP ts[k]≤1048576:=by have:=wR rP ts k hlt; omega
   have HK:=η hF;clear h hw hF;have hL:=η how.1
   go_wp2_with fail
   refine (Tf ts[k] _ _ _ bk _ hel hle).mono ?_;rintro e w' ⟨hb',cs',b2,rfl,hR,hN⟩;obtain ⟨Ae',ce',Af',cf',rfl⟩:=Lh hR;have how':=own_below how hb';obtain ⟨⟨u0,hu0⟩,hf0⟩:=jA how' (j:=k * 3) (by omega);obtain ⟨⟨u1,hu1⟩,hf1⟩:=jA how' (j:=k * 3+1) (by omega);obtain ⟨⟨u2,hu2⟩,hf2⟩:=jA how' (j:=k * 3+2) (by omega);obtain ⟨R1,R2,R3,R4⟩:=VE dY how HK.out hlt hb hb' hg1 (Nat.le_refl _) hsz hR hN;clear how' hel hR hN;go_wp2;go_roundw
   case rel=>exact ⟨k+1,_,_,by omega,by go_num,R1,R2,R3,R4⟩
   case measure=>simp [intOf]; omega
  ·have he:k=ts.length:=by omega
   subst he;have HF:=η hF;clear hF;go_wp2;go_ret;obtain ⟨b2,r1,r2,r3,r4⟩:=HF.out.slice how (fun hm=>by have:=(HF.out.new.own _ hm).1; omega);refine ⟨hb,_,b2,rfl,r1,r2,fun b hb'=>⟨?_,r4 b hb'⟩⟩
   rcases r3 b hb' with ⟨rfl,h⟩ | h
   ·exact h
   ·have:=(HF.out.new.own b h).1; omega
theorem He (ts:List Ru) (v1 v2:Value) (b1 b2:List Nat) (w:World) (h1:dO w [v1] ts b1) (h2:dO w [v2] ts b2):
  Calls Tryz.prog 13 #[v1,v2] w (Yes w.heap.size w):=by
 obtain ⟨Ad,cap,rfl,hl,hm⟩:=af h1;obtain ⟨Ad2,cap2,rfl,hl2,hm2⟩:=af h2;have hlm:=au (Nat.le_trans hl hm);clear hm hm2
 go_enter Tryz.func13,Tryz.ntmps13
 go_wp2
 go_loopw [5] (fun i wr=>∃ k:Nat,k≤ts.length∧i=.int .i64 k∧Below w.heap.size w wr) (fun i _=>ts.length - (intOf i).toNat)
 case atStart=>exact ⟨0,Nat.zero_le _,rfl,Below.refl _ _⟩
 case round=>
  obtain ⟨k,hk,rfl,hb⟩:=hrel;by_cases hlt:k < ts.length
  ·obtain ⟨b,o,Ae,ce,Af,cf,bk,rfl,_,c0,c1,c2,hel,_⟩:=gq (aC.below h1 hb) hlt
   obtain ⟨b',o',Ae',ce',Af',cf',bk',rfl,_,d0,d1,d2,hel',_⟩:=gq (aC.below h2 hb) hlt;clear h1 h2;have H1:=η (dY.below hel (Below.drew (Below.refl _ _)));have H2:=η (dY.below hel' (Below.drew (Below.refl _ _)));have hlt':(k:Int) < (ts.length:Int):=by omega
   have hk0:(0:Int)≤(k:Int):=by omega
   clear hel hel';go_wp2
   go_region_held3 (fun w'=>w'.cell? ⟨b,o+k * 3,none⟩=some (.string ts[k].head.name)∧w'.cell? ⟨b,o+k * 3+1,none⟩=some (.slice Ae ts[k].head.args.length ce)∧w'.cell? ⟨b,o+k * 3+2,none⟩=some (.slice Af ts[k].body.length cf)∧w'.cell? ⟨b',o'+k * 3,none⟩=some (.string ts[k].head.name)∧w'.cell? ⟨b',o'+k * 3+1,none⟩=some (.slice Ae' ts[k].head.args.length ce')∧w'.cell? ⟨b',o'+k * 3+2,none⟩=some (.slice Af' ts[k].body.length cf')) (first | go_keep | exact ⟨cell_later hb' c0,cell_later hb' c1,cell_later hb' c2,cell_later hb' d0,cell_later hb' d1,cell_later hb' d2⟩)
    (first | (go_at_call 38; refine (Jm ts[k] _ _ _ _ _ _ bk bk' _ H1.out H2.out).mono ?_; rintro e w' ⟨rfl,hb'⟩))
   go_wp2;go_roundw
   case rel=>exact ⟨k+1,by omega,by go_num,hb.trans ((Below.drew (Below.refl _ _)).trans (hb'.mono hb.size))⟩
   case measure=>simp [intOf]; omega
  ·have he:k=ts.length:=by omega
   subst he;go_wp2;go_ret;exact ⟨rfl,hb⟩
end Go.Proofs.YtiidmgchadagbaaGreatDoor
namespace Go.Proofs.YtiidmgchadagbaaGreatDoor
open Go.ChangeShapes Go.WideShapes Go.RowKit D
theorem Wq : Tryz.prog.globalNamed "errors.errorType" = some 1 := by kernel_rfl
theorem Ws : (Tryz.prog.cutTypes.find? (·.1 == "internal/reflectlite.rtype")).map (·.2) = some 291 := by kernel_rfl
theorem TD:Tryz.prog.types.size=341:=by kernel_rfl
theorem NJ:((List.range 341).filter fun t=>Tryz.prog.rowNamed t [101,114,114,111,114]) = [114]:=by kernel_rfl
theorem handle_of_laid {W : World} (h : laidMetH Tryz.prog [("errors.errorType", Rows.laid_errors_errorType)] W) : qp W := by
 have h' : laidMet Tryz.prog [] W ∧ handlesMet Tryz.prog [("errors.errorType", Rows.laid_errors_errorType)] W := h
 obtain ⟨name,u,ty,e1,e2,e3,e4,e5⟩:=h'.2 _ (List.mem_singleton.2 rfl);have en:name = [101,114,114,111,114]:=(Option.some.inj e1).symm;subst en;obtain rfl:=Option.some.inj (Ws.symm.trans e2);have hm:ty ∈ (List.range 341).filter fun t=>Tryz.prog.rowNamed t [101,114,114,111,114]:=List.mem_filter.2 ⟨List.mem_range.2 (by rw [← TD]; exact e3),e4⟩
 rw [NJ] at hm;obtain rfl:=List.mem_singleton.1 hm;have hh:typeHandle Tryz.prog 114=.pointer (some ⟨2,114,none⟩):=by kernel_rfl
 rw [hh] at e5;unfold qp;simpa using World.var?_cell Wq e5 0
noncomputable def laidWorld (os:Os):World:=
 let w0:=World.holding Tryz.prog os ⟨#[],#[],[]⟩
 { w0 with heap:=w0.heap.modify 1 fun
  | .cells _ t frozen=>.cells #[.iface 291 (.agg #[.pointer (some ⟨2,114,none⟩)])] t frozen
  | o=>o }
theorem laidWorld_met (os : Os) (args : Array Value) : laidMetH Tryz.prog [("errors.errorType", Rows.laid_errors_errorType)] ((laidWorld os).forCall (fun _ _ => 0) ⟨#[], args, []⟩).memory :=
 laidMetH_of_parts (laidMet_nil _ _) (by kernel_rfl)
end Go.Proofs.YtiidmgchadagbaaGreatDoor
namespace Go.Proofs.YtiidmgchadagbaaGreatDoor
open Go.RowKit D
structure D.kZ (B sb mu mp:Nat) (Af:Option Addr) (nf cf:Nat) (Lf:List Value) (fs:List A) (bf:List Nat) (Ar:Option Addr) (nr cr:Nat) (Lr:List Value) (rn:List Nat) (Lp:List (Value × Value)) (G:WK→List Nat) (ou:List Nat) (w:World):Prop where
 blk:w.heap[sb]? = some (.cells #[.slice Af nf cf,.slice Ar nr cr,.map (some mu),.map (some mp)] 87 (0,0))
 ef:nf=fs.length
 er:nr=rn.length
 cF:cO 2 aU B 68 w (.slice Af nf cf) Lf fs bf
 cR:cO 1 xU B 3 w (.slice Ar nr cr) Lr rn []
 un:uj B mu G ou w
 pl:nK isStr mp Lp w
 dFR:Wn (.slice Af nf cf) (.slice Ar nr cr)
 dF:∀ x ∈ ou,(Value.slice Af nf cf).ownBlock ≠ some x
 dR:∀ x ∈ ou,(Value.slice Ar nr cr).ownBlock ≠ some x
 bfs:∀ x ∈ bf,x ≠ sb∧x ≠ mu∧x ≠ mp∧x ∉ ou∧(Value.slice Ar nr cr).ownBlock ≠ some x
 lo:sb < B∧mu < B∧mp < B∧sb ≠ mu∧sb ≠ mp∧mu ≠ mp
 ous:∀ x ∈ ou,B≤x∧x < w.heap.size
 pX:B≤w.heap.size
structure D.Free (B sb mu mp:Nat) (vF vR:Value) (ou:List Nat) (b:Nat):Prop where
 f:vF.ownBlock ≠ some b
 r:vR.ownBlock ≠ some b
 u:b ∉ ou
 s:b ≠ sb∧b ≠ mu∧b ≠ mp
section
variable {B sb mu mp:Nat} {Af:Option Addr} {nf cf:Nat} {Lf:List Value} {fs:List A} {bf:List Nat} {Ar:Option Addr} {nr cr:Nat} {Lr:List Value} {rn:List Nat} {Lp:List (Value × Value)} {G:WK→List Nat} {ou:List Nat} {w w':World}
theorem D.kZ.later (h:kZ B sb mu mp Af nf cf Lf fs bf Ar nr cr Lr rn Lp G ou w) (hk:Below w.heap.size w w'):kZ B sb mu mp Af nf cf Lf fs bf Ar nr cr Lr rn Lp G ou w':=by
 obtain ⟨l1,l2,l3,_⟩:=h.lo;have hs:=h.pX;exact ⟨(hk.block _ (by omega)).trans h.blk,h.ef,h.er,h.cF.below aj hk,h.cR.below iW hk,h.un.keep (hk.block _ (by omega)) fun x hx=>hk.block x (h.ous x hx).2,h.pl.below hk (by omega),h.dFR,h.dF,h.dR,h.bfs,h.lo,fun x hx=>⟨(h.ous x hx).1,Nat.lt_of_lt_of_le (h.ous x hx).2 hk.size⟩,Nat.le_trans hs hk.size⟩
theorem D.kZ.low (h:kZ B sb mu mp Af nf cf Lf fs bf Ar nr cr Lr rn Lp G ou w) {x:Nat} (hx:x < B∧x ≠ sb∧x ≠ mu∧x ≠ mp):Free B sb mu mp (.slice Af nf cf) (.slice Ar nr cr) ou x:=
 ⟨fun e=>by have:=(bD h.cF.own e).1; omega,fun e=>by have:=(bD h.cR.own e).1; omega,fun e=>by have:=(h.ous x e).1; omega,hx.2⟩
theorem D.kZ.fact (h:kZ B sb mu mp Af nf cf Lf fs bf Ar nr cr Lr rn Lp G ou w) {w5:World} {A5:Option Addr} {c5:Nat} {cs:List Value} {a:A} {ba:List Nat} (hrow:aV 2 aU w cs [a] ba)
  (hown:w5.ownsRow B 68 2 (.slice A5 (nf+1) c5) (nf+1) (Lf ++ cs)) (hg:w.grownBy w5 (Value.slice Af nf cf).ownBlock) (hloc:(Value.slice A5 (nf+1) c5).ownBlock=(Value.slice Af nf cf).ownBlock∨(Value.slice A5 (nf+1) c5).ownBlock=some w.heap.size)
  (hba:∀ x ∈ ba,Free B sb mu mp (.slice Af nf cf) (.slice Ar nr cr) ou x):
  w5.cell? ⟨sb,0,none⟩=some (.slice Af nf cf)∧w5.frozen? ⟨sb,0,none⟩=false∧kZ B sb mu mp A5 (nf+1) c5 (Lf ++ cs) (fs ++ [a]) (bf ++ ba) Ar nr cr Lr rn Lp G ou (w5.setCell ⟨sb,0,none⟩ (.slice A5 (nf+1) c5))∧
   (∀ x,x < w.heap.size→(Value.slice Af nf cf).ownBlock ≠ some x→x ≠ sb→(w5.setCell ⟨sb,0,none⟩ (.slice A5 (nf+1) c5)).heap[x]? = w.heap[x]?)∧∀ x,(Value.slice A5 (nf+1) c5).ownBlock=some x→(Value.slice Af nf cf).ownBlock=some x∨x=w.heap.size:=by
 obtain ⟨l1,l2,l3,l4,l5,l6⟩:=h.lo;have hs:=h.pX;have oF:∀ x,(Value.slice Af nf cf).ownBlock=some x→B≤x∧x < w.heap.size:=fun x hx=>bD h.cF.own hx
 have oR:∀ x,(Value.slice Ar nr cr).ownBlock=some x→B≤x∧x < w.heap.size:=fun x hx=>bD h.cR.own hx
 have k5:∀ x,x < w.heap.size→(Value.slice Af nf cf).ownBlock ≠ some x→w5.heap[x]? = w.heap[x]?:=fun x h1 h2=>hg.block x h1 (fun e=>h2 e.symm)
 have kp:∀ x,x < w.heap.size→(Value.slice Af nf cf).ownBlock ≠ some x→x ≠ sb→(w5.setCell ⟨sb,0,none⟩ (.slice A5 (nf+1) c5)).heap[x]? = w.heap[x]?:=fun x h1 h2 h3=>(Below.heap_setCell _ _ _ _ h3).trans (k5 x h1 h2)
 have lowF:∀ x,x < B→(Value.slice Af nf cf).ownBlock ≠ some x:=fun x hx e=>by have:=(oF x e).1; omega
 have b5:=(k5 sb (by omega) (lowF sb l1)).trans h.blk
 have new5:∀ x,(Value.slice A5 (nf+1) c5).ownBlock=some x→(Value.slice Af nf cf).ownBlock=some x∨x=w.heap.size:=fun x hx=>by
  rcases hloc with e | e
  ·exact .inl (e ▸ hx)
  ·right; rw [e] at hx; injection hx with hx; exact hx.symm
 have hC5:cO 2 aU B 68 w5 (.slice A5 (nf+1) c5) (Lf ++ cs) (fs ++ [a]) (bf ++ ba):=by
  have hef:=h.ef;subst hef;exact h.cF.app aj hrow (fun b hb=>(hba b hb).f) hown hg hloc
 refine ⟨ak b5,aB b5,⟨?_,by rw [List.length_append,h.ef]; rfl,h.er,?_,?_,?_,?_,?_,?_,h.dR,?_,h.lo,?_,?_⟩,kp,new5⟩
 ·have:=bZ (o:=0) (u:=.slice A5 (nf+1) c5) b5
  simpa using this
 ·exact hC5.mX aj (fun x hx=>Below.heap_setCell _ _ _ _ (by
   rcases new5 x hx with e | e
   ·have:=(oF x e).1; show x ≠ sb; omega
   ·show x ≠ sb; omega)) (fun x hx=>Below.heap_setCell _ _ _ _ (by
   rcases List.mem_append.1 hx with hx | hx
   ·exact (h.bfs x hx).1
   ·exact (hba x hx).s.1))
 ·exact h.cR.mX iW (fun x hx=>kp x (oR x hx).2 (fun e=>h.dFR x e hx) (by have:=(oR x hx).1; omega)) (fun x hx=>by simp at hx)
 ·exact h.un.keep (kp mu (by omega) (lowF mu l2) (by omega)) fun x hx=>kp x (h.ous x hx).2 (h.dF x hx) (by have:=(h.ous x hx).1; omega)
 ·exact h.pl.same (kp mp (by omega) (lowF mp l3) (by omega))
 ·intro x hx hx2
  rcases new5 x hx with e | e
  ·exact h.dFR x e hx2
  ·have:=(oR x hx2).2; omega
 ·intro x hx e
  rcases new5 x e with e | e
  ·exact h.dF x hx e
  ·have:=(h.ous x hx).2; omega
 ·intro x hx
  rcases List.mem_append.1 hx with hx | hx
  ·exact h.bfs x hx
  ·have g:=hba x hx
   exact ⟨g.s.1,g.s.2.1,g.s.2.2,g.u,g.r⟩
 ·intro x hx
  have:=h.ous x hx;have:=hg.size;exact ⟨by omega,by simp [World.setCell]; omega⟩
 ·have:=hg.size
  simp [World.setCell]; omega
theorem D.kZ.round (h:kZ B sb mu mp Af nf cf Lf fs bf Ar nr cr Lr rn Lp G ou w) {w5:World} {A5:Option Addr} {c5:Nat} {cs:List Value} {i:Nat} (hrow:aV 1 xU w cs [i] [])
  (hown:w5.ownsRow B 3 1 (.slice A5 (nr+1) c5) (nr+1) (Lr ++ cs)) (hg:w.grownBy w5 (Value.slice Ar nr cr).ownBlock) (hloc:(Value.slice A5 (nr+1) c5).ownBlock=(Value.slice Ar nr cr).ownBlock∨(Value.slice A5 (nr+1) c5).ownBlock=some w.heap.size):
  w5.cell? ⟨sb,1,none⟩=some (.slice Ar nr cr)∧w5.frozen? ⟨sb,1,none⟩=false∧kZ B sb mu mp Af nf cf Lf fs bf A5 (nr+1) c5 (Lr ++ cs) (rn ++ [i]) Lp G ou (w5.setCell ⟨sb,1,none⟩ (.slice A5 (nr+1) c5))∧
   (∀ x,x < w.heap.size→(Value.slice Ar nr cr).ownBlock ≠ some x→x ≠ sb→(w5.setCell ⟨sb,1,none⟩ (.slice A5 (nr+1) c5)).heap[x]? = w.heap[x]?)∧∀ x,(Value.slice A5 (nr+1) c5).ownBlock=some x→(Value.slice Ar nr cr).ownBlock=some x∨x=w.heap.size:=by
 obtain ⟨l1,l2,l3,l4,l5,l6⟩:=h.lo;have hs:=h.pX;have oF:∀ x,(Value.slice Af nf cf).ownBlock=some x→B≤x∧x < w.heap.size:=fun x hx=>bD h.cF.own hx
 have oR:∀ x,(Value.slice Ar nr cr).ownBlock=some x→B≤x∧x < w.heap.size:=fun x hx=>bD h.cR.own hx
 have k5:∀ x,x < w.heap.size→(Value.slice Ar nr cr).ownBlock ≠ some x→w5.heap[x]? = w.heap[x]?:=fun x h1 h2=>hg.block x h1 (fun e=>h2 e.symm)
 have kp:∀ x,x < w.heap.size→(Value.slice Ar nr cr).ownBlock ≠ some x→x ≠ sb→(w5.setCell ⟨sb,1,none⟩ (.slice A5 (nr+1) c5)).heap[x]? = w.heap[x]?:=fun x h1 h2 h3=>(Below.heap_setCell _ _ _ _ h3).trans (k5 x h1 h2)
 have lowR:∀ x,x < B→(Value.slice Ar nr cr).ownBlock ≠ some x:=fun x hx e=>by have:=(oR x e).1; omega
 have b5:=(k5 sb (by omega) (lowR sb l1)).trans h.blk
 have new5:∀ x,(Value.slice A5 (nr+1) c5).ownBlock=some x→(Value.slice Ar nr cr).ownBlock=some x∨x=w.heap.size:=fun x hx=>by
  rcases hloc with e | e
  ·exact .inl (e ▸ hx)
  ·right; rw [e] at hx; injection hx with hx; exact hx.symm
 have hC5:cO 1 xU B 3 w5 (.slice A5 (nr+1) c5) (Lr ++ cs) (rn ++ [i]) []:=by
  have her:=h.er;subst her;exact h.cR.app iW hrow (fun b hb=>by simp at hb) hown hg hloc
 refine ⟨ak b5,aB b5,⟨?_,h.ef,by rw [List.length_append,h.er]; rfl,?_,?_,?_,?_,?_,h.dF,?_,?_,h.lo,?_,?_⟩,kp,new5⟩
 ·have:=bZ (o:=1) (u:=.slice A5 (nr+1) c5) b5
  simpa using this
 ·exact h.cF.mX aj (fun x hx=>kp x (oF x hx).2 (fun e=>h.dFR x hx e) (by have:=(oF x hx).1; omega)) (fun x hx=>kp x (h.cF.row.lt aj x hx) (h.bfs x hx).2.2.2.2 (h.bfs x hx).1)
 ·exact hC5.mX iW (fun x hx=>Below.heap_setCell _ _ _ _ (by
   rcases new5 x hx with e | e
   ·have:=(oR x e).1; show x ≠ sb; omega
   ·show x ≠ sb; omega)) (fun x hx=>by simp at hx)
 ·exact h.un.keep (kp mu (by omega) (lowR mu l2) (by omega)) fun x hx=>kp x (h.ous x hx).2 (h.dR x hx) (by have:=(h.ous x hx).1; omega)
 ·exact h.pl.same (kp mp (by omega) (lowR mp l3) (by omega))
 ·intro x hx hx2
  rcases new5 x hx2 with e | e
  ·exact h.dFR x hx e
  ·have:=(oF x hx).2; omega
 ·intro x hx e
  rcases new5 x e with e | e
  ·exact h.dR x hx e
  ·have:=(h.ous x hx).2; omega
 ·intro x hx
  obtain ⟨g1,g2,g3,g4,g5⟩:=h.bfs x hx;refine ⟨g1,g2,g3,g4,fun e=>?_⟩
  rcases new5 x e with e | e
  ·exact g5 e
  ·have:=h.cF.row.lt aj x hx; omega
 ·intro x hx
  have:=h.ous x hx;have:=hg.size;exact ⟨by omega,by simp [World.setCell]; omega⟩
 ·have:=hg.size
  simp [World.setCell]; omega
theorem D.kZ.place (h:kZ B sb mu mp Af nf cf Lf fs bf Ar nr cr Lr rn Lp G ou w) {w9:World} {Lp':List (Value × Value)} (hp:nK isStr mp Lp' w9) (hg:w.grownBy w9 (some mp)):kZ B sb mu mp Af nf cf Lf fs bf Ar nr cr Lr rn Lp' G ou w9:=by
 obtain ⟨l1,l2,l3,l4,l5,l6⟩:=h.lo;have hs:=h.pX;have oF:∀ x,(Value.slice Af nf cf).ownBlock=some x→B≤x∧x < w.heap.size:=fun x hx=>bD h.cF.own hx
 have oR:∀ x,(Value.slice Ar nr cr).ownBlock=some x→B≤x∧x < w.heap.size:=fun x hx=>bD h.cR.own hx
 have kp:∀ x,x < w.heap.size→x ≠ mp→w9.heap[x]? = w.heap[x]?:=fun x h1 h2=>hg.block x h1 (fun e=>h2 (by injection e))
 exact ⟨(kp sb (by omega) l5).trans h.blk,h.ef,h.er,h.cF.mX aj (fun x hx=>kp x (oF x hx).2 (by have:=(oF x hx).1; omega)) (fun x hx=>kp x (h.cF.row.lt aj x hx) (h.bfs x hx).2.2.1),
  h.cR.mX iW (fun x hx=>kp x (oR x hx).2 (by have:=(oR x hx).1; omega)) (fun x hx=>by simp at hx),h.un.keep (kp mu (by omega) l6) fun x hx=>kp x (h.ous x hx).2 (by have:=(h.ous x hx).1; omega),hp,h.dFR,h.dF,h.dR,h.bfs,h.lo,
  fun x hx=>⟨(h.ous x hx).1,Nat.lt_of_lt_of_le (h.ous x hx).2 hg.size⟩,Nat.le_trans hs hg.size⟩
theorem D.kZ.under (h:kZ B sb mu mp Af nf cf Lf fs bf Ar nr cr Lr rn Lp G ou w) {w9:World} {G':WK→List Nat} {ou':List Nat} (hs9:w.heap.size≤w9.heap.size) (hk:∀ x,x < w.heap.size→x ≠ mu→x ∉ ou→w9.heap[x]? = w.heap[x]?) (hu:uj B mu G' ou' w9) (ho:∀ x ∈ ou',x ∈ ou∨(w.heap.size≤x∧x < w9.heap.size)):
  kZ B sb mu mp Af nf cf Lf fs bf Ar nr cr Lr rn Lp G' ou' w9:=by
 obtain ⟨l1,l2,l3,l4,l5,l6⟩:=h.lo;have hs:=h.pX;have oF:∀ x,(Value.slice Af nf cf).ownBlock=some x→B≤x∧x < w.heap.size:=fun x hx=>bD h.cF.own hx
 have oR:∀ x,(Value.slice Ar nr cr).ownBlock=some x→B≤x∧x < w.heap.size:=fun x hx=>bD h.cR.own hx
 have low:∀ x,x < B→x ∉ ou:=fun x hx e=>by have:=(h.ous x e).1; omega
 refine ⟨(hk sb (by omega) l4 (low sb l1)).trans h.blk,h.ef,h.er,h.cF.mX aj (fun x hx=>hk x (oF x hx).2 (by have:=(oF x hx).1; omega) (fun e=>h.dF x e hx)) (fun x hx=>hk x (h.cF.row.lt aj x hx) (h.bfs x hx).2.1 (h.bfs x hx).2.2.2.1),
  h.cR.mX iW (fun x hx=>hk x (oR x hx).2 (by have:=(oR x hx).1; omega) (fun e=>h.dR x e hx)) (fun x hx=>by simp at hx),hu,h.pl.same (hk mp (by omega) l6.symm (low mp l3)),h.dFR,fun x hx e=>?_,fun x hx e=>?_,fun x hx=>?_,h.lo,fun x hx=>?_,by omega⟩
 ·rcases ho x hx with g | g
  ·exact h.dF x g e
  ·have:=(oF x e).2; omega
 ·rcases ho x hx with g | g
  ·exact h.dR x g e
  ·have:=(oR x e).2; omega
 ·obtain ⟨g1,g2,g3,g4,g5⟩:=h.bfs x hx
  refine ⟨g1,g2,g3,fun e=>?_,g5⟩
  rcases ho x e with g | g
  ·exact g4 g
  ·have:=h.cF.row.lt aj x hx; omega
 ·rcases ho x hx with g | g
  ·have:=h.ous x g; omega
  ·omega
end
end Go.Proofs.YtiidmgchadagbaaGreatDoor
namespace Go.Proofs.YtiidmgchadagbaaGreatDoor
open Go.RowKit D
attribute [local go_sem ↓] Go.wp_at_zero Go.wp_at_succ
theorem y9 (sb:Nat) (fs:List A) (rn:List Nat) (bs:List Nat) (a:A) (c0 c1:Value) (ba:List Nat) (w:World) (h:kE sb fs rn bs w) (ha:aU w [c0,c1] a ba) (hok:aZ a=true):
  Calls Tryz.prog 111 #[.pointer (some ⟨sb,0,none⟩),.agg #[c0,c1]] w fun e w'=>e=.returned (.bool (decide (eu a ∈ fs.map eu)))∧Below w.heap.size w w':=by
 obtain ⟨Ae,ce,rfl,rfl⟩:=bJ ha;have hA:Below w.heap.size w (w.alloc (.cells #[.string a.name,.slice Ae a.args.length ce] 68)).drew:=((Below.refl _ _).alloc (Nat.le_refl _) _).drew;have hbulk:jm a≤16777216:=by have:=G7 hok; omega
 have hT:=η (qU a (.string a.name) (.slice Ae a.args.length ce) ba _ (aj.below ha hA) hbulk);obtain ⟨⟨Af,cf,Ar,cr,mu,mp,bf,br,Lu,Lp,h1,h2,h3,h4,h5,h6,h7,h8,h9,h10,h11,h12⟩,ho,hl⟩:=h;have hsb:=hl _ ho;have H5:=η h5;have H7:=η (And.intro h7 h8);have HA:=η hA;have HM:=η (hl _ h10);have HS:=η (ru hok);have y0:(w.alloc (.cells #[.string a.name,.slice Ae a.args.length ce] 68)).cell? ⟨sb,3,none⟩=some (.map (some mp)):=(World.cell?_alloc_lt _ _ _ hsb).trans (ak h1);have y1:(w.alloc (.cells #[.string a.name,.slice Ae a.args.length ce] 68)).cell? ⟨w.heap.size,0,none⟩=some (.string a.name):=by go_simp
 have y2:(w.alloc (.cells #[.string a.name,.slice Ae a.args.length ce] 68)).cell? ⟨w.heap.size,1,none⟩=some (.slice Ae a.args.length ce):=by go_simp
 have hsb':sb < (w.alloc (.cells #[.string a.name,.slice Ae a.args.length ce] 68)).heap.size:=by simp; omega
 clear h1 h2 h3 h4 h5 h6 h7 h8 h9 h10 h11 h12 ho hl hA ha hok hbulk;generalize hr:decide (eu a ∈ fs.map eu)=r at *;have HR:=η hr;clear hr
 go_enter Tryz.func111,Tryz.ntmps111
 go_wp2;generalize w.alloc (.cells #[.string a.name,.slice Ae a.args.length ce] 68)=W at *
 go_region_law
  (first
   | (go_simp; go_at_call 110; refine hT.out.mono ?_; rintro e w2 ⟨rfl,hb2⟩; have HB2:=η hb2; replace y0:=cell_later ((Below.refl W.heap.size W).drew.trans hb2) y0; obtain ⟨vi,hlk⟩:=JU (H5.out.below (HA.out.trans (hb2.mono HA.out.size)) HM.out) H7.out.1 H7.out.2 (eu a) HS.out; rw [HR.out] at hlk; unfold eu at hlk; clear hb2))
 all_goals
  have HB9:=η (HA.out.trans (HB2.out.mono HA.out.size));clear y0 y1 y2 hlk;go_wp2;go_ret;exact ⟨rfl,HB9.out⟩
theorem D.Qp {p f:A} {b:Bd} (h:(aK p f b).2=true):(⟨p.name,p.args.length,-1,⟨#[]⟩⟩:WK) ∈ keysOf f:=by
 unfold aK at h
 split at h
 ·rename_i e
  rw [e.1,e.2];exact List.mem_cons_self ..
 ·cases h
theorem D.Wu {p f:A} {b:Bd} (hf:Gr f) (h:(aK p f b).2=true) {i:Nat} (hi:i < p.args.length) (hw:(dH b p.args[i]).name ≠ ⟨#[]⟩):(⟨p.name,p.args.length,i,(dH b p.args[i]).name⟩:WK) ∈ keysOf f:=by
 obtain ⟨h1,h2⟩:=mV hf h;have hle:=nU p f b;generalize (aK p f b).1=b' at *;subst h2
 have e:(dH b p.args[i]).name=((bY p b').args[i]'(by simp [bY]; exact hi)).name:=by
  simp only [bY,List.getElem_map];unfold dH at *;cases hv:p.args[i].var
  ·rfl
  ·simp only [hv,if_true] at hw ⊢
   cases hg:fV b p.args[i].name with
   | none=>unfold ji at hw; rw [hg] at hw; exact absurd rfl hw
   | some v=>unfold ji; rw [hg,hle _ _ hg]
 rw [e];have:=Qj (a:=bY p b') (i:=i) (by simp [bY]; exact hi);simpa [bY] using this
theorem DC (vars:List ByteArray) (hv:jT vars) (b:Bd) (sb:Nat) (fs:List A) (rn:List Nat) (bs:List Nat) (a:A) (Ae:Option Addr) (ce:Nat) (b1:List Nat) (blk o:Nat) (w:World) (h:kE sb fs rn bs w) (hb:iJ vars b blk o w)
  (ha:kP vars w [.slice Ae a.args.length ce] a.args b1) (hin:∀ t ∈ a.args,t.var=true→t.name ∈ vars) (hal:a.args.length≤1000000) (hfl:fs.length≤1000000):
  Calls Tryz.prog 216 #[.pointer (some ⟨sb,0,none⟩),.agg #[.string a.name,.slice Ae a.args.length ce],.pointer (some ⟨blk,o,none⟩)] w fun e w'=>
   ∃ A9 c9 k bx,e=.returned (.slice A9 (idxs fs k).length c9)∧jD w' [.slice A9 (idxs fs k).length c9] (idxs fs k) bx∧(∀ x ∈ bx,x ∈ bs)∧(∀ f,Gr f→(aK a f b).2=true→k ∈ keysOf f)∧Below w.heap.size w w':=by
 obtain ⟨an,args⟩:=a;dsimp only at *;obtain ⟨⟨Af,cf,Ar,cr,mu,mp,bf,br,Lu,Lp,h1,h2,h3,h4,h5,h6,h7,h8,h9,h10,h11,h12⟩,ho,hl⟩:=h;have hA:Below w.heap.size w ((w.alloc (.cells #[.string an,.slice Ae args.length ce] 199)).alloc (.cells #[.string an,.int .i64 args.length,.int .i64 (-1),.string ⟨#[]⟩] 165)):=((Below.refl _ _).alloc (Nat.le_refl _) _).alloc (by simp) _;have hblk:=hb.lt;have hsb:=hl _ ho
 have hq0:((w.alloc (.cells #[.string an,.slice Ae args.length ce] 199)).alloc (.cells #[.string an,.int .i64 args.length,.int .i64 (-1),.string ⟨#[]⟩] 165)).heap[w.heap.size+1]? = some (.cells #[.string an,.int .i64 args.length,.int .i64 (-1),.string ⟨#[]⟩] 165 (0,0)):=by
  have:=heap_alloc_new (w.alloc (.cells #[.string an,.slice Ae args.length ce] 199)) (.cells #[.string an,.int .i64 args.length,.int .i64 (-1),.string ⟨#[]⟩] 165);simpa using this
 have hp0:((w.alloc (.cells #[.string an,.slice Ae args.length ce] 199)).alloc (.cells #[.string an,.int .i64 args.length,.int .i64 (-1),.string ⟨#[]⟩] 165)).drew.cell? ⟨w.heap.size,1,none⟩=some (.slice Ae args.length ce):=by go_simp
 have HX:=η (And.intro ha hin);have HB:=η hb;have HA:=η hA;have HQ:=η hq0;have HS:=η (And.intro h1 hsb);have y0:=cell_later hA (show w.cell? ⟨sb,2,none⟩=some (.map (some mu)) from ak h1);have hund:Ql mu fs bs w:=⟨⟨Lu,h4,h6⟩,h9,hl⟩;have HU:=η hund;have HLB:=η hl;obtain ⟨A0,c0,bx0,hl0,hi0,hin0⟩:=(hund.below (hA.trans (Below.refl _ _).drew) hl).look ⟨an,args.length,-1,⟨#[]⟩⟩;dsimp only at hl0;clear hund;have HI0:=η (And.intro hi0 (And.intro hin0 (fun f (_:Gr f) hm=>Qp (p:=⟨an,args⟩) (f:=f) (b:=b) hm)));clear hA hb ha hin h1 h2 h3 h4 h5 h6 h7 h8 h9 h10 h11 h12 ho hl hq0 hi0 hin0
 go_enter Tryz.func216,Tryz.ntmps216
 go_wp2;generalize ((w.alloc (.cells #[.string an,.slice Ae args.length ce] 199)).alloc (.cells #[.string an,.int .i64 args.length,.int .i64 (-1),.string ⟨#[]⟩] 165))=W at *;have x0:W.cell? ⟨w.heap.size+1,0,none⟩=some (.string an):=ak HQ.out;have x1:W.cell? ⟨w.heap.size+1,1,none⟩=some (.int .i64 args.length):=ak HQ.out;have x2:W.cell? ⟨w.heap.size+1,2,none⟩=some (.int .i64 (-1)):=ak HQ.out;have x3:W.cell? ⟨w.heap.size+1,3,none⟩=some (.string ⟨#[]⟩):=ak HQ.out;go_region
 have HI1:Hid (∃ (key:WK) (bx:List Nat) (z:Int) (s:ByteArray),key=⟨an,args.length,-1,⟨#[]⟩⟩∧jD W.drew [.slice A0 (idxs fs ⟨an,args.length,-1,⟨#[]⟩⟩).length c0] (idxs fs ⟨an,args.length,-1,⟨#[]⟩⟩) bx∧(∀ x ∈ bx,x ∈ bs)∧(∀ f,Gr f→(aK ⟨an,args⟩ f b).2=true→(⟨an,args.length,-1,⟨#[]⟩⟩:WK) ∈ keysOf f)∧Below w.heap.size w W.drew∧W.drew.heap[w.heap.size+1]? = some (.cells #[.string an,.int .i64 args.length,.int .i64 z,.string s] 165 (0,0))):=
  η ⟨_,bx0,-1,⟨#[]⟩,rfl,HI0.out.1,HI0.out.2.1,HI0.out.2.2,HA.out.drew,HQ.out⟩
 clear HI0 HA HQ hl0 x0 x1 x2 x3 y0;generalize W.drew=W1 at *;go_wp2
 go_loopw [8,28] (fun best i wr=>∃ (k:Nat) (A9:Option Addr) (c9:Nat) (key:WK) (bx:List Nat) (z:Int) (s:ByteArray),k≤args.length∧i=.int .i64 k∧best=.slice A9 (idxs fs key).length c9∧jD wr [.slice A9 (idxs fs key).length c9] (idxs fs key) bx∧(∀ x ∈ bx,x ∈ bs)∧(∀ f,Gr f→(aK ⟨an,args⟩ f b).2=true→key ∈ keysOf f)∧Below w.heap.size w wr∧wr.heap[w.heap.size+1]? = some (.cells #[.string an,.int .i64 args.length,.int .i64 z,.string s] 165 (0,0))) (fun _ i _=>args.length - (intOf i).toNat)
 case atStart=>
  obtain ⟨key,bx,z,s,rfl,h⟩:=HI1.out;exact ⟨0,A0,c0,_,bx,z,s,Nat.zero_le _,rfl,rfl,h⟩
 case round=>
  obtain ⟨k,A9,c9,key,bx,z,s,hk,rfl,rfl,hi,hin,hkey,hbel,hq⟩:=hrel;clear HI1;by_cases hlt:k < args.length
  ·obtain ⟨bq,oq,rfl,_,f0,f1,hsz⟩:=xP ((dm vars).below HX.out.1 hbel) hlt
   have hk0:(0:Int)≤(k:Int):=by omega
   have hk1:(k:Int) < (args.length:Int):=by omega
   have hA2:Below wr.heap.size wr (wr.alloc (.cells #[.int .i64 (jR vars args[k]),.string (jS args[k])] 246)):=(Below.refl _ _).alloc (Nat.le_refl _) _;have hcall:=wI vars hv b args[k] (HX.out.2 _ (List.getElem_mem hlt)) blk o _ (HB.out.keep ((hbel.trans (hA2.mono hbel.size)).block _ hblk));have HLT:=η hlt;have HKA:Hid (∀ f,Gr f→(aK ⟨an,args⟩ f b).2=true→(dH b args[k]).name ≠ ⟨#[]⟩→(⟨an,args.length,k,(dH b args[k]).name⟩:WK) ∈ keysOf f):=η fun f hf hm hw=>Wu (p:=⟨an,args⟩) hf hm hlt hw
   have HI:=η (And.intro hi (And.intro hin (And.intro hkey (And.intro hbel hq))));have HA2:=η hA2;have hil:(idxs fs key).length≤1000000:=Nat.le_trans (ng _ _) hfl;clear hi hkey hin hbel hq hA2 hsz hk;generalize jR vars args[k]=sn at *;generalize jS args[k]=ss at *;generalize args[k]=t at *;clear hlt
   go_wp2_with fail
   refine hcall.mono ?_;rintro e w2 ⟨rfl,hb2⟩;have hb2':=HA2.out.trans (hb2.mono HA2.out.size);have hq2:w2.heap[w.heap.size+1]? = some (.cells #[.string an,.int .i64 args.length,.int .i64 z,.string s] 165 (0,0)):=(hb2'.block _ (lt_of_block HI.out.2.2.2.2)).trans HI.out.2.2.2.2;have hbel2:=HI.out.2.2.2.1.trans (hb2'.mono HI.out.2.2.2.1.size);have hi2:=dL.below HI.out.1 hb2';have HI2:=η (And.intro hi2 (And.intro HI.out.2.1 (And.intro HI.out.2.2.1 (And.intro hbel2 hq2))));clear HI hcall hb2 hb2' HA2;by_cases hw:(dH b t).name=⟨#[]⟩
   ·have hw':=Dv
    rw [hw];clear hq2 hbel2 hi2;go_wp2;go_roundw
    case rel=>exact ⟨k+1,A9,c9,key,bx,z,s,HLT.out,by go_num,rfl,HI2.out⟩
    case measure=>have:=HLT.out; simp [intOf]; omega
   ·have hw':=yu hw
    have x2:w2.cell? ⟨w.heap.size+1,2,none⟩=some (.int .i64 z):=ak hq2;have x3:w2.cell? ⟨w.heap.size+1,3,none⟩=some (.string s):=ak hq2;have x4:=fun q=>aB hq2 (o:=q)
    have HW:=η hw;have hq3:=bZ (o:=3) (u:=.string (dH b t).name) (bZ (o:=2) (u:=.int .i64 k) hq2);have hbel3:Below w.heap.size w ((w2.setCell ⟨w.heap.size+1,2,none⟩ (.int .i64 k)).setCell ⟨w.heap.size+1,3,none⟩ (.string (dH b t).name)).drew:=((hbel2.setCell (p:=⟨w.heap.size+1,2,none⟩) (Nat.le_succ _) _).setCell (p:=⟨w.heap.size+1,3,none⟩) (Nat.le_succ _) _).drew;obtain ⟨A8,c8,bx8,hl8,hi8,hin8⟩:=(HU.out.below hbel3 HLB.out).look ⟨an,args.length,k,(dH b t).name⟩;have hil8:(idxs fs ⟨an,args.length,k,(dH b t).name⟩).length≤1000000:=Nat.le_trans (ng _ _) hfl;dsimp only at hl8;simp at hq3
    have hi3:jD ((w2.setCell ⟨w.heap.size+1,2,none⟩ (.int .i64 k)).setCell ⟨w.heap.size+1,3,none⟩ (.string (dH b t).name)).drew [.slice A9 (idxs fs key).length c9] (idxs fs key) bx:=dL.keep hi2 fun x hx=>by
     have:=HLB.out _ (HI2.out.2.1 x hx);show (World.setCell _ _ _).heap[_]? = _;rw [Below.heap_setCell _ _ _ _ (by show x ≠ w.heap.size+1; omega),Below.heap_setCell _ _ _ _ (by show x ≠ w.heap.size+1; omega)]
    have HI3:=η (And.intro hi3 (And.intro HI2.out.2.1 (And.intro HI2.out.2.2.1 (And.intro hbel3 hq3))));have HI8:=η (And.intro hi8 (And.intro hin8 (And.intro (fun f hf hm=>HKA.out f hf hm HW.out) (And.intro hbel3 hq3))))
    have y2:((w2.setCell ⟨w.heap.size+1,2,none⟩ (.int .i64 k)).setCell ⟨w.heap.size+1,3,none⟩ (.string (dH b t).name)).cell? ⟨sb,2,none⟩=some (.map (some mu)):=by
     rw [World.cell?_setCell_far _ _ _ _ (by show w.heap.size+1 ≠ sb; omega),World.cell?_setCell_far _ _ _ _ (by show w.heap.size+1 ≠ sb; omega)];exact cell_later hbel2 (ak HS.out.1)
    have z0:((w2.setCell ⟨w.heap.size+1,2,none⟩ (.int .i64 k)).setCell ⟨w.heap.size+1,3,none⟩ (.string (dH b t).name)).cell? ⟨w.heap.size+1,0,none⟩=some (.string an):=ak hq3;have z1:((w2.setCell ⟨w.heap.size+1,2,none⟩ (.int .i64 k)).setCell ⟨w.heap.size+1,3,none⟩ (.string (dH b t).name)).cell? ⟨w.heap.size+1,1,none⟩=some (.int .i64 args.length):=ak hq3;have z2:((w2.setCell ⟨w.heap.size+1,2,none⟩ (.int .i64 k)).setCell ⟨w.heap.size+1,3,none⟩ (.string (dH b t).name)).cell? ⟨w.heap.size+1,2,none⟩=some (.int .i64 k):=ak hq3;have z3:((w2.setCell ⟨w.heap.size+1,2,none⟩ (.int .i64 k)).setCell ⟨w.heap.size+1,3,none⟩ (.string (dH b t).name)).cell? ⟨w.heap.size+1,3,none⟩=some (.string (dH b t).name):=ak hq3;clear hq2 hbel2 hi2 hq3 hbel3 hi3 hi8 hin8;go_wp2;generalize ((w2.setCell ⟨w.heap.size+1,2,none⟩ (.int .i64 k)).setCell ⟨w.heap.size+1,3,none⟩ (.string (dH b t).name))=W3 at *;go_region;by_cases hc:(idxs fs ⟨an,args.length,k,(dH b t).name⟩).length < (idxs fs key).length
    ·have hc':((idxs fs ⟨an,args.length,k,(dH b t).name⟩).length:Int) < ((idxs fs key).length:Int):=by omega
     go_wp2;go_roundw
     case rel=>exact ⟨k+1,A8,c8,_,bx8,_,_,HLT.out,by go_num,rfl,HI8.out⟩
     case measure=>have:=HLT.out; simp [intOf]; omega
    ·have hc':¬ ((idxs fs ⟨an,args.length,k,(dH b t).name⟩).length:Int) < ((idxs fs key).length:Int):=by omega
     go_wp2;go_roundw
     case rel=>exact ⟨k+1,A9,c9,key,bx,_,_,HLT.out,by go_num,rfl,HI3.out⟩
     case measure=>have:=HLT.out; simp [intOf]; omega
  ·have he:k=args.length:=by omega
   have hk1:¬ (k:Int) < (args.length:Int):=by omega
   have HP:=η (And.intro hi (And.intro hin (And.intro hkey hbel)));clear hi hin hkey hbel hq;go_wp2;go_ret;exact ⟨A9,c9,key,rfl,bx,HP.out⟩
end Go.Proofs.YtiidmgchadagbaaGreatDoor
