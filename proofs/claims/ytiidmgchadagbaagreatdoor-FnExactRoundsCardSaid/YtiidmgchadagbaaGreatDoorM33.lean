/- Of the proof of FnExactRounds: HRuleS, Laid, StoR. -/
import Derived.Test.YtiidmgchadagbaaGreatDoorM32
import Derived.LaidHandle
import Derived.Stop.Joined
import Derived.Test.YtiidmgchadagbaaGreatDoorM30
set_option linter.unusedVariables false
set_option maxHeartbeats 400000
namespace Go.Proofs.YtiidmgchadagbaaGreatDoor
open Go.RowKit D
attribute [local go_sem ↓] Go.wp_at_zero Go.wp_at_succ
theorem infoRule:(Tryz.prog.info? 71).map (fun i=>(i.zero,i.size,i.bytes))=some (some (.agg #[.string ⟨#[]⟩,.slice none 0 0,.slice none 0 0]),3,64):=by kernel_rfl
theorem szRuleS_any (ts:List Ru) (v:Value) (bs:List Nat) (left:Int) (w:World) (h:rulesK w [v] ts bs) (h0:0≤left) (h1:left≤1048576):
  Calls Tryz.prog 6 #[v,.int .i64 left] w (Left left (bulkRs ts) w.heap.size w):=by
 obtain ⟨Ad,cap,rfl,hl,hm⟩:=sliceK_form h
 have hlm:=nat_ge_max (Nat.le_trans hl hm)
 have hbk:bulkRs ts=ts.length+sumL bulkR ts:=rfl
 have HB:=η hbk
 clear hm hbk
 go_enter Tryz.func6,Tryz.ntmps6
 go_wp2
 ·go_ret
  exact ⟨Below.refl _ _,_,rfl,.inl rfl⟩
 ·go_loopw [1,5] (fun l i wr=>∃ (k:Nat) (m:Int),k≤ts.length∧i=.int .i64 k∧l=.int .i64 m∧0≤m∧m≤1048576∧m+ts.length+sumL bulkR (ts.take k)=left∧Below w.heap.size w wr) (fun _ i _=>ts.length - (intOf i).toNat)
  case atStart=>exact ⟨0,_,Nat.zero_le _,rfl,rfl,by assumption,by omega,by simp [sumL],Below.refl _ _⟩
  case round=>
   obtain ⟨k,m,hk,rfl,rfl,hm0,hm1,hsum,hb⟩:=hrel
   have HS:=η hsum
   clear hsum
   by_cases hlt:k < ts.length
   ·have hw:=rulesK_good.below h hb
    obtain ⟨b,o,Ae,ce,Af,cf,bk,rfl,_,c0,c1,c2,hel,_⟩:=rules_el hw hlt
    have HT:=η (sumL_snoc bulkR ts k hlt)
    clear h hw
    generalize ts[k]=t at *
    go_wp2_with fail
    refine (szRule_any t _ _ _ bk m _ hel hm0 hm1).mono ?_
    rintro e w' ⟨hb',r,rfl,hr⟩
    clear hel
    go_wp2
    ·rcases hr with rfl | ⟨_,_⟩
     ·go_ret
      exact ⟨hb.trans (hb'.mono hb.size),_,rfl,.inl rfl⟩
     ·exfalso; omega
    ·rcases hr with rfl | ⟨hr0,hr1⟩
     ·exfalso; omega
     ·have:=HS.out
      have:=HT.out
      go_roundw
      case rel=>exact ⟨k+1,r,by omega,by go_num,rfl,hr0,by omega,by omega,hb.trans (hb'.mono hb.size)⟩
      case measure=>simp [intOf]; omega
   ·have he:k=ts.length:=by omega
    go_wp2
    go_ret
    refine ⟨hb,_,rfl,.inr ⟨hm0,?_⟩⟩
    have:=HS.out
    rw [he,List.take_of_length_le (Nat.le_refl _)] at this
    rw [HB.out]
    omega
theorem toRuleS_any (ts:List Ru) (v:Value) (bs:List Nat) (w:World) (h:rulesK w [v] ts bs) (hn:bulkRs ts≤1048576):
  Calls Tryz.prog 9 #[v] w (Makes rulesK ts w.heap.size w):=by
 obtain ⟨Ad,cap,rfl,hl,hm⟩:=sliceK_form h
 obtain ⟨i0,hi,hz0,hz1,hz2⟩:=info_parts infoRule
 have hn2:ts.length+sumL bulkR ts≤1048576:=hn
 clear hm
 go_enter Tryz.func9,Tryz.ntmps9
 go_wp2_with (refine wpList_make_full _ rfl _ _ _ rfl w.heap.size 71 i0 _ 3 Tryz.underlying29 hi hz0 hz1 _ _ _ _ ts.length rfl rfl rfl rfl (by rw [hz2]; omega) (by unfold maxLen; omega) (Nat.le_refl _) ?_; intro w1 hown hgrow)
 have hb1:Below w.heap.size w w1:=(Below.refl _ _).grown hgrow (Nat.le_refl _) (fun _ e=>by cases e)
 have hg1:w.heap.size < w1.heap.size:=(hown.lt _ rfl).2
 clear hgrow
 go_loopw [4] (fun i wr=>∃ (k:Nat) (L:List Value) (bs':List Nat),k≤ts.length∧i=.int .i64 k∧wr.ownsRow w.heap.size 71 3 (.slice (some ⟨w.heap.size,0,none⟩) ts.length ts.length) ts.length L∧
   Filled 3 ruleK w1.heap.size wr L ts k bs'∧Below w.heap.size w wr∧w1.heap.size≤wr.heap.size) (fun i _=>ts.length - (intOf i).toNat)
 case atStart=>exact ⟨0,_,_,Nat.zero_le _,rfl,hown,Filled.start,hb1,Nat.le_refl _⟩
 case round=>
  obtain ⟨k,L,bs',hk,rfl,how,hF,hb,hsz⟩:=hrel
  clear hown hb1
  by_cases hlt:k < ts.length
  ·have hw:=rulesK_good.below h hb
   obtain ⟨b,o,Ae,ce,Af,cf,bk,rfl,_,c0,c1,c2,hel,_⟩:=rules_el hw hlt
   have hle:bulkR ts[k]≤1048576:=by have:=sumL_at bulkR ts k hlt; omega
   have HK:=η hF
   clear h hw hF
   have hL:=η how.1
   go_wp2_with fail
   refine (toRule_b ts[k] _ _ _ bk _ hel hle).mono ?_
   rintro e w' ⟨hb',cs',b2,rfl,hR,hN⟩
   obtain ⟨Ae',ce',Af',cf',rfl⟩:=rule_cells hR
   have how':=own_below how hb'
   obtain ⟨⟨u0,hu0⟩,hf0⟩:=own_slot how' (j:=k * 3) (by omega)
   obtain ⟨⟨u1,hu1⟩,hf1⟩:=own_slot how' (j:=k * 3+1) (by omega)
   obtain ⟨⟨u2,hu2⟩,hf2⟩:=own_slot how' (j:=k * 3+2) (by omega)
   obtain ⟨R1,R2,R3,R4⟩:=fill3 ruleK_good how HK.out hlt hb hb' hg1 (Nat.le_refl _) hsz hR hN
   clear how' hel hR hN
   go_wp2
   go_roundw
   case rel=>exact ⟨k+1,_,_,by omega,by go_num,R1,R2,R3,R4⟩
   case measure=>simp [intOf]; omega
  ·have he:k=ts.length:=by omega
   subst he
   have HF:=η hF
   clear hF
   go_wp2
   go_ret
   obtain ⟨b2,r1,r2,r3,r4⟩:=HF.out.slice how (fun hm=>by have:=(HF.out.new.own _ hm).1; omega)
   refine ⟨hb,_,b2,rfl,r1,r2,fun b hb'=>⟨?_,r4 b hb'⟩⟩
   rcases r3 b hb' with ⟨rfl,h⟩ | h
   ·exact h
   ·have:=(HF.out.new.own b h).1; omega
theorem eqRuleS_same (ts:List Ru) (v1 v2:Value) (b1 b2:List Nat) (w:World) (h1:rulesK w [v1] ts b1) (h2:rulesK w [v2] ts b2):
  Calls Tryz.prog 13 #[v1,v2] w (Yes w.heap.size w):=by
 obtain ⟨Ad,cap,rfl,hl,hm⟩:=sliceK_form h1
 obtain ⟨Ad2,cap2,rfl,hl2,hm2⟩:=sliceK_form h2
 have hlm:=nat_ge_max (Nat.le_trans hl hm)
 clear hm hm2
 go_enter Tryz.func13,Tryz.ntmps13
 go_wp2
 go_loopw [5] (fun i wr=>∃ k:Nat,k≤ts.length∧i=.int .i64 k∧Below w.heap.size w wr) (fun i _=>ts.length - (intOf i).toNat)
 case atStart=>exact ⟨0,Nat.zero_le _,rfl,Below.refl _ _⟩
 case round=>
  obtain ⟨k,hk,rfl,hb⟩:=hrel
  by_cases hlt:k < ts.length
  ·obtain ⟨b,o,Ae,ce,Af,cf,bk,rfl,_,c0,c1,c2,hel,_⟩:=rules_el (rulesK_good.below h1 hb) hlt
   obtain ⟨b',o',Ae',ce',Af',cf',bk',rfl,_,d0,d1,d2,hel',_⟩:=rules_el (rulesK_good.below h2 hb) hlt
   clear h1 h2
   have H1:=η (ruleK_good.below hel (Below.drew (Below.refl _ _)))
   have H2:=η (ruleK_good.below hel' (Below.drew (Below.refl _ _)))
   have hlt':(k:Int) < (ts.length:Int):=by omega
   have hk0:(0:Int)≤(k:Int):=by omega
   clear hel hel'
   go_wp2
   go_region_held3 (fun w'=>w'.cell? ⟨b,o+k * 3,none⟩=some (.string ts[k].head.name)∧w'.cell? ⟨b,o+k * 3+1,none⟩=some (.slice Ae ts[k].head.args.length ce)∧w'.cell? ⟨b,o+k * 3+2,none⟩=some (.slice Af ts[k].body.length cf)∧w'.cell? ⟨b',o'+k * 3,none⟩=some (.string ts[k].head.name)∧w'.cell? ⟨b',o'+k * 3+1,none⟩=some (.slice Ae' ts[k].head.args.length ce')∧w'.cell? ⟨b',o'+k * 3+2,none⟩=some (.slice Af' ts[k].body.length cf')) (first | go_keep | exact ⟨cell_later hb' c0,cell_later hb' c1,cell_later hb' c2,cell_later hb' d0,cell_later hb' d1,cell_later hb' d2⟩)
    (first | (go_at_call 38; refine (eqRule_same ts[k] _ _ _ _ _ _ bk bk' _ H1.out H2.out).mono ?_; rintro e w' ⟨rfl,hb'⟩))
   go_wp2
   go_roundw
   case rel=>exact ⟨k+1,by omega,by go_num,hb.trans ((Below.drew (Below.refl _ _)).trans (hb'.mono hb.size))⟩
   case measure=>simp [intOf]; omega
  ·have he:k=ts.length:=by omega
   subst he
   go_wp2
   go_ret
   exact ⟨rfl,hb⟩
end Go.Proofs.YtiidmgchadagbaaGreatDoor
namespace Go.Proofs.YtiidmgchadagbaaGreatDoor
open Go.ChangeShapes Go.WideShapes Go.RowKit D
theorem laidEt : Tryz.prog.globalNamed "errors.errorType" = some 1 := by kernel_rfl
theorem laidRt : (Tryz.prog.cutTypes.find? (·.1 == "internal/reflectlite.rtype")).map (·.2) = some 291 := by kernel_rfl
theorem laidSize:Tryz.prog.types.size=341:=by kernel_rfl
theorem laidOneRow:((List.range 341).filter fun t=>Tryz.prog.rowNamed t [101,114,114,111,114]) = [114]:=by kernel_rfl
theorem handle_of_laid {W : World} (h : laidMetH Tryz.prog [("errors.errorType", Rows.laid_errors_errorType)] W) : LaidE W := by
 have h' : laidMet Tryz.prog [] W ∧ handlesMet Tryz.prog [("errors.errorType", Rows.laid_errors_errorType)] W := h
 obtain ⟨name,u,ty,e1,e2,e3,e4,e5⟩:=h'.2 _ (List.mem_singleton.2 rfl)
 have en:name = [101,114,114,111,114]:=(Option.some.inj e1).symm
 subst en
 obtain rfl:=Option.some.inj (laidRt.symm.trans e2)
 have hm:ty ∈ (List.range 341).filter fun t=>Tryz.prog.rowNamed t [101,114,114,111,114]:=List.mem_filter.2 ⟨List.mem_range.2 (by rw [← laidSize]; exact e3),e4⟩
 rw [laidOneRow] at hm
 obtain rfl:=List.mem_singleton.1 hm
 have hh:typeHandle Tryz.prog 114=.pointer (some ⟨2,114,none⟩):=by kernel_rfl
 rw [hh] at e5
 unfold LaidE
 simpa using World.var?_cell laidEt e5 0
noncomputable def laidWorld (os:Os):World:=
 let w0:=World.holding Tryz.prog os ⟨#[],#[],[]⟩
 { w0 with heap:=w0.heap.modify 1 fun
  | .cells _ t frozen=>.cells #[.iface 291 (.agg #[.pointer (some ⟨2,114,none⟩)])] t frozen
  | o=>o }
theorem laidWorld_met (os : Os) (args : Array Value) : laidMetH Tryz.prog [("errors.errorType", Rows.laid_errors_errorType)] ((laidWorld os).forCall (fun _ _ => 0) ⟨#[], args, []⟩).memory :=
 laidMetH_of_parts (laidMet_nil _ _) (by kernel_rfl)
end Go.Proofs.YtiidmgchadagbaaGreatDoor
namespace Go.Proofs.YtiidmgchadagbaaGreatDoor
open Go.RowKit D
structure D.SRaw (B sb mu mp:Nat) (Af:Option Addr) (nf cf:Nat) (Lf:List Value) (fs:List A) (bf:List Nat) (Ar:Option Addr) (nr cr:Nat) (Lr:List Value) (rn:List Nat) (Lp:List (Value × Value)) (G:WK→List Nat) (ou:List Nat) (w:World):Prop where
 blk:w.heap[sb]? = some (.cells #[.slice Af nf cf,.slice Ar nr cr,.map (some mu),.map (some mp)] 87 (0,0))
 ef:nf=fs.length
 er:nr=rn.length
 cF:Coll 2 atomK B 68 w (.slice Af nf cf) Lf fs bf
 cR:Coll 1 intK B 3 w (.slice Ar nr cr) Lr rn []
 un:UnderS B mu G ou w
 pl:MapV isStr mp Lp w
 dFR:Dis (.slice Af nf cf) (.slice Ar nr cr)
 dF:∀ x ∈ ou,(Value.slice Af nf cf).ownBlock ≠ some x
 dR:∀ x ∈ ou,(Value.slice Ar nr cr).ownBlock ≠ some x
 bfs:∀ x ∈ bf,x ≠ sb∧x ≠ mu∧x ≠ mp∧x ∉ ou∧(Value.slice Ar nr cr).ownBlock ≠ some x
 lo:sb < B∧mu < B∧mp < B∧sb ≠ mu∧sb ≠ mp∧mu ≠ mp
 ous:∀ x ∈ ou,B≤x∧x < w.heap.size
 siz:B≤w.heap.size
structure D.Free (B sb mu mp:Nat) (vF vR:Value) (ou:List Nat) (b:Nat):Prop where
 f:vF.ownBlock ≠ some b
 r:vR.ownBlock ≠ some b
 u:b ∉ ou
 s:b ≠ sb∧b ≠ mu∧b ≠ mp
section
variable {B sb mu mp:Nat} {Af:Option Addr} {nf cf:Nat} {Lf:List Value} {fs:List A} {bf:List Nat} {Ar:Option Addr} {nr cr:Nat} {Lr:List Value} {rn:List Nat} {Lp:List (Value × Value)} {G:WK→List Nat} {ou:List Nat} {w w':World}
theorem D.SRaw.later (h:SRaw B sb mu mp Af nf cf Lf fs bf Ar nr cr Lr rn Lp G ou w) (hk:Below w.heap.size w w'):SRaw B sb mu mp Af nf cf Lf fs bf Ar nr cr Lr rn Lp G ou w':=by
 obtain ⟨l1,l2,l3,_⟩:=h.lo
 have hs:=h.siz
 exact ⟨(hk.block _ (by omega)).trans h.blk,h.ef,h.er,h.cF.below atomK_good hk,h.cR.below intK_good hk,h.un.keep (hk.block _ (by omega)) fun x hx=>hk.block x (h.ous x hx).2,h.pl.below hk (by omega),h.dFR,h.dF,h.dR,h.bfs,h.lo,fun x hx=>⟨(h.ous x hx).1,Nat.lt_of_lt_of_le (h.ous x hx).2 hk.size⟩,Nat.le_trans hs hk.size⟩
theorem D.SRaw.low (h:SRaw B sb mu mp Af nf cf Lf fs bf Ar nr cr Lr rn Lp G ou w) {x:Nat} (hx:x < B∧x ≠ sb∧x ≠ mu∧x ≠ mp):Free B sb mu mp (.slice Af nf cf) (.slice Ar nr cr) ou x:=
 ⟨fun e=>by have:=(own_block_in h.cF.own e).1; omega,fun e=>by have:=(own_block_in h.cR.own e).1; omega,fun e=>by have:=(h.ous x e).1; omega,hx.2⟩
theorem D.SRaw.fact (h:SRaw B sb mu mp Af nf cf Lf fs bf Ar nr cr Lr rn Lp G ou w) {w5:World} {A5:Option Addr} {c5:Nat} {cs:List Value} {a:A} {ba:List Nat} (hrow:Rowed 2 atomK w cs [a] ba)
  (hown:w5.ownsRow B 68 2 (.slice A5 (nf+1) c5) (nf+1) (Lf ++ cs)) (hg:w.grownBy w5 (Value.slice Af nf cf).ownBlock) (hloc:(Value.slice A5 (nf+1) c5).ownBlock=(Value.slice Af nf cf).ownBlock∨(Value.slice A5 (nf+1) c5).ownBlock=some w.heap.size)
  (hba:∀ x ∈ ba,Free B sb mu mp (.slice Af nf cf) (.slice Ar nr cr) ou x):
  w5.cell? ⟨sb,0,none⟩=some (.slice Af nf cf)∧w5.frozen? ⟨sb,0,none⟩=false∧SRaw B sb mu mp A5 (nf+1) c5 (Lf ++ cs) (fs ++ [a]) (bf ++ ba) Ar nr cr Lr rn Lp G ou (w5.setCell ⟨sb,0,none⟩ (.slice A5 (nf+1) c5))∧
   (∀ x,x < w.heap.size→(Value.slice Af nf cf).ownBlock ≠ some x→x ≠ sb→(w5.setCell ⟨sb,0,none⟩ (.slice A5 (nf+1) c5)).heap[x]? = w.heap[x]?)∧∀ x,(Value.slice A5 (nf+1) c5).ownBlock=some x→(Value.slice Af nf cf).ownBlock=some x∨x=w.heap.size:=by
 obtain ⟨l1,l2,l3,l4,l5,l6⟩:=h.lo
 have hs:=h.siz
 have oF:∀ x,(Value.slice Af nf cf).ownBlock=some x→B≤x∧x < w.heap.size:=fun x hx=>own_block_in h.cF.own hx
 have oR:∀ x,(Value.slice Ar nr cr).ownBlock=some x→B≤x∧x < w.heap.size:=fun x hx=>own_block_in h.cR.own hx
 have k5:∀ x,x < w.heap.size→(Value.slice Af nf cf).ownBlock ≠ some x→w5.heap[x]? = w.heap[x]?:=fun x h1 h2=>hg.block x h1 (fun e=>h2 e.symm)
 have kp:∀ x,x < w.heap.size→(Value.slice Af nf cf).ownBlock ≠ some x→x ≠ sb→(w5.setCell ⟨sb,0,none⟩ (.slice A5 (nf+1) c5)).heap[x]? = w.heap[x]?:=fun x h1 h2 h3=>(Below.heap_setCell _ _ _ _ h3).trans (k5 x h1 h2)
 have lowF:∀ x,x < B→(Value.slice Af nf cf).ownBlock ≠ some x:=fun x hx e=>by have:=(oF x e).1; omega
 have b5:=(k5 sb (by omega) (lowF sb l1)).trans h.blk
 have new5:∀ x,(Value.slice A5 (nf+1) c5).ownBlock=some x→(Value.slice Af nf cf).ownBlock=some x∨x=w.heap.size:=fun x hx=>by
  rcases hloc with e | e
  ·exact .inl (e ▸ hx)
  ·right; rw [e] at hx; injection hx with hx; exact hx.symm
 have hC5:Coll 2 atomK B 68 w5 (.slice A5 (nf+1) c5) (Lf ++ cs) (fs ++ [a]) (bf ++ ba):=by
  have hef:=h.ef
  subst hef
  exact h.cF.app atomK_good hrow (fun b hb=>(hba b hb).f) hown hg hloc
 refine ⟨cell_of_blk b5,frozen_of_blk b5,⟨?_,by rw [List.length_append,h.ef]; rfl,h.er,?_,?_,?_,?_,?_,?_,h.dR,?_,h.lo,?_,?_⟩,kp,new5⟩
 ·have:=blk_setG (o:=0) (u:=.slice A5 (nf+1) c5) b5
  simpa using this
 ·exact hC5.keepB atomK_good (fun x hx=>Below.heap_setCell _ _ _ _ (by
   rcases new5 x hx with e | e
   ·have:=(oF x e).1; show x ≠ sb; omega
   ·show x ≠ sb; omega)) (fun x hx=>Below.heap_setCell _ _ _ _ (by
   rcases List.mem_append.1 hx with hx | hx
   ·exact (h.bfs x hx).1
   ·exact (hba x hx).s.1))
 ·exact h.cR.keepB intK_good (fun x hx=>kp x (oR x hx).2 (fun e=>h.dFR x e hx) (by have:=(oR x hx).1; omega)) (fun x hx=>by simp at hx)
 ·exact h.un.keep (kp mu (by omega) (lowF mu l2) (by omega)) fun x hx=>kp x (h.ous x hx).2 (h.dF x hx) (by have:=(h.ous x hx).1; omega)
 ·exact h.pl.same (kp mp (by omega) (lowF mp l3) (by omega))
 ·intro x hx hx2
  rcases new5 x hx with e | e
  ·exact h.dFR x e hx2
  ·have:=(oR x hx2).2; omega
 ·intro x hx e
  rcases new5 x e with e | e
  ·exact h.dF x hx e
  ·have:=(h.ous x hx).2; omega
 ·intro x hx
  rcases List.mem_append.1 hx with hx | hx
  ·exact h.bfs x hx
  ·have g:=hba x hx
   exact ⟨g.s.1,g.s.2.1,g.s.2.2,g.u,g.r⟩
 ·intro x hx
  have:=h.ous x hx
  have:=hg.size
  exact ⟨by omega,by simp [World.setCell]; omega⟩
 ·have:=hg.size
  simp [World.setCell]; omega
theorem D.SRaw.round (h:SRaw B sb mu mp Af nf cf Lf fs bf Ar nr cr Lr rn Lp G ou w) {w5:World} {A5:Option Addr} {c5:Nat} {cs:List Value} {i:Nat} (hrow:Rowed 1 intK w cs [i] [])
  (hown:w5.ownsRow B 3 1 (.slice A5 (nr+1) c5) (nr+1) (Lr ++ cs)) (hg:w.grownBy w5 (Value.slice Ar nr cr).ownBlock) (hloc:(Value.slice A5 (nr+1) c5).ownBlock=(Value.slice Ar nr cr).ownBlock∨(Value.slice A5 (nr+1) c5).ownBlock=some w.heap.size):
  w5.cell? ⟨sb,1,none⟩=some (.slice Ar nr cr)∧w5.frozen? ⟨sb,1,none⟩=false∧SRaw B sb mu mp Af nf cf Lf fs bf A5 (nr+1) c5 (Lr ++ cs) (rn ++ [i]) Lp G ou (w5.setCell ⟨sb,1,none⟩ (.slice A5 (nr+1) c5))∧
   (∀ x,x < w.heap.size→(Value.slice Ar nr cr).ownBlock ≠ some x→x ≠ sb→(w5.setCell ⟨sb,1,none⟩ (.slice A5 (nr+1) c5)).heap[x]? = w.heap[x]?)∧∀ x,(Value.slice A5 (nr+1) c5).ownBlock=some x→(Value.slice Ar nr cr).ownBlock=some x∨x=w.heap.size:=by
 obtain ⟨l1,l2,l3,l4,l5,l6⟩:=h.lo
 have hs:=h.siz
 have oF:∀ x,(Value.slice Af nf cf).ownBlock=some x→B≤x∧x < w.heap.size:=fun x hx=>own_block_in h.cF.own hx
 have oR:∀ x,(Value.slice Ar nr cr).ownBlock=some x→B≤x∧x < w.heap.size:=fun x hx=>own_block_in h.cR.own hx
 have k5:∀ x,x < w.heap.size→(Value.slice Ar nr cr).ownBlock ≠ some x→w5.heap[x]? = w.heap[x]?:=fun x h1 h2=>hg.block x h1 (fun e=>h2 e.symm)
 have kp:∀ x,x < w.heap.size→(Value.slice Ar nr cr).ownBlock ≠ some x→x ≠ sb→(w5.setCell ⟨sb,1,none⟩ (.slice A5 (nr+1) c5)).heap[x]? = w.heap[x]?:=fun x h1 h2 h3=>(Below.heap_setCell _ _ _ _ h3).trans (k5 x h1 h2)
 have lowR:∀ x,x < B→(Value.slice Ar nr cr).ownBlock ≠ some x:=fun x hx e=>by have:=(oR x e).1; omega
 have b5:=(k5 sb (by omega) (lowR sb l1)).trans h.blk
 have new5:∀ x,(Value.slice A5 (nr+1) c5).ownBlock=some x→(Value.slice Ar nr cr).ownBlock=some x∨x=w.heap.size:=fun x hx=>by
  rcases hloc with e | e
  ·exact .inl (e ▸ hx)
  ·right; rw [e] at hx; injection hx with hx; exact hx.symm
 have hC5:Coll 1 intK B 3 w5 (.slice A5 (nr+1) c5) (Lr ++ cs) (rn ++ [i]) []:=by
  have her:=h.er
  subst her
  exact h.cR.app intK_good hrow (fun b hb=>by simp at hb) hown hg hloc
 refine ⟨cell_of_blk b5,frozen_of_blk b5,⟨?_,h.ef,by rw [List.length_append,h.er]; rfl,?_,?_,?_,?_,?_,h.dF,?_,?_,h.lo,?_,?_⟩,kp,new5⟩
 ·have:=blk_setG (o:=1) (u:=.slice A5 (nr+1) c5) b5
  simpa using this
 ·exact h.cF.keepB atomK_good (fun x hx=>kp x (oF x hx).2 (fun e=>h.dFR x hx e) (by have:=(oF x hx).1; omega)) (fun x hx=>kp x (h.cF.row.lt atomK_good x hx) (h.bfs x hx).2.2.2.2 (h.bfs x hx).1)
 ·exact hC5.keepB intK_good (fun x hx=>Below.heap_setCell _ _ _ _ (by
   rcases new5 x hx with e | e
   ·have:=(oR x e).1; show x ≠ sb; omega
   ·show x ≠ sb; omega)) (fun x hx=>by simp at hx)
 ·exact h.un.keep (kp mu (by omega) (lowR mu l2) (by omega)) fun x hx=>kp x (h.ous x hx).2 (h.dR x hx) (by have:=(h.ous x hx).1; omega)
 ·exact h.pl.same (kp mp (by omega) (lowR mp l3) (by omega))
 ·intro x hx hx2
  rcases new5 x hx2 with e | e
  ·exact h.dFR x hx e
  ·have:=(oF x hx).2; omega
 ·intro x hx e
  rcases new5 x e with e | e
  ·exact h.dR x hx e
  ·have:=(h.ous x hx).2; omega
 ·intro x hx
  obtain ⟨g1,g2,g3,g4,g5⟩:=h.bfs x hx
  refine ⟨g1,g2,g3,g4,fun e=>?_⟩
  rcases new5 x e with e | e
  ·exact g5 e
  ·have:=h.cF.row.lt atomK_good x hx; omega
 ·intro x hx
  have:=h.ous x hx
  have:=hg.size
  exact ⟨by omega,by simp [World.setCell]; omega⟩
 ·have:=hg.size
  simp [World.setCell]; omega
theorem D.SRaw.place (h:SRaw B sb mu mp Af nf cf Lf fs bf Ar nr cr Lr rn Lp G ou w) {w9:World} {Lp':List (Value × Value)} (hp:MapV isStr mp Lp' w9) (hg:w.grownBy w9 (some mp)):SRaw B sb mu mp Af nf cf Lf fs bf Ar nr cr Lr rn Lp' G ou w9:=by
 obtain ⟨l1,l2,l3,l4,l5,l6⟩:=h.lo
 have hs:=h.siz
 have oF:∀ x,(Value.slice Af nf cf).ownBlock=some x→B≤x∧x < w.heap.size:=fun x hx=>own_block_in h.cF.own hx
 have oR:∀ x,(Value.slice Ar nr cr).ownBlock=some x→B≤x∧x < w.heap.size:=fun x hx=>own_block_in h.cR.own hx
 have kp:∀ x,x < w.heap.size→x ≠ mp→w9.heap[x]? = w.heap[x]?:=fun x h1 h2=>hg.block x h1 (fun e=>h2 (by injection e))
 exact ⟨(kp sb (by omega) l5).trans h.blk,h.ef,h.er,h.cF.keepB atomK_good (fun x hx=>kp x (oF x hx).2 (by have:=(oF x hx).1; omega)) (fun x hx=>kp x (h.cF.row.lt atomK_good x hx) (h.bfs x hx).2.2.1),
  h.cR.keepB intK_good (fun x hx=>kp x (oR x hx).2 (by have:=(oR x hx).1; omega)) (fun x hx=>by simp at hx),h.un.keep (kp mu (by omega) l6) fun x hx=>kp x (h.ous x hx).2 (by have:=(h.ous x hx).1; omega),hp,h.dFR,h.dF,h.dR,h.bfs,h.lo,
  fun x hx=>⟨(h.ous x hx).1,Nat.lt_of_lt_of_le (h.ous x hx).2 hg.size⟩,Nat.le_trans hs hg.size⟩
theorem D.SRaw.under (h:SRaw B sb mu mp Af nf cf Lf fs bf Ar nr cr Lr rn Lp G ou w) {w9:World} {G':WK→List Nat} {ou':List Nat} (hs9:w.heap.size≤w9.heap.size) (hk:∀ x,x < w.heap.size→x ≠ mu→x ∉ ou→w9.heap[x]? = w.heap[x]?) (hu:UnderS B mu G' ou' w9) (ho:∀ x ∈ ou',x ∈ ou∨(w.heap.size≤x∧x < w9.heap.size)):
  SRaw B sb mu mp Af nf cf Lf fs bf Ar nr cr Lr rn Lp G' ou' w9:=by
 obtain ⟨l1,l2,l3,l4,l5,l6⟩:=h.lo
 have hs:=h.siz
 have oF:∀ x,(Value.slice Af nf cf).ownBlock=some x→B≤x∧x < w.heap.size:=fun x hx=>own_block_in h.cF.own hx
 have oR:∀ x,(Value.slice Ar nr cr).ownBlock=some x→B≤x∧x < w.heap.size:=fun x hx=>own_block_in h.cR.own hx
 have low:∀ x,x < B→x ∉ ou:=fun x hx e=>by have:=(h.ous x e).1; omega
 refine ⟨(hk sb (by omega) l4 (low sb l1)).trans h.blk,h.ef,h.er,h.cF.keepB atomK_good (fun x hx=>hk x (oF x hx).2 (by have:=(oF x hx).1; omega) (fun e=>h.dF x e hx)) (fun x hx=>hk x (h.cF.row.lt atomK_good x hx) (h.bfs x hx).2.1 (h.bfs x hx).2.2.2.1),
  h.cR.keepB intK_good (fun x hx=>hk x (oR x hx).2 (by have:=(oR x hx).1; omega) (fun e=>h.dR x e hx)) (fun x hx=>by simp at hx),hu,h.pl.same (hk mp (by omega) l6.symm (low mp l3)),h.dFR,fun x hx e=>?_,fun x hx e=>?_,fun x hx=>?_,h.lo,fun x hx=>?_,by omega⟩
 ·rcases ho x hx with g | g
  ·exact h.dF x g e
  ·have:=(oF x e).2; omega
 ·rcases ho x hx with g | g
  ·exact h.dR x g e
  ·have:=(oR x e).2; omega
 ·obtain ⟨g1,g2,g3,g4,g5⟩:=h.bfs x hx
  refine ⟨g1,g2,g3,fun e=>?_,g5⟩
  rcases ho x e with g | g
  ·exact g4 g
  ·have:=h.cF.row.lt atomK_good x hx; omega
 ·rcases ho x hx with g | g
  ·have:=h.ous x g; omega
  ·omega
end
end Go.Proofs.YtiidmgchadagbaaGreatDoor
