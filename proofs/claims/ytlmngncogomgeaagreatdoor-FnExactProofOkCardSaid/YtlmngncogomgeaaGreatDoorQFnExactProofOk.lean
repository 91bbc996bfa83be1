/- The program's ProofOk returns what the reference's returns, for all arguments. -/
import Derived.Test.YtlmngncogomgeaaGreatDoorM45
import Derived.Test.YtlmngncogomgeaaGreatDoorCards
import Derived.Test.YtlmngncogomgeaaGreatDoorTie
import Derived.Lay
set_option linter.unusedVariables false
set_option maxHeartbeats 8000000
set_option maxRecDepth 100000
namespace Go.Proofs.YtlmngncogomgeaaGreatDoor.fnExactProofOk
open Go.RowKit D Go.ChangeShapes Go.WideShapes Go.ChangeAt
open Go.ChangeMaps (open_string shut_string)
theorem cells2:Tryz.prog.cellsOf 29=4:=by kernel_rfl
theorem lifted (os:Os) (started:os.Started) (H:Type) (enc:TypeId × Value→H):
  ReturnsInHanded {} Tryz.checked os 3 .any (fun w args=>(Rows.fnExactProofOkSpec.pre enc Tryz.prog Tryz.f3 [] false w args∧laidMetH Tryz.prog Rows.fnExactProofOkRow.laid w)∧sizedMet enc Tryz.prog Tryz.f3 (OpenSpec.ofChange Rows.fnExactProofOkSpec) false w args) (Rows.fnExactProofOkSpec.post enc Tryz.prog Tryz.f3 false true false false):=by
 refine returnsInHanded_of_change_and (C:=Tryz.checked) (X:=fun w _=>laidMetH Tryz.prog Rows.fnExactProofOkRow.laid w) (fun _ _ _ hh h=>h.of_heap hh) own started (by kernel_rfl) Tryz.func3
  (ChangeSpec.witness_at (enc:=enc) (C:=Tryz.checked) (os:=os) (X:=fun w _=>laidMetH Tryz.prog Rows.fnExactProofOkRow.laid w) false (laidWorld os) #[.slice none 0 0,.slice none 0 0,.agg #[.string ByteArray.empty,.slice none 0 0,.int .i64 0,.slice none 0 0]] 8 rfl (by kernel_rfl) (by kernel_rfl) (by kernel_rfl) (by kernel_rfl) (by kernel_rfl) (laidWorld_met os _)) ?_
 intro W base args ds gs before I hW _ _ hL _;have y:∀ (j:Nat) t v,Tryz.f3.params[j]? = some t→args[j]? = some v→Value.okWide Tryz.prog W .any base t v:=I;have a3:=hW;obtain ⟨p,q,J,hV,rfl,am,ao⟩:=hW;have hA:DataW.TrodAll enc Tryz.prog W 0 (fun _=>true) true Tryz.f3.params.toList args.toList ds p:=J;rw [Tryz.params3] at hA y;obtain ⟨v0,ap,d0,aq,p0,q0,a4,rfl,rfl,h0,r0⟩:=trodAll_cons hA;obtain ⟨v1,ar,d1,av,p1,q1,rfl,rfl,rfl,h1,r1⟩:=trodAll_cons r0;obtain ⟨v2,aw,d2,az,p2,q2,rfl,rfl,rfl,h2,r2⟩:=trodAll_cons r1;obtain ⟨rfl,rfl,rfl⟩:=trodAll_nil r2;obtain rfl:args=#[v0,v1,v2]:=by cases args; simp_all
 obtain ⟨rfl,rfl⟩:=trodVars_none hV;have k0:=h0;have a5:∀ x ∈ p0,x.block < W.heap.size:=by obtain ⟨m,hm⟩:=k0; exact DataW.trod_lt m _ _ _ hm
 obtain ⟨a0,b0,w0⟩:=FK Uk h0;obtain ⟨A0,ac,ae,rfl⟩:=okWide_slice Tryz.underlying22 (y 0 22 v0 rfl rfl);have k1:=h1;have a6:∀ x ∈ p1,x.block < W.heap.size:=by obtain ⟨m,hm⟩:=k1; exact DataW.trod_lt m _ _ _ hm
 obtain ⟨a1,b1,w1⟩:=FK Ui h1;obtain ⟨A1,af,ag,rfl⟩:=okWide_slice Tryz.underlying23 (y 1 23 v1 rfl rfl);have k2:=h2;have a7:∀ x ∈ p2,x.block < W.heap.size:=by obtain ⟨m,hm⟩:=k2; exact DataW.trod_lt m _ _ _ hm
 obtain ⟨a2,b2,w2⟩:=FK Ul h2;obtain ⟨aD,rfl,U⟩:=okWide_struct Tryz.underlying29 (y 2 29 v2 rfl rfl);obtain ⟨a8,a9,aa,ab,rfl⟩:=VX U (cells2);clear J I;refine (yg a0 _ b0 a1 _ b1 a2 a8 a9 aa ab b2 W w0 w1 w2 (handle_of_laid hL)).mono fun e W' ⟨he,bel⟩=>?_
 subst he;exact ⟨_,rfl,_,_,_,[],_,[],a3,trodAll_mk1 (shut_bool Tryz.underlying4 _),(trodAll_cons_mk (Below.trod laidOut (by kernel_rfl) (of_decide_eq_true (by kernel_rfl)) k0 bel a5) (trodAll_cons_mk (Below.trod laidOut (by kernel_rfl) (of_decide_eq_true (by kernel_rfl)) k1 bel a6) (trodAll_cons_mk (Below.trod laidOut (by kernel_rfl) (of_decide_eq_true (by kernel_rfl)) k2 bel a7) trodAll_mk0))),rfl,bel.frame _,fun h=>by cases h⟩
theorem over:Rows.fnExactProofOkRow.holds Tryz.pinned (OpenSpec.ofChange Rows.fnExactProofOkSpec):=
 OpenClaim.holds_of_wide 3 Tryz.f3 rfl rfl rfl rfl rfl rfl rfl ⟨rfl,rfl,rfl,rfl,rfl⟩ rfl rfl rfl rfl rfl (by as_aux_lemma=>kernel_rfl) Tryz.func3 qK
  (of_decide_eq_true (by as_aux_lemma=>kernel_rfl)) (by as_aux_lemma=>unfold Func.isWrapper; first | (rw [if_pos (by decide +kernel)]; kernel_rfl) | (rw [if_neg (by decide +kernel)]; exact ⟨rfl,rfl⟩))
  (fun os started H enc _=>lifted os started H enc)
theorem proved:Rows.FnExactProofOkCardSaid:=
 Claim7.holds_tied_plain_at .later _ _ _ _ _ over (fun _ h=>by cases h) (by kernel_rfl) (fun _ h=>by cases h) fnExactProofOk_row_tie rfl ⟨rfl,rfl⟩ (by kernel_rfl) rfl
  (fun f U hf I=>by
   obtain rfl : f = 3 := Option.some.inj ((show Tryz.prog.funcNamed "loop.example/springhead/laws.FnExactProofOk" = some 3 by kernel_rfl).symm.trans hf) |>.symm
   obtain rfl:U=Tryz.f3:=(Option.some.inj (Tryz.func3.symm.trans I)).symm
   exact ⟨by kernel_rfl,fun j t J=>by
    rw [Tryz.params3] at J;have hm:t ∈ [22,23,29]:=by simpa using Array.mem_of_getElem? J
    have y:([22,23,29].all fun u=>!Tryz.prog.wantsStandIn u)=true:=by kernel_rfl
    exact (show Tryz.prog.wantsStandIn t=false by simpa using ό.1 y t hm)⟩)
  (by kernel_rfl)
#print axioms proved
end Go.Proofs.YtlmngncogomgeaaGreatDoor.fnExactProofOk
