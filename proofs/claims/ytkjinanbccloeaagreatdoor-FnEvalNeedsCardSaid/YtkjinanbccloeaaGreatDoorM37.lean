/- Of the proof of FnEvalNeeds: RunP2. -/
import Derived.Test.YtkjinanbccloeaaGreatDoorM34
set_option linter.unusedVariables false
namespace Go.Proofs.YtkjinanbccloeaaGreatDoor
open Go.RowKit D
structure D.qy (vars:List ByteArray) (fs ps ns:List A) (head:A) (wt:Nat→Bool):Prop where
 hv:jo vars
 p4:ps.length≤4
 fl:fs.length≤1000000
 nl:ns.length≤1000000
 fok:∀ f ∈ fs,aT f
 pok:∀ p ∈ ps,aX p=true
 nok:∀ n ∈ ns,aX n=true
 hok:aX head=true
 pin:∀ p ∈ ps,∀ t ∈ p.args,t.var=true→t.name ∈ vars
 nin:∀ n ∈ ns,∀ t ∈ n.args,t.var=true→t.name ∈ vars
 hin:∀ t ∈ head.args,t.var=true→t.name ∈ vars
 want:∀ i,i < 12→wt i=J7 vars head ns i
 tight:∀ b,(∀ p ∈ ps,vY b p.args)→vY b head.args∧∀ n ∈ ns,vY b n.args
structure D.bK (K:Nat→Prop) (sk:Nat) (w w':World):Prop where
 os:w'.os=w.os
 tape:w'.tape=w.tape
 output:w'.output=w.output
 size:w.heap.size≤w'.heap.size
 block:∀ k,k < w.heap.size→K k→w'.heap[k]? = w.heap[k]?
 rest:∀ q,(q < 18∨43≤q)→w'.cell? ⟨sk,q,none⟩=w.cell? ⟨sk,q,none⟩
section
variable {K:Nat→Prop} {sk:Nat} {w w' w2:World}
theorem D.bK.trans (h:bK K sk w w') (k:bK K sk w' w2):bK K sk w w2:=
 ⟨k.os.trans h.os,k.tape.trans h.tape,k.output.trans h.output,τ h.size k.size,fun i y hK=>(k.block i (κ y h.size) hK).trans (h.block i y hK),fun q hq=>(k.rest q hq).trans (h.rest q hq)⟩
theorem D.bK.zk (hK:∀ k,K k→k ≠ sk) (h:cO sk 18 w w'):bK K sk w w':=
 ⟨h.grow.os,h.grow.tape,h.grow.output,h.grow.size,fun k I y=>h.block I (hK k y),fun q hq=>h.rest q (by omega)⟩
theorem D.bK.of_below (y:sk < w.heap.size) (h:Below w.heap.size w w'):bK K sk w w':=
 ⟨h.os,h.tape,h.output,h.size,fun k I _=>h.block k I,fun q _=>World.cell?_of_block (h.block _ y)⟩
theorem D.bK.keep {α:Type} {R:Rel α} (g:Good R) {cs:List Value} {x:α} {bs:List Nat} (h:bK K sk w w') (hr:R w cs x bs) (I:∀ b ∈ bs,K b):R w' cs x bs:=
 g.keep hr fun b y=>h.block b (g.lt hr b y) (I b y)
theorem D.kR.run {sb:Nat} {v1 v2:Value} {wt:Nat→Bool} {io:Bool} {ah:Int} {tell:Value} (h:kR sk sb v1 v2 wt io ah tell w) (k:bK K sk w w'):kR sk sb v1 v2 wt io ah tell w':=
 ⟨(k.rest _ (by omega)).trans h.st,(k.rest _ (by omega)).trans h.p1,(k.rest _ (by omega)).trans h.p2,fun i y=>(k.rest _ (by omega)).trans (h.wd i y),(k.rest _ (by omega)).trans h.io,(k.rest _ (by omega)).trans h.ah,(k.rest _ (by omega)).trans h.tl⟩
end
structure D.oP (vars:List ByteArray) (fs:List A) (rn:List Nat) (bs:List Nat) (ps ns:List A) (sk sb:Nat) (v1 v2:Value) (bp bn:List Nat) (wt:Nat→Bool) (ah:Int) (tell:Value) (K:Nat→Prop) (b:Bd) (w:World):Prop where
 sea:kR sk sb v1 v2 wt false ah tell w
 at_:gG vars b sk 18 w
 ok:jm vars b
 wds:rM b
 qK:jL sb fs rn bs w
 pps:rq vars w [v1] ps bp
 pns:rq vars w [v2] ns bn
 kbs:∀ x ∈ bs,K x
 kbp:∀ x ∈ bp,K x
 kbn:∀ x ∈ bn,K x
section
variable {vars:List ByteArray} {fs:List A} {rn:List Nat} {bs:List Nat} {ps ns:List A} {sk sb:Nat} {v1 v2:Value} {bp bn:List Nat} {wt:Nat→Bool} {ah:Int} {tell:Value} {K:Nat→Prop} {b b':Bd} {w w':World}
theorem D.oP.kept (h:oP vars fs rn bs ps ns sk sb v1 v2 bp bn wt ah tell K b w) (k:bK K sk w w') (h1:gG vars b' sk 18 w') (I:jm vars b') (J:rM b'):oP vars fs rn bs ps ns sk sb v1 v2 bp bn wt ah tell K b' w':=
 ⟨h.sea.run k,h1,I,J,h.qK.keep (fun x y=>k.block x (h.qK.lt x y) (h.kbs x y)) k.size,k.keep (dD vars) h.pps h.kbp,k.keep (dD vars) h.pns h.kbn,h.kbs,h.kbp,h.kbn⟩
theorem D.oP.below (h:oP vars fs rn bs ps ns sk sb v1 v2 bp bn wt ah tell K b w) (k:Below w.heap.size w w'):oP vars fs rn bs ps ns sk sb v1 v2 bp bn wt ah tell K b w':=
 h.kept (bK.of_below h.sea.lt k) (h.at_.keep (k.block _ h.sea.lt)) h.ok h.wds
end
structure D.uT (vars:List ByteArray) (head:A) (sk:Nat) (K:Nat→Prop) (c5 c7:Addr) (T:Bool→World→List A→Prop) (go:List A→Bool):Prop where
 call:∀ (w:World) (b:Bd) (told:List A),jm vars b→rM b→vY b head.args→gG vars b sk 18 w→T true w told→Calls Tryz.prog 116 #[.pointer (some ⟨sk,18,none⟩),.pointer (some c5),.pointer (some c7)] w fun e w'=>
  e=.returned (.bool (go (told ++ [bU head b])))∧T (go (told ++ [bU head b])) w' (told ++ [bU head b])∧bK K sk w w'∧w'.heap[sk]? = w.heap[sk]?
 keep:∀ {f:Bool} (w w':World) (told:List A),T f w told→cO sk 18 w w'→T f w' told
def D.iH (vars:List ByteArray) (fs ps ns:List A) (head:A) (K:Nat→Prop) (sk:Nat) (T:Bool→World→List A→Prop) (go:List A→Bool) (b:Bd) (left:Nat) (told:List A) (held more:Bool) (w w':World):Prop:=
 ∃ y,bK K sk w w'∧gG vars b sk 18 w'∧T more w' (told ++ y)∧(∀ t ∈ y,∃ σ,tq fs ps ns b left σ∧fP σ head=t)∧(more=true→∀ σ,tq fs ps ns b left σ→fP σ head ∈ y)∧(held=true→y ≠ [])∧(more=false→go (told ++ y)=false)
section
variable {vars:List ByteArray} {fs ps ns:List A} {head:A} {wt:Nat→Bool} {K:Nat→Prop} {sk:Nat} {T:Bool→World→List A→Prop} {go:List A→Bool} {b:Bd} {left:Nat} {told:List A} {w w':World}
theorem D.Fz {a:A} (h:aX a=true):∀ t ∈ a.args,t.var=false→t.name ≠ ⟨#[]⟩:=fun t y hv=>by
 unfold aX at h;simp only [ο,decide_eq_true_eq,List.all_eq_true] at h;have:=h.2 t y;unfold iI at this;rw [hv] at this;exact rO (by simpa using this)
theorem D.mF {a:A} (h:aX a=true):a.args.length≤3:=by
 unfold aX at h;simp only [ο,decide_eq_true_eq] at h;exact h.1.2
theorem D.SN (E:qy vars fs ps ns head wt) (I:rM b) (hc:∀ n ∈ ns,vY b n.args) (h:wV fs ns b=true) (σ:Wo):¬ tq fs ps ns b left σ:=by
 rintro ⟨h1,_,J⟩;obtain ⟨n,y,U⟩:=List.any_eq_true.1 h;have:=(wW E.fok (sS (E.nok n y) I (hc n y))).1 U;rw [jH (hc n y) h1] at this;exact J n y this
theorem D.SQ (E:qy vars fs ps ns head wt) (I:rM b) (hc:∀ n ∈ ns,vY b n.args) (h:wV fs ns b=false):∀ n ∈ ns,bU n b ∉ fs:=fun n y hm=>by
 have h1:decide (dK (bU n b) ∈ fs.map dK)=true:=(wW E.fok (sS (E.nok n y) I (hc n y))).2 hm;have:wV fs ns b=true:=List.any_eq_true.2 ⟨n,y,h1⟩;rw [h] at this; cases this
theorem D.SS (hc:vY b head.args) {y:List A} (U:∀ t ∈ y,∃ σ,tq fs ps ns b left σ∧fP σ head=t) (I:y ≠ []) (σ:Wo) (h:tq fs ps ns b left σ):fP σ head ∈ y:=by
 obtain ⟨t,J⟩:=List.exists_mem_of_ne_nil y I;obtain ⟨σ0,h0,e0⟩:=U t J;rw [← jH hc h.1,jH hc h0.1,e0]; exact J
end
end Go.Proofs.YtkjinanbccloeaaGreatDoor
