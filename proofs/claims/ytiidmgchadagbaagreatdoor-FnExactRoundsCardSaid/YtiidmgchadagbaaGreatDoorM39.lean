/- Of the proof of FnExactRounds: RunP2. -/
import Derived.Test.YtiidmgchadagbaaGreatDoorM37
set_option linter.unusedVariables false
namespace Go.Proofs.YtiidmgchadagbaaGreatDoor
open Go.RowKit D
structure D.RunEnv (vars:List ByteArray) (fs ps ns:List A) (head:A) (wt:Nat→Bool):Prop where
 hv:VarsOk vars
 p4:ps.length≤4
 fl:fs.length≤1000000
 nl:ns.length≤1000000
 fok:∀ f ∈ fs,FactOk f
 pok:∀ p ∈ ps,atomOk p=true
 nok:∀ n ∈ ns,atomOk n=true
 hok:atomOk head=true
 pin:∀ p ∈ ps,∀ t ∈ p.args,t.var=true→t.name ∈ vars
 nin:∀ n ∈ ns,∀ t ∈ n.args,t.var=true→t.name ∈ vars
 hin:∀ t ∈ head.args,t.var=true→t.name ∈ vars
 want:∀ i,i < 12→wt i=matB vars head ns i
 tight:∀ b,(∀ p ∈ ps,Cov b p.args)→Cov b head.args∧∀ n ∈ ns,Cov b n.args
structure D.RunKept (K:Nat→Prop) (sk:Nat) (w w':World):Prop where
 os:w'.os=w.os
 tape:w'.tape=w.tape
 output:w'.output=w.output
 size:w.heap.size≤w'.heap.size
 block:∀ k,k < w.heap.size→K k→w'.heap[k]? = w.heap[k]?
 rest:∀ q,(q < 18∨43≤q)→w'.cell? ⟨sk,q,none⟩=w.cell? ⟨sk,q,none⟩
section
variable {K:Nat→Prop} {sk:Nat} {w w' w2:World}
theorem D.RunKept.trans (h:RunKept K sk w w') (k:RunKept K sk w' w2):RunKept K sk w w2:=
 ⟨k.os.trans h.os,k.tape.trans h.tape,k.output.trans h.output,Nat.le_trans h.size k.size,fun i hi hK=>(k.block i (Nat.lt_of_lt_of_le hi h.size) hK).trans (h.block i hi hK),fun q hq=>(k.rest q hq).trans (h.rest q hq)⟩
theorem D.RunKept.of_bd (hK:∀ k,K k→k ≠ sk) (h:BdKept sk 18 w w'):RunKept K sk w w':=
 ⟨h.grow.os,h.grow.tape,h.grow.output,h.grow.size,fun k hk hKk=>h.block hk (hK k hKk),fun q hq=>h.rest q (by omega)⟩
theorem D.RunKept.of_below (hs:sk < w.heap.size) (h:Below w.heap.size w w'):RunKept K sk w w':=
 ⟨h.os,h.tape,h.output,h.size,fun k hk _=>h.block k hk,fun q _=>World.cell?_of_block (h.block _ hs)⟩
theorem D.RunKept.keep {α:Type} {R:Rel α} (g:Good R) {cs:List Value} {x:α} {bs:List Nat} (h:RunKept K sk w w') (hr:R w cs x bs) (hb:∀ b ∈ bs,K b):R w' cs x bs:=
 g.keep hr fun b hb'=>h.block b (g.lt hr b hb') (hb b hb')
theorem D.SeaV.run {sb:Nat} {v1 v2:Value} {wt:Nat→Bool} {io:Bool} {ah:Int} {tell:Value} (h:SeaV sk sb v1 v2 wt io ah tell w) (k:RunKept K sk w w'):SeaV sk sb v1 v2 wt io ah tell w':=
 ⟨(k.rest _ (by omega)).trans h.st,(k.rest _ (by omega)).trans h.p1,(k.rest _ (by omega)).trans h.p2,fun i hi=>(k.rest _ (by omega)).trans (h.wd i hi),(k.rest _ (by omega)).trans h.io,(k.rest _ (by omega)).trans h.ah,(k.rest _ (by omega)).trans h.tl⟩
end
structure D.RunSt (vars:List ByteArray) (fs:List A) (rn:List Nat) (bs:List Nat) (ps ns:List A) (sk sb:Nat) (v1 v2:Value) (bp bn:List Nat) (wt:Nat→Bool) (ah:Int) (tell:Value) (K:Nat→Prop) (b:Bd) (w:World):Prop where
 sea:SeaV sk sb v1 v2 wt false ah tell w
 at_:BdAt vars b sk 18 w
 ok:BdOk vars b
 wds:WdsOk b
 sto:StoreV sb fs rn bs w
 pps:patsK vars w [v1] ps bp
 pns:patsK vars w [v2] ns bn
 kbs:∀ x ∈ bs,K x
 kbp:∀ x ∈ bp,K x
 kbn:∀ x ∈ bn,K x
section
variable {vars:List ByteArray} {fs:List A} {rn:List Nat} {bs:List Nat} {ps ns:List A} {sk sb:Nat} {v1 v2:Value} {bp bn:List Nat} {wt:Nat→Bool} {ah:Int} {tell:Value} {K:Nat→Prop} {b b':Bd} {w w':World}
theorem D.RunSt.kept (h:RunSt vars fs rn bs ps ns sk sb v1 v2 bp bn wt ah tell K b w) (k:RunKept K sk w w') (h1:BdAt vars b' sk 18 w') (h2:BdOk vars b') (h3:WdsOk b'):RunSt vars fs rn bs ps ns sk sb v1 v2 bp bn wt ah tell K b' w':=
 ⟨h.sea.run k,h1,h2,h3,h.sto.keep (fun x hx=>k.block x (h.sto.lt x hx) (h.kbs x hx)) k.size,k.keep (patsK_good vars) h.pps h.kbp,k.keep (patsK_good vars) h.pns h.kbn,h.kbs,h.kbp,h.kbn⟩
theorem D.RunSt.below (h:RunSt vars fs rn bs ps ns sk sb v1 v2 bp bn wt ah tell K b w) (k:Below w.heap.size w w'):RunSt vars fs rn bs ps ns sk sb v1 v2 bp bn wt ah tell K b w':=
 h.kept (RunKept.of_below h.sea.lt k) (h.at_.keep (k.block _ h.sea.lt)) h.ok h.wds
end
structure D.TellOk (vars:List ByteArray) (head:A) (sk:Nat) (K:Nat→Prop) (c5 c7:Addr) (T:Bool→World→List A→Prop) (go:List A→Bool):Prop where
 call:∀ (w:World) (b:Bd) (told:List A),BdOk vars b→WdsOk b→Cov b head.args→BdAt vars b sk 18 w→T true w told→Calls Tryz.prog 142 #[.pointer (some ⟨sk,18,none⟩),.pointer (some c5),.pointer (some c7)] w fun e w'=>
  e=.returned (.bool (go (told ++ [fillB head b])))∧T (go (told ++ [fillB head b])) w' (told ++ [fillB head b])∧RunKept K sk w w'∧w'.heap[sk]? = w.heap[sk]?
 keep:∀ {f:Bool} (w w':World) (told:List A),T f w told→BdKept sk 18 w w'→T f w' told
def D.RunPost (vars:List ByteArray) (fs ps ns:List A) (head:A) (K:Nat→Prop) (sk:Nat) (T:Bool→World→List A→Prop) (go:List A→Bool) (b:Bd) (left:Nat) (told:List A) (held more:Bool) (w w':World):Prop:=
 ∃ ts,RunKept K sk w w'∧BdAt vars b sk 18 w'∧T more w' (told ++ ts)∧(∀ t ∈ ts,∃ σ,SolW fs ps ns b left σ∧fillW σ head=t)∧(more=true→∀ σ,SolW fs ps ns b left σ→fillW σ head ∈ ts)∧(held=true→ts ≠ [])∧(more=false→go (told ++ ts)=false)
section
variable {vars:List ByteArray} {fs ps ns:List A} {head:A} {wt:Nat→Bool} {K:Nat→Prop} {sk:Nat} {T:Bool→World→List A→Prop} {go:List A→Bool} {b:Bd} {left:Nat} {told:List A} {w w':World}
theorem D.arg_const {a:A} (h:atomOk a=true):∀ t ∈ a.args,t.var=false→t.name ≠ ⟨#[]⟩:=fun t ht hv=>by
 unfold atomOk at h
 simp only [Bool.and_eq_true,decide_eq_true_eq,List.all_eq_true] at h
 have:=h.2 t ht
 unfold termOk at this
 rw [hv] at this
 exact nameOk_full (by simpa using this)
theorem D.arg_few {a:A} (h:atomOk a=true):a.args.length≤3:=by
 unfold atomOk at h
 simp only [Bool.and_eq_true,decide_eq_true_eq] at h
 exact h.1.2
theorem D.none_hin (E:RunEnv vars fs ps ns head wt) (hw:WdsOk b) (hc:∀ n ∈ ns,Cov b n.args) (h:hinB fs ns b=true) (σ:Wo):¬ SolW fs ps ns b left σ:=by
 rintro ⟨h1,_,h3⟩
 obtain ⟨n,hn,h4⟩:=List.any_eq_true.1 h
 have:=(mem_text E.fok (fill_ok (E.nok n hn) hw (hc n hn))).1 h4
 rw [fillB_cov (hc n hn) h1] at this
 exact h3 n hn this
theorem D.hin_none (E:RunEnv vars fs ps ns head wt) (hw:WdsOk b) (hc:∀ n ∈ ns,Cov b n.args) (h:hinB fs ns b=false):∀ n ∈ ns,fillB n b ∉ fs:=fun n hn hm=>by
 have h1:decide (aText (fillB n b) ∈ fs.map aText)=true:=(mem_text E.fok (fill_ok (E.nok n hn) hw (hc n hn))).2 hm
 have:hinB fs ns b=true:=List.any_eq_true.2 ⟨n,hn,h1⟩
 rw [h] at this; cases this
theorem D.one_told (hc:Cov b head.args) {ts:List A} (hs:∀ t ∈ ts,∃ σ,SolW fs ps ns b left σ∧fillW σ head=t) (hne:ts ≠ []) (σ:Wo) (h:SolW fs ps ns b left σ):fillW σ head ∈ ts:=by
 obtain ⟨t,ht⟩:=List.exists_mem_of_ne_nil ts hne
 obtain ⟨σ0,h0,e0⟩:=hs t ht
 rw [← fillB_cov hc h.1,fillB_cov hc h0.1,e0]; exact ht
end
end Go.Proofs.YtiidmgchadagbaaGreatDoor
