/- Of the proof of FnExactRounds: FlwP. -/
import Derived.Test.YtiidmgchadagbaaGreatDoorM36
set_option linter.unusedVariables false
namespace Go.Proofs.YtiidmgchadagbaaGreatDoor
open Go.RowKit D
def D.SolW (fs ps ns:List A) (b:Bd) (left:Nat) (σ:Wo):Prop:=Agr b σ∧(∀ j (h:j < ps.length),left.testBit j=true→fillW σ ps[j] ∈ fs)∧∀ n ∈ ns,fillW σ n ∉ fs
def D.WdsOk (b:Bd):Prop:=∀ p ∈ b,nameOk p.2=true
theorem D.nameOk_full {s:ByteArray} (h:nameOk s=true):s ≠ ⟨#[]⟩:=by
 rintro rfl
 revert h
 decide
theorem D.matchT_pre:∀ (ts fs:List T) (b:Bd),∃ c,(matchT ts fs b).1=b ++ c
 | [],fs,b=>by cases fs <;> exact ⟨[],by simp [matchT]⟩
 | t :: ts,[],b=>⟨[],by simp [matchT]⟩
 | t :: ts,f :: fs,b=>by
  rw [matchT]
  split
  ·split
   ·split
    ·exact matchT_pre ts fs b
    ·exact ⟨[],by simp⟩
   ·obtain ⟨c,hc⟩:=matchT_pre ts fs (b ++ [(t.name,f.name)])
    exact ⟨(t.name,f.name) :: c,by rw [hc]; simp⟩
  ·split
   ·exact matchT_pre ts fs b
   ·exact ⟨[],by simp⟩
theorem D.matchB_pre (a f:A) (b:Bd):(matchB a f b).1.take b.length=b:=by
 unfold matchB
 split
 ·obtain ⟨c,hc⟩:=matchT_pre a.args f.args b
  rw [hc]; simp
 ·simp
theorem D.matchB_len_le (a f:A) (b:Bd):b.length≤(matchB a f b).1.length:=by
 have:=congrArg List.length (matchB_pre a f b)
 simp at this
 omega
theorem D.matchT_wds:∀ (ts fs:List T) (b:Bd),WdsOk b→(∀ f ∈ fs,nameOk f.name=true)→WdsOk (matchT ts fs b).1
 | [],fs,b,h,_=>by cases fs <;> simpa [matchT] using h
 | t :: ts,[],b,h,_=>by simpa [matchT] using h
 | t :: ts,f :: fs,b,h,hf=>by
  have hf':∀ g ∈ fs,nameOk g.name=true:=fun g hg=>hf g (List.mem_cons_of_mem _ hg)
  rw [matchT]
  split
  ·split
   ·split
    ·exact matchT_wds ts fs b h hf'
    ·exact h
   ·refine matchT_wds ts fs _ (fun p hp=>?_) hf'
    rcases List.mem_append.1 hp with hp | hp
    ·exact h p hp
    ·rw [List.mem_singleton.1 hp]; exact hf f (List.mem_cons_self ..)
  ·split
   ·exact matchT_wds ts fs b h hf'
   ·exact h
theorem D.matchB_wds {a f:A} {b:Bd} (h:WdsOk b) (hf:∀ t ∈ f.args,nameOk t.name=true):WdsOk (matchB a f b).1:=by
 unfold matchB
 split
 ·exact matchT_wds _ _ _ h hf
 ·exact h
structure D.FactOk (f:A):Prop where
 ok:atomOk f=true
 gr:Gr f
theorem D.FactOk.names {f:A} (h:FactOk f):∀ t ∈ f.args,t.var=false∧nameOk t.name=true:=fun t ht=>by
 have h0:=h.ok
 unfold atomOk at h0
 simp only [Bool.and_eq_true,decide_eq_true_eq,List.all_eq_true] at h0
 have h1:=h0.2 t ht
 have h2:=h.gr t ht
 unfold termOk at h1
 rw [h2] at h1
 exact ⟨h2,by simpa using h1⟩
theorem D.fill_ok {a:A} (ha:atomOk a=true) {b:Bd} (hw:WdsOk b) (hc:Cov b a.args):FactOk (fillB a b):=by
 have h0:=ha
 unfold atomOk at h0
 simp only [Bool.and_eq_true,decide_eq_true_eq,List.all_eq_true] at h0
 refine ⟨?_,gr_fill (valB b) a⟩
 unfold atomOk fillB
 simp only [Bool.and_eq_true,decide_eq_true_eq,List.all_eq_true,List.length_map]
 refine ⟨h0.1,fun t ht=>?_⟩
 obtain ⟨u,hu,rfl⟩:=List.mem_map.1 ht
 have h1:=h0.2 u hu
 unfold termOk at *
 unfold fillT
 cases hv:u.var
 ·simpa [hv] using h1
 ·obtain ⟨v,hg⟩:=Option.isSome_iff_exists.1 (hc u hu hv)
  simp only [if_true,valB,hg,Option.getD_some]
  exact hw _ (getB_mem hg)
theorem D.mem_text {fs:List A} (hf:∀ f ∈ fs,FactOk f) {a:A} (ha:FactOk a):decide (aText a ∈ fs.map aText)=true ↔ a ∈ fs:=by
 rw [decide_eq_true_eq,List.mem_map]
 constructor
 ·rintro ⟨f,h1,h2⟩
  rw [← aText_inj (hf f h1).ok ha.ok h2]; exact h1
 ·exact fun h=>⟨a,h,rfl⟩
theorem D.cov_wrd {vars:List ByteArray} (hv:VarsOk vars) {b:Bd} (hb:BdOk vars b) {ts:List T} (hin:∀ t ∈ ts,t.var=true→t.name ∈ vars):
  Cov b ts ↔ ∀ i,i < 12→wantB vars ts i=true→wrd vars b i ≠ ⟨#[]⟩:=by
 constructor
 ·intro hc i _ hw
  unfold wantB at hw
  obtain ⟨t,ht,h2⟩:=List.any_eq_true.1 hw
  simp only [Bool.and_eq_true,beq_iff_eq] at h2
  obtain ⟨h3,rfl⟩:=h2
  have hl:=List.idxOf_lt_length_of_mem (hin t ht h3)
  obtain ⟨v,hg⟩:=Option.isSome_iff_exists.1 (hc t ht h3)
  unfold wrd
  rw [dif_pos hl]
  have e:vars[vars.idxOf t.name]=t.name:=List.getElem_idxOf hl
  rw [e]
  intro e2
  rw [(hb.val_empty _).1 e2] at hg
  cases hg
 ·intro h t ht htv
  have hm:=hin t ht htv
  have hl:=List.idxOf_lt_length_of_mem hm
  have hfew:=hv.few
  have h1:=h (vars.idxOf t.name) (by omega) (List.any_eq_true.2 ⟨t,ht,by simp [htv]⟩)
  unfold wrd at h1
  rw [dif_pos hl] at h1
  have e:vars[vars.idxOf t.name]=t.name:=List.getElem_idxOf hl
  rw [e] at h1
  cases hg:getB b t.name with
  | some v=>rfl
  | none=>exact absurd ((hb.val_empty _).2 hg) h1
def D.matB (vars:List ByteArray) (head:A) (ns:List A) (i:Nat):Bool:=wantB vars head.args i || ns.any fun n=>wantB vars n.args i
theorem D.setB_cov {vars:List ByteArray} (hv:VarsOk vars) {b:Bd} (hb:BdOk vars b) {head:A} {ns:List A} {wt:Nat→Bool} (hwt:∀ i,i < 12→wt i=matB vars head ns i) (hh:∀ t ∈ head.args,t.var=true→t.name ∈ vars) (hn:∀ n ∈ ns,∀ t ∈ n.args,t.var=true→t.name ∈ vars):
  setB vars b wt=true ↔ Cov b head.args∧∀ n ∈ ns,Cov b n.args:=by
 rw [setB_iff,cov_wrd hv hb hh]
 constructor
 ·intro h
  refine ⟨fun i hi hw=>h i hi (by rw [hwt i hi]; unfold matB; rw [hw]; rfl),fun n hn'=>(cov_wrd hv hb (hn n hn')).2 fun i hi hw=>h i hi (by rw [hwt i hi]; unfold matB; rw [List.any_eq_true.2 ⟨n,hn',hw⟩]; simp)⟩
 ·rintro ⟨h1,h2⟩ i hi hw
  rw [hwt i hi] at hw
  unfold matB at hw
  rcases Bool.or_eq_true_iff.1 hw with h | h
  ·exact h1 i hi h
  ·obtain ⟨n,hn',h3⟩:=List.any_eq_true.1 h
   exact (cov_wrd hv hb (hn n hn')).1 (h2 n hn') i hi h3
theorem D.bits_less (l i:Nat) (hl:l < 16) (hi:i < 4) (h:l.testBit i=true):bits .andNot .i64 (l:Int) (wrap64 (2 ^ i))=((l - 2 ^ i:Nat):Int):=by
 have H:∀ l:Nat,l < 16→∀ i:Nat,i < 4→l.testBit i=true→bits .andNot .i64 (l:Int) (wrap64 (2 ^ i))=((l - 2 ^ i:Nat):Int):=by decide +kernel
 exact H l hl i hi h
theorem D.less_bit (l i j:Nat) (hl:l < 16) (hi:i < 4) (hj:j < 4) (h:l.testBit i=true):(l - 2 ^ i).testBit j=(l.testBit j && decide (j ≠ i)):=by
 have H:∀ l:Nat,l < 16→∀ i:Nat,i < 4→∀ j:Nat,j < 4→l.testBit i=true→(l - 2 ^ i).testBit j=(l.testBit j && decide (j ≠ i)):=by decide +kernel
 exact H l hl i hi j hj h
theorem D.less_lt (l i:Nat) (hl:l < 16) (hi:i < 4) (h:l.testBit i=true):l - 2 ^ i < l:=by
 have H:∀ l:Nat,l < 16→∀ i:Nat,i < 4→l.testBit i=true→l - 2 ^ i < l:=by decide +kernel
 exact H l hl i hi h
theorem D.bit_some (l n:Nat) (hl:l < 2 ^ n) (hn:n≤4) (h:l ≠ 0):∃ j,j < n∧l.testBit j=true:=by
 have H:∀ n:Nat,n < 5→∀ l:Nat,l < 2 ^ n→l ≠ 0→∃ j,j < n∧l.testBit j=true:=by decide +kernel
 exact H n (by omega) l hl h
theorem D.SolW.step {fs ps ns:List A} {b:Bd} {left m:Nat} {σ:Wo} {f:A} (hl:left < 16) (hp4:ps.length≤4) (hm:m < ps.length) (hbit:left.testBit m=true) (h:SolW fs ps ns b left σ) (he:fillW σ ps[m]=f):
  (matchB ps[m] f b).2=true∧SolW fs ps ns (matchB ps[m] f b).1 (left - 2 ^ m) σ:=by
 obtain ⟨h1,h2,h3⟩:=h
 obtain ⟨g1,g2⟩:=matchB_words h1 he
 refine ⟨g1,g2,fun j hj hb=>h2 j hj ?_,h3⟩
 rw [less_bit left m j hl (by omega) (by omega) hbit] at hb
 exact (Bool.and_eq_true_iff.1 hb).1
theorem D.SolW.back {fs ps ns:List A} {b:Bd} {left m:Nat} {σ:Wo} {f:A} (hl:left < 16) (hp4:ps.length≤4) (hm:m < ps.length) (hbit:left.testBit m=true) (hf:f ∈ fs) (hgr:Gr f) (hmt:(matchB ps[m] f b).2=true) (h:SolW fs ps ns (matchB ps[m] f b).1 (left - 2 ^ m) σ):
  SolW fs ps ns b left σ:=by
 obtain ⟨h1,h2,h3⟩:=h
 obtain ⟨g1,g2⟩:=matchB_fill hgr hmt
 refine ⟨h1.of_le (matchB_le _ _ _),fun j hj hb=>?_,h3⟩
 by_cases e:j=m
 ·subst e
  rw [← fillB_cov g1 h1,g2]; exact hf
 ·refine h2 j hj ?_
  rw [less_bit left m j hl (by omega) (by omega) hbit,hb]
  simpa using e
end Go.Proofs.YtiidmgchadagbaaGreatDoor
