/- Of the proof of FnExactDelta: FlwP. -/
import Derived.Test.YtiidmgchadagbaaGreatDoorM33
import Derived.Test.YtiidmgchadagbaaGreatDoorM31
set_option linter.unusedVariables false
namespace Go.Proofs.YtiidmgchadagbaaGreatDoor
open Go.RowKit D
def D.uT (fs ps ns:List A) (b:Bd) (left:Nat) (σ:Wo):Prop:=QM b σ∧(∀ j (h:j < ps.length),left.testBit j=true→gY σ ps[j] ∈ fs)∧∀ n ∈ ns,gY σ n ∉ fs
def D.uo (b:Bd):Prop:=∀ p ∈ b,iQ p.2=true
theorem D.uq {s:ByteArray} (h:iQ s=true):s ≠ ⟨#[]⟩:=by
 rintro rfl;revert h
 decide
theorem D.rF:∀ (ts fs:List T) (b:Bd),∃ c,(cu ts fs b).1=b ++ c
 | [],fs,b=>by cases fs <;> exact ⟨[],by simp [cu]⟩
 | t :: ts,[],b=>⟨[],by simp [cu]⟩
 | t :: ts,f :: fs,b=>by
  rw [cu]
  split
  ·split
   ·split
    ·exact rF ts fs b
    ·exact ⟨[],by simp⟩
   ·obtain ⟨c,hc⟩:=rF ts fs (b ++ [(t.name,f.name)])
    exact ⟨(t.name,f.name) :: c,by rw [hc]; simp⟩
  ·split
   ·exact rF ts fs b
   ·exact ⟨[],by simp⟩
theorem D.wK (a f:A) (b:Bd):(aK a f b).1.take b.length=b:=by
 unfold aK
 split
 ·obtain ⟨c,hc⟩:=rF a.args f.args b
  rw [hc]; simp
 ·simp
theorem D.vz (a f:A) (b:Bd):b.length≤(aK a f b).1.length:=by
 have:=congrArg List.length (wK a f b);simp at this;omega
theorem D.rG:∀ (ts fs:List T) (b:Bd),uo b→(∀ f ∈ fs,iQ f.name=true)→uo (cu ts fs b).1
 | [],fs,b,h,_=>by cases fs <;> simpa [cu] using h
 | t :: ts,[],b,h,_=>by simpa [cu] using h
 | t :: ts,f :: fs,b,h,hf=>by
  have hf':∀ g ∈ fs,iQ g.name=true:=fun g hg=>hf g (List.mem_cons_of_mem _ hg)
  rw [cu]
  split
  ·split
   ·split
    ·exact rG ts fs b h hf'
    ·exact h
   ·refine rG ts fs _ (fun p hp=>?_) hf'
    rcases List.mem_append.1 hp with hp | hp
    ·exact h p hp
    ·rw [List.mem_singleton.1 hp]; exact hf f (List.mem_cons_self ..)
  ·split
   ·exact rG ts fs b h hf'
   ·exact h
theorem D.DF {a f:A} {b:Bd} (h:uo b) (hf:∀ t ∈ f.args,iQ t.name=true):uo (aK a f b).1:=by
 unfold aK
 split
 ·exact rG _ _ _ h hf
 ·exact h
structure D.aX (f:A):Prop where
 ok:aZ f=true
 gr:Gr f
theorem D.aX.names {f:A} (h:aX f):∀ t ∈ f.args,t.var=false∧iQ t.name=true:=fun t ht=>by
 have h0:=h.ok;unfold aZ at h0;simp only [Bool.and_eq_true,decide_eq_true_eq,List.all_eq_true] at h0;have h1:=h0.2 t ht;have h2:=h.gr t ht;unfold jd at h1;rw [h2] at h1;exact ⟨h2,by simpa using h1⟩
theorem D.uP {a:A} (ha:aZ a=true) {b:Bd} (hw:uo b) (hc:xK b a.args):aX (bY a b):=by
 have h0:=ha;unfold aZ at h0;simp only [Bool.and_eq_true,decide_eq_true_eq,List.all_eq_true] at h0;refine ⟨?_,qW (ji b) a⟩;unfold aZ bY;simp only [Bool.and_eq_true,decide_eq_true_eq,List.all_eq_true,List.length_map];refine ⟨h0.1,fun t ht=>?_⟩;obtain ⟨u,hu,rfl⟩:=List.mem_map.1 ht;have h1:=h0.2 u hu;unfold jd at *;unfold dH;cases hv:u.var
 ·simpa [hv] using h1
 ·obtain ⟨v,hg⟩:=Option.isSome_iff_exists.1 (hc u hu hv)
  simp only [if_true,ji,hg,Option.getD_some];exact hw _ (xZ hg)
theorem D.yx {fs:List A} (hf:∀ f ∈ fs,aX f) {a:A} (ha:aX a):decide (eu a ∈ fs.map eu)=true ↔ a ∈ fs:=by
 rw [decide_eq_true_eq,List.mem_map];constructor
 ·rintro ⟨f,h1,h2⟩
  rw [← y8 (hf f h1).ok ha.ok h2]; exact h1
 ·exact fun h=>⟨a,h,rfl⟩
theorem D.Hl {vars:List ByteArray} (hv:jT vars) {b:Bd} (hb:jJ vars b) {ts:List T} (hin:∀ t ∈ ts,t.var=true→t.name ∈ vars):
  xK b ts ↔ ∀ i,i < 12→gG vars ts i=true→Hz vars b i ≠ ⟨#[]⟩:=by
 constructor
 ·intro hc i _ hw
  unfold gG at hw;obtain ⟨t,ht,h2⟩:=List.any_eq_true.1 hw;simp only [Bool.and_eq_true,beq_iff_eq] at h2;obtain ⟨h3,rfl⟩:=h2;have hl:=List.idxOf_lt_length_of_mem (hin t ht h3);obtain ⟨v,hg⟩:=Option.isSome_iff_exists.1 (hc t ht h3);unfold Hz;rw [dif_pos hl];have e:vars[vars.idxOf t.name]=t.name:=List.getElem_idxOf hl;rw [e];intro e2;rw [(hb.qo _).1 e2] at hg;cases hg
 ·intro h t ht htv
  have hm:=hin t ht htv;have hl:=List.idxOf_lt_length_of_mem hm;have hfew:=hv.few;have h1:=h (vars.idxOf t.name) (by omega) (List.any_eq_true.2 ⟨t,ht,by simp [htv]⟩);unfold Hz at h1;rw [dif_pos hl] at h1;have e:vars[vars.idxOf t.name]=t.name:=List.getElem_idxOf hl;rw [e] at h1
  cases hg:fV b t.name with
  | some v=>rfl
  | none=>exact absurd ((hb.qo _).2 hg) h1
def D.Ky (vars:List ByteArray) (head:A) (ns:List A) (i:Nat):Bool:=gG vars head.args i || ns.any fun n=>gG vars n.args i
theorem D.uw {vars:List ByteArray} (hv:jT vars) {b:Bd} (hb:jJ vars b) {head:A} {ns:List A} {wt:Nat→Bool} (hwt:∀ i,i < 12→wt i=Ky vars head ns i) (hh:∀ t ∈ head.args,t.var=true→t.name ∈ vars) (hn:∀ n ∈ ns,∀ t ∈ n.args,t.var=true→t.name ∈ vars):
  setB vars b wt=true ↔ xK b head.args∧∀ n ∈ ns,xK b n.args:=by
 rw [Dq,Hl hv hb hh];constructor
 ·intro h
  refine ⟨fun i hi hw=>h i hi (by rw [hwt i hi]; unfold Ky; rw [hw]; rfl),fun n hn'=>(Hl hv hb (hn n hn')).2 fun i hi hw=>h i hi (by rw [hwt i hi]; unfold Ky; rw [List.any_eq_true.2 ⟨n,hn',hw⟩]; simp)⟩
 ·rintro ⟨h1,h2⟩ i hi hw
  rw [hwt i hi] at hw;unfold Ky at hw
  rcases Bool.or_eq_true_iff.1 hw with h | h
  ·exact h1 i hi h
  ·obtain ⟨n,hn',h3⟩:=List.any_eq_true.1 h
   exact (Hl hv hb (hn n hn')).1 (h2 n hn') i hi h3
theorem D.FB (l i:Nat) (hl:l < 16) (hi:i < 4) (h:l.testBit i=true):bits .andNot .i64 (l:Int) (wrap64 (2 ^ i))=((l - 2 ^ i:Nat):Int):=by
 have H:∀ l:Nat,l < 16→∀ i:Nat,i < 4→l.testBit i=true→bits .andNot .i64 (l:Int) (wrap64 (2 ^ i))=((l - 2 ^ i:Nat):Int):=by decide +kernel
 exact H l hl i hi h
theorem D.yA (l i j:Nat) (hl:l < 16) (hi:i < 4) (hj:j < 4) (h:l.testBit i=true):(l - 2 ^ i).testBit j=(l.testBit j && decide (j ≠ i)):=by
 have H:∀ l:Nat,l < 16→∀ i:Nat,i < 4→∀ j:Nat,j < 4→l.testBit i=true→(l - 2 ^ i).testBit j=(l.testBit j && decide (j ≠ i)):=by decide +kernel
 exact H l hl i hi j hj h
theorem D.Oy (l i:Nat) (hl:l < 16) (hi:i < 4) (h:l.testBit i=true):l - 2 ^ i < l:=by
 have H:∀ l:Nat,l < 16→∀ i:Nat,i < 4→l.testBit i=true→l - 2 ^ i < l:=by decide +kernel
 exact H l hl i hi h
theorem D.TM (l n:Nat) (hl:l < 2 ^ n) (hn:n≤4) (h:l ≠ 0):∃ j,j < n∧l.testBit j=true:=by
 have H:∀ n:Nat,n < 5→∀ l:Nat,l < 2 ^ n→l ≠ 0→∃ j,j < n∧l.testBit j=true:=by decide +kernel
 exact H n (by omega) l hl h
theorem D.uT.step {fs ps ns:List A} {b:Bd} {left m:Nat} {σ:Wo} {f:A} (hl:left < 16) (hp4:ps.length≤4) (hm:m < ps.length) (hbit:left.testBit m=true) (h:uT fs ps ns b left σ) (he:gY σ ps[m]=f):
  (aK ps[m] f b).2=true∧uT fs ps ns (aK ps[m] f b).1 (left - 2 ^ m) σ:=by
 obtain ⟨h1,h2,h3⟩:=h;obtain ⟨g1,g2⟩:=nO h1 he;refine ⟨g1,g2,fun j hj hb=>h2 j hj ?_,h3⟩;rw [yA left m j hl (by omega) (by omega) hbit] at hb;exact (Bool.and_eq_true_iff.1 hb).1
theorem D.uT.back {fs ps ns:List A} {b:Bd} {left m:Nat} {σ:Wo} {f:A} (hl:left < 16) (hp4:ps.length≤4) (hm:m < ps.length) (hbit:left.testBit m=true) (hf:f ∈ fs) (hgr:Gr f) (hmt:(aK ps[m] f b).2=true) (h:uT fs ps ns (aK ps[m] f b).1 (left - 2 ^ m) σ):
  uT fs ps ns b left σ:=by
 obtain ⟨h1,h2,h3⟩:=h;obtain ⟨g1,g2⟩:=mV hgr hmt;refine ⟨h1.of_le (nU _ _ _),fun j hj hb=>?_,h3⟩;by_cases e:j=m
 ·subst e
  rw [← jY g1 h1,g2]; exact hf
 ·refine h2 j hj ?_
  rw [yA left m j hl (by omega) (by omega) hbit,hb];simpa using e
end Go.Proofs.YtiidmgchadagbaaGreatDoor
