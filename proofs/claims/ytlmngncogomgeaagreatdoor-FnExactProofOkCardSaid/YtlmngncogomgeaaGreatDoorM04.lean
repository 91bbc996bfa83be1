/- Of the proof of FnExactProofOk: gq, Chan, TG, BodyP, qL. -/
import Derived.Test.YtlmngncogomgeaaGreatDoorM02
import Derived.Conc.LoneCalls
import Derived.Test.YtlmngncogomgeaaGreatDoorM01
set_option linter.unusedVariables false
set_option maxHeartbeats 2000000
set_option maxRecDepth 100000
namespace Go.Proofs.YtlmngncogomgeaaGreatDoor
section
open Go.RowKit Go.ChangeMaps Go.MapKept D
structure D.wJ (P:Program) (kt:TypeId) (W:World→Prop) (S:Value→Prop):Prop where
 check:∀ (w:World) (em:Bool) {v:Value},S v→(Instr.checkKey em 10000 kt v).run P w=.ok () w
 find:∀ {w:World},W w→∀ {k:Value},S k→∀ (es:List MapEntry),(∀ e ∈ es,S e.key)→
  ((Instr.findKey kt k es).run P w=.ok none w∧∀ e ∈ es,e.key ≠ k)∨∃ i e,(Instr.findKey kt k es).run P w=.ok (some (i,e.val)) w∧es[i]? = some e∧e.key=k
 same:∀ {v:Value},S v→Instr.sameBits 10000 v v=true
structure D.Ud (P:Program) (kt:TypeId) (W:World→Prop) (S:Value→Prop):Prop where
 now:∃ d,P.underlying kt=some d∧∀ a b,S a→S b→Instr.sameNow d a b=none
 eq:∀ {w:World} {a b:Value},W w→S a→S b→∃ r:Bool,(Op.equal kt a b).run P w=.ok r w∧(r=true ↔ a=b)
structure D.gq (S:Value→Prop) (b:Nat) (L:List (Value × Value)) (w:World):Prop where
 blk:∃ es clock,w.heap[b]? = some (.map es clock)∧es.toList.map (fun e=>(e.key,e.val))=L
 keys:∀ p ∈ L,S p.1
 once:L.Pairwise fun p q=>p.1 ≠ q.1
section
variable {P:Program} {kt:TypeId} {W:World→Prop} {S:Value→Prop}
theorem wK (hK:Ud P kt W S) {w:World} (hW:W w) {k:Value} (hk:S k):∀ (es:List MapEntry) (y:Nat),(∀ e ∈ es,S e.key)→
  ((Instr.findAsking kt k es y).run P w=.ok none w∧∀ e ∈ es,e.key ≠ k)∨∃ i e,(Instr.findAsking kt k es y).run P w=.ok (some (y+i,e.val)) w∧es[i]? = some e∧e.key=k
 | [],y,_=>.inl ⟨rfl,fun e he=>by simp at he⟩
 | e :: es,y,hs=>by
  obtain ⟨r,hr,I⟩:=hK.eq hW hk (hs e Γ)
  cases r with
  | true=>
   refine .inr ⟨0,e,?_,rfl,(I.1 rfl).symm⟩;unfold Instr.findAsking;simp [go_sem,hr]
  | false=>
   have U:e.key ≠ k:=fun h=>by have:=I.2 h.symm; simp at this
   rcases wK hK hW hk es (y+1) (fun x J=>hs x (Δ _ J)) with ⟨h1,h2⟩ | ⟨i,e',h1,h2,h3⟩
   ·refine .inl ⟨?_,fun x J=>?_⟩
    ·unfold Instr.findAsking
     simp [go_sem,hr,h1]
    ·rcases ύ.1 J with rfl | J
     ·exact U
     ·exact h2 x J
   ·refine .inr ⟨i+1,e',?_,by simpa using h2,h3⟩
    have:y+1+i=y+(i+1):=by omega
    rw [this] at h1;unfold Instr.findAsking;simp [go_sem,hr,h1]
theorem D7 (hK:Ud P kt W S) {w:World} (J:W w) {k:Value} (hk:S k) (es:List MapEntry) (y:∀ e ∈ es,S e.key):
  ((Instr.findKey kt k es).run P w=.ok none w∧∀ e ∈ es,e.key ≠ k)∨∃ i e,(Instr.findKey kt k es).run P w=.ok (some (i,e.val)) w∧es[i]? = some e∧e.key=k:=by
 obtain ⟨d,I,U⟩:=hK.now
 cases es with
 | nil=>exact .inl ⟨by simp [Instr.findKey,Instr.findNow,run_underlying I,Result.andThen],fun e he=>by simp at he⟩
 | cons e es=>
  have h0:Instr.findNow d k (e :: es) 0=none:=by
   unfold Instr.findNow;rw [U _ _ hk (y e Γ)]
  have hf:(Instr.findKey kt k (e :: es)).run P w=(Instr.findAsking kt k (e :: es)).run P w:=by simp [Instr.findKey,run_underlying I,h0,Result.andThen]
  rw [hf]
  rcases wK hK J hk (e :: es) 0 y with h | ⟨i,e',h1,h2,h3⟩
  ·exact .inl h
  ·exact .inr ⟨i,e',by simpa using h1,h2,h3⟩
theorem iZ (hK:wJ P kt W S) {w:World} (y:W w) {k:Value} (hk:S k) (es:List MapEntry) (I:∀ e ∈ es,S e.key):
 ((Instr.findKey kt k es).run P w=.ok none w∧∀ e ∈ es,e.key ≠ k)∨∃ i e,(Instr.findKey kt k es).run P w=.ok (some (i,e.val)) w∧es[i]? = some e∧e.key=k:=hK.find y hk es I
theorem D.Fv {L:List (Value × Value)} (h:L.Pairwise fun p q=>p.1 ≠ q.1) {i j:Nat} {p q:Value × Value} (hi:L[i]? = some p) (J:L[j]? = some q) (e:p.1=q.1):i=j:=by
 obtain ⟨y,rfl⟩:=List.getElem?_eq_some_iff.1 hi;obtain ⟨I,rfl⟩:=List.getElem?_eq_some_iff.1 J
 rcases Nat.lt_trichotomy i j with h1 | h1 | h1
 ·exact absurd e (List.pairwise_iff_getElem.1 h i j y I h1)
 ·exact h1
 ·exact absurd e.symm (List.pairwise_iff_getElem.1 h j i I y h1)
theorem D.gq.same {b:Nat} {L:List (Value × Value)} {w w':World} (h:gq S b L w) (e:w'.heap[b]? = w.heap[b]?):gq S b L w':=by
 obtain ⟨⟨es,c,h1,y⟩,I,J⟩:=h;exact ⟨⟨es,c,e.trans h1,y⟩,I,J⟩
theorem D.gq.lt {b:Nat} {L:List (Value × Value)} {w:World} (h:gq S b L w):b < w.heap.size:=by
 obtain ⟨⟨es,c,h1,y⟩,I,J⟩:=h;exact (Array.getElem?_eq_some_iff.1 h1).1
theorem D.gq.below {b:Nat} {L:List (Value × Value)} {w w':World} {B:Nat} (h:gq S b L w) (y:Below B w w') (hB:b < B):gq S b L w':=h.same (y.block b hB)
theorem D.gq.setCell {b:Nat} {L:List (Value × Value)} {w:World} (h:gq S b L w) {a:Addr} (ha:b ≠ a.block) (u:Value):gq S b L (w.setCell a u):=
 h.same (π _ _ _ _ ha)
theorem D.gq.made (w:World):gq S w.heap.size [] (w.alloc (.map #[] 0)):=
 ⟨⟨#[],0,(MapKept.heap_alloc w _).1,rfl⟩,fun p h=>by simp at h,List.Pairwise.nil⟩
section
variable {ops:Array Oper} {rest:List Oper} {o:Oper} {a:Act} {Q:Exit→Act→World→Prop}
theorem kH (hK:wJ P kt W S) {w:World} (hW:W w) (c:Bool) {t e:TypeId} (ht:P.underlying t=some (.map kt e))
  {b:Nat} {L:List (Value × Value)} (h:gq S b L w) {k v:Value} (hk:(k,v) ∈ L):(Instr.lookup t (.map (some b)) k c).run P w=.ok (if c then .tuple #[v,.bool true] else v) w:=by
 obtain ⟨⟨es,ck,hb,rfl⟩,h2,h3⟩:=h;have hS:S k:=h2 _ hk;have U:∀ e ∈ es.toList,S e.key:=fun e he=>h2 (e.key,e.val) (List.mem_map.2 ⟨e,he,rfl⟩)
 obtain ⟨e0,I,y⟩:=List.mem_map.1 hk;simp only [Prod.mk.injEq] at y
 rcases iZ hK hW hS es.toList U with ⟨h5,J⟩ | ⟨i,e1,h5,J,h7⟩
 ·exact absurd y.1 (J e0 I)
 ·obtain ⟨j,hj,ej⟩:=List.getElem_of_mem I
  have a0:j=i:=Fv h3 (p:=(e0.key,e0.val)) (q:=(e1.key,e1.val)) (by simp [Ψ hj,ej]) (by simp [J]) (by simp [y.1,h7])
  have a1:e1.val=v:=by
   rw [← a0,Ψ hj,ej] at J;rw [← y.2,Option.some.inj J]
  simp [Instr.lookup,run_underlying ht,MapKept.run_getObj_map hb,hK.check w _ hS,h5,a1,Result.andThen]
theorem kU (hK:wJ P kt W S) {w:World} (hW:W w) (c:Bool) (hg:o.guard=none) (m x:Operand) (t e:TypeId) (I:o.op=Op.lookup t m x c) (ht:P.underlying t=some (.map kt e))
  (b:Nat) (L:List (Value × Value)) (hm:a.eval m=.map (some b)) (h:gq S b L w) (k z:Value) (hz:(zeroValue e).run P w=.ok z w) (hx:a.eval x=k) (hS:S k) (hk:∀ p ∈ L,p.1 ≠ k)
  (hK':wpList P ops Q rest (a.put o.dst (if c then .tuple #[z,.bool false] else z)) w):wpList P ops Q (o :: rest) a w:=by
 obtain ⟨⟨es,ck,hb,rfl⟩,h2,h3⟩:=h;refine wpList_plain hg fun K J=>?_
 have U:∀ e ∈ es.toList,S e.key:=fun e he=>h2 (e.key,e.val) (List.mem_map.2 ⟨e,he,rfl⟩)
 rcases iZ hK hW hS es.toList U with ⟨h5,h6⟩ | ⟨i,e1,h5,h6,h7⟩
 ·have y:(Instr.lookup t (.map (some b)) k c).run P w=.ok (if c then .tuple #[z,.bool false] else z) w:=by
   simp [Instr.lookup,run_underlying ht,MapKept.run_getObj_map hb,hK.check w _ hS,h5,hz,Result.andThen]
  unfold Oper.wp;simp [execOp,I,hm,hx,y,Result.andThen];exact J _ _ hK'
 ·exact absurd h7 (hk (e1.key,e1.val) (List.mem_map.2 ⟨e1,List.mem_of_getElem? h6,rfl⟩))
theorem D.gZ {w:World} {b:Nat} {es:Array MapEntry} {c:Nat} (y:w.heap[b]? = some (.map es c)) (o:Obj):w.grownBy (setBlock w b o) (some b):=
 ⟨rfl,rfl,rfl,by simp [setBlock],fun i _ hi=>heap_setBlock_other y _ (fun e=>hi (by rw [e]))⟩
theorem zO (hK:wJ P kt W S) {w:World} (hW:W w) (hg:o.guard=none) (m x y:Operand) (t e:TypeId) (a0:o.op=Op.mapUpdate t m x y) (ht:P.underlying t=some (.map kt e))
  (b:Nat) (L:List (Value × Value)) (hm:a.eval m=.map (some b)) (h:gq S b L w) (k v:Value) (hx:a.eval x=k) (hy:a.eval y=v) (hS:S k) (hk:∀ p ∈ L,p.1 ≠ k)
  (hK':∀ w',gq S b (L ++ [(k,v)]) w'→w.grownBy w' (some b)→wpList P ops Q rest (a.put o.dst undef) w'):wpList P ops Q (o :: rest) a w:=by
 obtain ⟨⟨es,ck,U,rfl⟩,h2,h3⟩:=h;refine wpList_plain hg fun K a1=>?_
 have a2:∀ e ∈ es.toList,S e.key:=fun e he=>h2 (e.key,e.val) (List.mem_map.2 ⟨e,he,rfl⟩)
 rcases iZ hK hW hS es.toList a2 with ⟨h5,h6⟩ | ⟨i,e1,h5,h6,h7⟩
 ·have J:(Instr.mapUpdate t (.map (some b)) k v).run P w=.ok () (setBlock w b (.map (es.push ⟨k,v,ck⟩) (ck+1))):=by
   simp [Instr.mapUpdate,run_underlying ht,MapKept.run_getObj_map U,hK.check w false hS,h5,MapKept.run_setObj_map _ U,Result.andThen,setBlock]
  unfold Oper.wp;simp [execOp,a0,hm,hx,hy,J,Result.andThen];refine a1 _ _ (hK' _ ⟨⟨_,_,heap_setBlock_same U _,by simp⟩,?_,?_⟩ (gZ U _))
  ·intro p I
   rcases μ.1 I with I | I
   ·exact h2 p I
   ·rw [ώ.1 I]
    exact hS
  ·refine List.pairwise_append.2 ⟨h3,List.pairwise_singleton _ _,fun p I q hq=>?_⟩
   rw [ώ.1 hq];exact hk p I
 ·exact absurd h7 (hk (e1.key,e1.val) (List.mem_map.2 ⟨e1,List.mem_of_getElem? h6,rfl⟩))
theorem D.Hu {α:Type} {A B:List α} {p:α}:(A ++ p :: B)[A.length]? = some p:=by simp
theorem Fz (hK:wJ P kt W S) {w:World} (hW:W w) {t e:TypeId} (ht:P.underlying t=some (.map kt e))
  {b:Nat} {A B:List (Value × Value)} {k u:Value} (v:Value) (h:gq S b (A ++ (k,u) :: B) w):∃ w',(Instr.mapUpdate t (.map (some b)) k v).run P w=.ok () w'∧gq S b (A ++ (k,v) :: B) w'∧w.grownBy w' (some b):=by
 obtain ⟨⟨es,ck,hb,hL⟩,h2,h3⟩:=h;have hS:S k:=h2 (k,u) (by simp);have a2:∀ e ∈ es.toList,S e.key:=fun e he=>h2 (e.key,e.val) (hL ▸ List.mem_map.2 ⟨e,he,rfl⟩)
 rcases iZ hK hW hS es.toList a2 with ⟨h5,U⟩ | ⟨i,e1,h5,U,h7⟩
 ·have:(k,u) ∈ es.toList.map (fun e=>(e.key,e.val)):=by rw [hL]; simp
  obtain ⟨e0,a3,a0⟩:=List.mem_map.1 this;simp only [Prod.mk.injEq] at a0;exact absurd a0.1 (U e0 a3)
 ·have a4:(A ++ (k,u) :: B)[i]? = some (e1.key,e1.val):=by rw [← hL]; simp [U]
  have a5:i=A.length:=Fv h3 a4 Hu (by simp [h7]);subst a5;have hj:es[A.length]? = some e1:=by simpa using U
  have a6:∀ w,(Instr.keyThatStays e1.key k).run P w=.ok k w:=fun w=>by simp [Instr.keyThatStays,h7,hK.same hS]
  have a1:(Instr.mapUpdate t (.map (some b)) k v).run P w=.ok () (setBlock w b (.map (es.modify A.length fun e=>{ e with key:=k,val:=v }) ck)):=by
   have I:=a6 w;rw [h7] at I;simp [Instr.mapUpdate,run_underlying ht,MapKept.run_getObj_map hb,hK.check w false hS,h5,hj,h7,I,MapKept.run_setObj_map _ hb,Result.andThen,setBlock]
  have J:((es.modify A.length (fun e=>{ e with key:=k,val:=v })).toList.map fun e=>(e.key,e.val))=A ++ (k,v) :: B:=by
   rw [Array.toList_modify,ChangeMaps.modify_eq_set _ _ _ _ U,List.map_set,hL];simp
  refine ⟨_,a1,⟨⟨_,_,heap_setBlock_same hb _,J⟩,?_,?_⟩,gZ hb _⟩
  ·intro p y
   rcases μ.1 y with y | y
   ·exact h2 p (by simp [y])
   ·rcases ύ.1 y with rfl | y
    ·exact hS
    ·exact h2 p (by simp [y])
  ·have:=List.pairwise_append.1 h3
   have h9:=List.pairwise_cons.1 this.2.1;refine List.pairwise_append.2 ⟨this.1,List.pairwise_cons.2 ⟨fun q hq=>h9.1 q hq,h9.2⟩,fun p y q hq=>?_⟩
   rcases ύ.1 hq with rfl | hq
   ·exact this.2.2 p y (k,u) (by simp)
   ·exact this.2.2 p y q (by simp [hq])
theorem FB (hK:wJ P kt W S) {w:World} (hW:W w) {t e:TypeId} (ht:P.underlying t=some (.map kt e)) (ty:TypeId)
  {b:Nat} {A B:List (Value × Value)} {k u:Value} (h:gq S b (A ++ (k,u) :: B) w):∃ w',(Builtin.delete_ #[t,kt] ty #[.map (some b),k]).run P w=.ok (.tuple #[]) w'∧gq S b (A ++ B) w'∧w.grownBy w' (some b):=by
 obtain ⟨⟨es,ck,hb,hL⟩,h2,h3⟩:=h;have hS:S k:=h2 (k,u) (by simp);have a1:∀ e ∈ es.toList,S e.key:=fun e he=>h2 (e.key,e.val) (hL ▸ List.mem_map.2 ⟨e,he,rfl⟩)
 rcases iZ hK hW hS es.toList a1 with ⟨h5,h6⟩ | ⟨i,e1,h5,h6,h7⟩
 ·have:(k,u) ∈ es.toList.map (fun e=>(e.key,e.val)):=by rw [hL]; simp
  obtain ⟨e0,a2,J⟩:=List.mem_map.1 this;simp only [Prod.mk.injEq] at J;exact absurd J.1 (h6 e0 a2)
 ·have a3:(A ++ (k,u) :: B)[i]? = some (e1.key,e1.val):=by rw [← hL]; simp [h6]
  have a4:i=A.length:=Fv h3 a3 Hu (by simp [h7]);subst a4
  have U:(Builtin.delete_ #[t,kt] ty #[.map (some b),k]).run P w=.ok (.tuple #[]) (setBlock w b (.map (es.eraseIdxIfInBounds A.length) ck)):=by
   simp [Builtin.delete_,run_underlying ht,MapKept.run_getObj_map hb,hK.check w _ hS,h5,MapKept.run_setObj_map _ hb,Result.andThen,setBlock]
  have a5:A.length < es.size:=by simpa using (List.getElem?_eq_some_iff.1 h6).1
  have y:((es.eraseIdxIfInBounds A.length).toList.map fun e=>(e.key,e.val))=A ++ B:=by
   have a0:(es.eraseIdxIfInBounds A.length).toList=es.toList.eraseIdx A.length:=by
    unfold Array.eraseIdxIfInBounds;rw [dif_pos a5];simp
   rw [a0,ChangeMaps.map_eraseIdx,hL,List.eraseIdx_append_of_length_le ν];simp
  refine ⟨_,U,⟨⟨_,_,heap_setBlock_same hb _,y⟩,?_,?_⟩,gZ hb _⟩
  ·intro p I
   rcases μ.1 I with I | I
   ·exact h2 p (by simp [I])
   ·exact h2 p (by simp [I])
  ·have:=List.pairwise_append.1 h3
   have h9:=List.pairwise_cons.1 this.2.1;exact List.pairwise_append.2 ⟨this.1,h9.2,fun p I q hq=>this.2.2 p I q (by simp [hq])⟩
end
end
theorem D.zQ {P:Program} {kt e:TypeId} {i:TypeInfo} (hk:P.underlying kt=some (.pointer e)) (hi:P.info? e=some i) (I:i.size ≠ 0) {w:World} {a b:Addr} {J U:Array Value} {ta tb:TypeId}
  (h1:w.heap[a.block]? = some (.cells J ta (0,0))) (h2:w.heap[b.block]? = some (.cells U tb (0,0))) (d:Nat):(Op.equalIn (d+1) kt (.pointer (some a)) (.pointer (some b))).run P w=.ok (decide (a=b)) w:=by
 by_cases y:a=b
 ·subst y
  simp [Op.equalIn,run_underlying hk,typeInfo,hi,sizeOf,run_sameAddr_same]
 ·simp [Op.equalIn,run_underlying hk,typeInfo,hi,sizeOf,run_sameAddr_other w y h1 h2,I,y]
theorem D.Qu {P:Program} {kt e:TypeId} {i:TypeInfo} (hk:P.underlying kt=some (.pointer e)) (hi:P.info? e=some i) (I:i.size ≠ 0) (bs:List Nat):
  wJ P kt (fun w=>∀ b ∈ bs,∃ cs t,w.heap[b]? = some (.cells cs t (0,0))) (fun v=>∃ a:Addr,v=.pointer (some a)∧a.block ∈ bs):=by
 have J:Ud P kt (fun w=>∀ b ∈ bs,∃ cs t,w.heap[b]? = some (.cells cs t (0,0))) (fun v=>∃ a:Addr,v=.pointer (some a)∧a.block ∈ bs):=by
  refine ⟨⟨_,hk,?_⟩,?_⟩
  ·rintro a b ⟨a,rfl,_⟩ ⟨b,rfl,_⟩
   rfl
  ·rintro w a b y ⟨a,rfl,ha⟩ ⟨b,rfl,U⟩
   refine ⟨decide (a=b),?_,by simp⟩;obtain ⟨ca,ta,h1⟩:=y _ ha;obtain ⟨cb,tb,h2⟩:=y _ U;exact zQ hk hi I h1 h2 9999
 refine ⟨?_,fun y k hk es hs=>D7 J y hk es hs,?_⟩
 ·rintro w em v ⟨a,rfl,_⟩
  unfold Instr.checkKey;simp [run_underlying hk,Result.andThen]
 ·rintro v ⟨a,rfl,_⟩
  simp [Instr.sameBits]
end
section
open Go.RowKit Go.Conc D
def D.TF (P:Program) (ops:Array Oper) (is:List Nat) (Q:Exit→Act→World→Prop) (a:Act) (w:World):Prop:=
 ∀ (b:Frame) (k:List Item) (cs:List Frame),∃ e y w',Q e y w'∧Arrives P (lone (b.at a (.inRegion ops is :: k)) cs w) b k cs e y w'
section
variable {P:Program} {ops:Array Oper} {Q:Exit→Act→World→Prop} {a:Act} {w:World}
theorem D.uU {id:Nat} (h:TF P ops (List.range ops.size) Q a w):(Code.region id ops false).wp P Q a w:=
 fun b k cs=>let ⟨e,a',w',q,r⟩:=h b k cs; ⟨e,a',w',q,.of_steps (.one step_region) r⟩
theorem D.FC {is:List Nat} (h:wpOps P ops Q is a w):TF P ops is Q a w:=fun b k cs=>wp_ops _ a w h b k cs
theorem D.sF {i:Nat} {rest:List Nat} {o:Oper} {v:Value} {w':World} (J:ops[i]? = some o) (U:o.guard=none) (hr:(execOp a.eval o).run P w=.ok (.value v) w') (h:TF P ops rest Q (a.put o.dst v) w'):TF P ops (i :: rest) Q a w:=fun b k cs=>by
 obtain ⟨e,a',w2,q,r⟩:=h b k cs;have hw:Region.wanted o (yielded ops a.tmps)=true:=by unfold Region.wanted; rw [U]
 have I:=stepG_op (P:=P) (b:=b) (k:=k) (cs:=cs) (w:=w) (rest:=rest) J hw;have y:(b.at a (.inRegion ops (i :: rest) :: k)).finish v=b.at (a.put o.dst v) (.inRegion ops rest :: k):=by rw [Frame.finish_at,J]; rfl
 refine ⟨e,a',w2,q,.of_steps (.one (step_lone_go ?_)) r⟩;rw [I,← y];simp [stepG.apply,hr]
theorem D.stepG_comm {b:Frame} {k:List Item} {cs:List Frame} {i:Nat} {rest:List Nat} {o:Oper} {cases:Array CommCase} {y:Bool} {shape:CommShape} {w':World} (J:ops[i]? = some o) (U:o.guard=none)
  (hr:(execOp a.eval o).run P w=.ok (.comm cases y shape) w'):∃ es,stepG P true (G (b.at a (.inRegion ops (i :: rest) :: k)) cs) w=.comm (G (b.at a (.inRegion ops (i :: rest) :: k)) cs) cases y shape w' es:=by
 have hw:Region.wanted o (yielded ops a.tmps)=true:=by unfold Region.wanted; rw [U]
 have I:=stepG_op (P:=P) (b:=b) (k:=k) (cs:=cs) (w:=w) (rest:=rest) J hw;simp only [stepG.apply,if_true] at I;generalize he:(execOp a.eval o).runT P w #[]=re at I;have h1:re.1=.ok (.comm cases y shape) w':=by rw [← he,← hr]; exact Sem.runT_fst ..
 obtain ⟨r,es⟩:=re;dsimp only at h1;subst h1;simp at I;exact ⟨_,I⟩
theorem D.Qv {i:Nat} {rest:List Nat} {o:Oper} {v z':Value} {w':World} {c cap s r:Nat} {y:Array Value} {U:Bool} (ho:ops[i]? = some o) (hg:o.guard=none) (hr:(execOp a.eval o).run P w=.ok (.comm #[scase c v z'] true .send) w')
  (hc:w'.heap[c]? = some (.chan cap y false s r U)) (I:y.size < cap) (h:TF P ops rest Q (a.put o.dst undef) (w'.setChan c cap (y.push v) false (s+1) r U)):TF P ops (i :: rest) Q a w:=fun b k cs=>by
 obtain ⟨e,a',w2,q,r'⟩:=h b k cs;obtain ⟨es,hs⟩:=stepG_comm (b:=b) (k:=k) (cs:=cs) (rest:=rest) ho hg hr;have J:(b.at a (.inRegion ops (i :: rest) :: k)).finish undef=b.at (a.put o.dst undef) (.inRegion ops rest :: k):=by rw [Frame.finish_at,ho]; rfl
 have h1:=step_lone_send_room hs hc I;rw [J] at h1;exact ⟨e,a',w2,q,.of_steps (.one h1) r'⟩
theorem D.Qw {i:Nat} {rest:List Nat} {o:Oper} {z:Value} {w':World} {c cap s r:Nat} {y:Array Value} {U closed ok:Bool} (ho:ops[i]? = some o) (hg:o.guard=none) (hr:(execOp a.eval o).run P w=.ok (.comm #[rcase c z] true (.recv ok)) w')
  (hc:w'.heap[c]? = some (.chan cap y closed s r U)) (I:0 < y.size) (h:TF P ops rest Q (a.put o.dst (got ok (y.getD 0 undef) true)) (w'.setChan c cap (y.extract 1 y.size) closed s (r+1) U)):TF P ops (i :: rest) Q a w:=fun b k cs=>by
 obtain ⟨e,a',w2,q,r'⟩:=h b k cs;obtain ⟨es,hs⟩:=stepG_comm (b:=b) (k:=k) (cs:=cs) (rest:=rest) ho hg hr;have J:∀ v,(b.at a (.inRegion ops (i :: rest) :: k)).finish v=b.at (a.put o.dst v) (.inRegion ops rest :: k):=fun v=>by rw [Frame.finish_at,ho]; rfl
 have h1:=step_lone_recv_buf ok hs hc I;rw [J] at h1;exact ⟨e,a',w2,q,.of_steps (.one h1) r'⟩
theorem D.Qx {i:Nat} {rest:List Nat} {o:Oper} {z:Value} {w':World} {c cap s r:Nat} {J ok:Bool} (I:ops[i]? = some o) (U:o.guard=none) (hr:(execOp a.eval o).run P w=.ok (.comm #[rcase c z] true (.recv ok)) w')
  (hc:w'.heap[c]? = some (.chan cap #[] true s r J)) (h:TF P ops rest Q (a.put o.dst (got ok z false)) w'):TF P ops (i :: rest) Q a w:=fun b k cs=>by
 obtain ⟨e,a',w2,q,r'⟩:=h b k cs;obtain ⟨es,hs⟩:=stepG_comm (b:=b) (k:=k) (cs:=cs) (rest:=rest) I U hr;have y:∀ v,(b.at a (.inRegion ops (i :: rest) :: k)).finish v=b.at (a.put o.dst v) (.inRegion ops rest :: k):=fun v=>by rw [Frame.finish_at,I]; rfl
 have h1:=step_lone_recv_shut ok hs hc;rw [y] at h1;exact ⟨e,a',w2,q,.of_steps (.one h1) r'⟩
end
end
section
open Go.RowKit Go.Shelf
abbrev bT:TypeId:=95
theorem infoByte:(Tryz.prog.info? 5).map (fun i=>(i.zero,i.size,i.bytes))=some (some (.int .u8 0),1,1):=by kernel_rfl
theorem sizeBuilder:(Tryz.prog.info? bT).map (·.size)=some 2:=by kernel_rfl
theorem neB5:bT ≠ 5:=by decide
theorem liesBuilder:liesAt Tryz.prog Tryz.prog.depth bT (2 / Tryz.prog.cellsOf bT) 0 bT 1=true:=by kernel_rfl
theorem zS (b:Nat) (w:World) (h0:w.cell? ⟨b,0,none⟩=some (.pointer none)) (y:w.shape? b=some (bT,2)) (U:w.frozen? ⟨b,0,none⟩=false):
  Calls Tryz.prog 156 #[.pointer (some ⟨b,0,none⟩)] w fun e w'=>e=.returned (.tuple #[])∧w'=w.setCell ⟨b,0,none⟩ (.pointer (some ⟨b,0,none⟩)):=by
 obtain ⟨j,J,I⟩:=Option.map_eq_some_iff.1 sizeBuilder
 go_enter Tryz.func156,Tryz.ntmps156
 go_wp2;rw [Lib.run_to_unsafe w ⟨b,0,none⟩ Tryz.underlying93 Tryz.underlying279 J (by rw [I]; decide) y (Θ 1)];simp only [Result.andThen];rw [Oper.upon_value];go_wp2;rw [run_callFunc_extern Tryz.func199 (by kernel_rfl) (by kernel_rfl) (by kernel_rfl) (e:=Extern.AbiNoEscape.same) (by kernel_rfl)];rw [Lib.run_noEscape];simp only [Result.andThen];rw [Oper.upon_value];go_wp2;rw [Lib.run_from_unsafe w ⟨b,0,none⟩ Tryz.underlying279 Tryz.underlying93 J y liesBuilder];simp only [Result.andThen];rw [Oper.upon_value];go_wp2
 go_end0
 exact ⟨rfl,rfl⟩
theorem Bj (b:Nat) (w:World) (h0:w.cell? ⟨b,0,none⟩=some (.pointer (some ⟨b,0,none⟩))):
  Calls Tryz.prog 156 #[.pointer (some ⟨b,0,none⟩)] w fun e w'=>e=.returned (.tuple #[])∧w'=w:=by
 obtain ⟨j,y,_⟩:=Option.map_eq_some_iff.1 sizeBuilder
 go_enter Tryz.func156,Tryz.ntmps156
 go_wp2;rw [Lib.run_neq_ptr_same w _ Tryz.underlying93 y];go_wp2
 go_end0
 exact ⟨rfl,rfl⟩
theorem zq (B b:Nat) (bs:List Value) (w:World) (h:Lib.IsBuilderF bT 5 B b bs w):
  Calls Tryz.prog 156 #[.pointer (some ⟨b,0,none⟩)] w fun e w'=>e=.returned (.tuple #[])∧(Lib.BuilderAtF bT 5 B b (.pointer (some ⟨b,0,none⟩)) bs w'∧Below B w w'∧Lib.OthersKept 5 (some b) w w'):=by
 rcases h with h | h
 ·refine (zS b w h.cell0 h.shape h.frozen0).mono ?_
  rintro e w' ⟨rfl,rfl⟩;exact ⟨rfl,h.used _,(Below.refl B w).setCell (p:=⟨b,0,none⟩) h.1 _,(Lib.OthersKept.refl _ _ w).setCell ⟨b,0,none⟩ rfl _⟩
 ·refine (Bj b w h.cell0).mono ?_
  rintro e w' ⟨rfl,rfl⟩;exact ⟨rfl,h,Below.refl B _,Lib.OthersKept.refl _ _ _⟩
theorem Hw (B b:Nat) (bs:List Value) (c:Int) (w:World) (h:Lib.IsBuilderF bT 5 B b bs w) (hlen:bs.length+1≤140737488355328) (a8:B≤w.heap.size):
  Calls Tryz.prog 101 #[.pointer (some ⟨b,0,none⟩),.int .u8 c] w fun e w'=>e=.returned .nilIface∧(Lib.BuilderAtF bT 5 B b (.pointer (some ⟨b,0,none⟩)) (bs ++ [.int .u8 c]) w'∧Below B w w'∧Lib.OthersKept 5 (some b) w w'):=by
 obtain ⟨i0,hi,a2,a3,a4⟩:=info_parts infoByte
 go_enter Tryz.func101,Tryz.ntmps101
 go_wp2_with (go_at_call 156; refine (zq B b bs _ h).mono ?_)
 rintro e w1 ⟨rfl,h1,U,a5⟩;obtain ⟨hB,v,a0,I,a6⟩:=h1;have c0:w1.cell? ⟨b,0,none⟩=some (.pointer (some ⟨b,0,none⟩)):=by rw [Lib.cell_of_heap a0]; rfl
 have c1:w1.cell? ⟨b,1,none⟩=some v:=by rw [Lib.cell_of_heap a0]; rfl
 go_wp2_with (at_builtin; refine wpList_append_ownF _ rfl _ _ 49 rfl B 5 i0 (.int .u8 0) 1 1 Tryz.underlying49 hi a2 a3 a4 rfl (by decide) _ _ _ rfl (I.alloc _) ⟨w1.heap.size,0,none⟩ 1 1 [.int .u8 c] rfl rfl ?c1 ?c2 ?c3 ?c4 ?c5 ?_)
 case c1=>
  intro j u hj
  match j,hj with
  | 0,hj=>simp at hj; subst hj; simp [Addr.add]
 case c2=>intro u hu; simp at hu; subst hu; rfl
 case c3=>unfold maxLen; omega
 case c4=>omega
 case c5=>have:=U.size; simp; omega
 intro v' w2 J y _
 have a7:b < w1.heap.size:=by
  rcases Nat.lt_or_ge b w1.heap.size with h' | h'
  ·exact h'
  ·simp [Array.getElem?_eq_none h'] at a0
 have a1:w2.heap[b]? = some (.cells #[.pointer (some ⟨b,0,none⟩),v] bT (0,0)):=by
  rw [y.block b (by simp; omega) (fun e=>a6 e.symm),Lib.alloc_old w1 _ b a7];exact a0
 have d0:w2.cell? ⟨b,0,none⟩=some (.pointer (some ⟨b,0,none⟩)):=by rw [Lib.cell_of_heap a1]; rfl
 have d1:w2.cell? ⟨b,1,none⟩=some v:=by rw [Lib.cell_of_heap a1]; rfl
 have f1:w2.frozen? ⟨b,1,none⟩=false:=Lib.frozen_of_heap a1 1
 obtain ⟨g,cap,rfl⟩:∃ g cap,v'=.slice (some ⟨g,0,none⟩) (bs.length+1) cap:=by
  rcases J.2 with ⟨_,h0⟩ | ⟨g,cap,a9,fz,hv,_⟩
  ·omega
  ·exact ⟨g,cap,hv⟩
 go_wp2;go_ret;refine ⟨rfl,?_,?_,((a5.alloc _).grown y (Lib.ownsRowF_kind (I.alloc _))).setCell ⟨b,1,none⟩ rfl _⟩
 ·exact Lib.BuilderAtF.put (T:=bT) (e:=5) hB a1 (bs':=bs ++ [.int .u8 c]) (by simpa using J) neB5
 ·exact ((U.alloc (by have:=U.size; omega) _).grown y (by have:=U.size; simp; omega) (fun k hk=>(I.lt k hk).1)).setCell (p:=⟨b,1,none⟩) hB _
theorem Dz (B b:Nat) (bs:List Value) (s:ByteArray) (w:World) (h:Lib.IsBuilderF bT 5 B b bs w) (hlen:bs.length+s.size≤140737488355328) (a8:B≤w.heap.size):
  Calls Tryz.prog 93 #[.pointer (some ⟨b,0,none⟩),.string s] w fun e w'=>e=.returned (.tuple #[.int .i64 s.size,.nilIface])∧(Lib.BuilderAtF bT 5 B b (.pointer (some ⟨b,0,none⟩)) (bs ++ Lib.strCells s) w'∧Below B w w'∧Lib.OthersKept 5 (some b) w w'):=by
 obtain ⟨i0,hi,a2,a3,a4⟩:=info_parts infoByte
 go_enter Tryz.func93,Tryz.ntmps93
 go_wp2_with (go_at_call 156; refine (zq B b bs _ h).mono ?_)
 rintro e w1 ⟨rfl,h1,a1,a5⟩;obtain ⟨hB,v,U,I,a6⟩:=h1;have c0:w1.cell? ⟨b,0,none⟩=some (.pointer (some ⟨b,0,none⟩)):=by rw [Lib.cell_of_heap U]; rfl
 have c1:w1.cell? ⟨b,1,none⟩=some v:=by rw [Lib.cell_of_heap U]; rfl
 go_wp2_with (at_builtin; refine Lib.wpList_append_own_stringF _ rfl _ _ 49 9 rfl B 5 i0 Tryz.underlying49 Tryz.underlying9 hi a2 a3 a4 _ _ _ rfl I s rfl ?c3 ?c4 ?c5 ?_)
 case c3=>unfold maxLen; omega
 case c4=>omega
 case c5=>have:=a1.size; omega
 intro v' w2 J y _
 have a7:b < w1.heap.size:=by
  rcases Nat.lt_or_ge b w1.heap.size with h' | h'
  ·exact h'
  ·simp [Array.getElem?_eq_none h'] at U
 have a0:w2.heap[b]? = some (.cells #[.pointer (some ⟨b,0,none⟩),v] bT (0,0)):=by
  rw [y.block b a7 (fun e=>a6 e.symm)];exact U
 have d0:w2.cell? ⟨b,0,none⟩=some (.pointer (some ⟨b,0,none⟩)):=by rw [Lib.cell_of_heap a0]; rfl
 have d1:w2.cell? ⟨b,1,none⟩=some v:=by rw [Lib.cell_of_heap a0]; rfl
 have f1:w2.frozen? ⟨b,1,none⟩=false:=Lib.frozen_of_heap a0 1
 obtain ⟨ao,n',cap,rfl⟩:∃ ao n' cap,v'=.slice ao n' cap:=by
  rcases J.2 with ⟨hv,_⟩ | ⟨g,cap,a9,fz,hv,_⟩
  ·exact ⟨_,_,_,hv⟩
  ·exact ⟨_,_,_,hv⟩
 go_wp2;go_ret2;refine ⟨rfl,?_,?_,(a5.grown y (Lib.ownsRowF_kind I)).setCell ⟨b,1,none⟩ rfl _⟩
 ·exact Lib.BuilderAtF.put (T:=bT) (e:=5) hB a0 (bs':=bs ++ Lib.strCells s) (by simpa [Lib.strCells_length] using J) neB5
 ·exact (a1.grown y (by have:=a1.size; omega) (fun k hk=>(I.lt k hk).1)).setCell (p:=⟨b,1,none⟩) hB _
abbrev TG (B b:Nat) (l:List UInt8) (w:World):Prop:=Lib.IsBuilderF bT 5 B b (Lib.byteCells l) w
structure Wrote (B b:Nat) (l:List UInt8) (w w':World):Prop where
 bld:TG B b l w'
 below:Below B w w'
 kept:Lib.OthersKept 5 (some b) w w'
theorem Wrote.block {B b k:Nat} {l:List UInt8} {w w':World} (h:Wrote B b l w w') {c:Array Value} {e:TypeId} {fz:Nat × Nat} (hk:w.heap[k]? = some (.cells c e fz)) (y:k ≠ b) (he:e ≠ 5):w'.heap[k]? = some (.cells c e fz):=
 h.kept k _ hk (fun x=>y (by injection x)) (fun J I x=>he (by injection x))
theorem VU (s:ByteArray):s.data.toList.length=s.size:=Array.length_toList
theorem TG.below {B b:Nat} {l:List UInt8} {w w':World} (h:TG B b l w) (hb:Below w.heap.size w w'):TG B b l w':=by
 have y:∀ p,Lib.BuilderAtF bT 5 B b p (Lib.byteCells l) w→Lib.BuilderAtF bT 5 B b p (Lib.byteCells l) w':=by
  rintro p ⟨hB,v,I,⟨h1,J⟩,U⟩;refine ⟨hB,v,by rw [hb.block b (ψ I)]; exact I,⟨h1,?_⟩,U⟩
  rcases J with J | ⟨g,cap,a0,fz,hv,hg,hh,r⟩
  ·exact .inl J
  ·exact .inr ⟨g,cap,a0,fz,hv,hg,by rw [hb.block g (ψ hh)]; exact hh,r⟩
 exact h.imp (y _) (y _)
theorem Ue (w:World):TG w.heap.size w.heap.size [] (w.alloc (.cells #[.pointer none,.slice none 0 0] bT)):=Lib.IsBuilderF.of (Lib.fresh_isBuilder bT 5 w)
theorem Qy (B b:Nat) (l:List UInt8) (c:UInt8) (n:Int) (hc:n=c.toNat) (w:World) (h:TG B b l w) (hlen:l.length≤1073741824) (y:B≤w.heap.size):
  Calls Tryz.prog 101 #[.pointer (some ⟨b,0,none⟩),.int .u8 n] w fun e w'=>e=.returned .nilIface∧Wrote B b (l ++ [c]) w w':=by
 refine (Hw B b _ n w h (by rw [Lib.byteCells_length]; omega) y).mono fun e w' h=>?_
 obtain ⟨he,h1,I,J⟩:=h;refine ⟨he,⟨?_,I,J⟩⟩;show Lib.IsBuilderF _ _ _ _ _ _;rw [Lib.byteCells_append,show Lib.byteCells [c] = [Value.int .u8 n] from by rw [hc]; rfl];exact .inr h1
theorem Va (B b:Nat) (l:List UInt8) (s:ByteArray) (w:World) (h:TG B b l w) (hlen:l.length≤1073741824) (U:s.size≤1073741824) (y:B≤w.heap.size):
  Calls Tryz.prog 93 #[.pointer (some ⟨b,0,none⟩),.string s] w fun e w'=>e=.returned (.tuple #[.int .i64 s.size,.nilIface])∧Wrote B b (l ++ s.data.toList) w w':=by
 refine (Dz B b _ s w h (by rw [Lib.byteCells_length]; omega) y).mono fun e w' h=>?_
 obtain ⟨he,h1,I,J⟩:=h;refine ⟨he,⟨?_,I,J⟩⟩;show Lib.IsBuilderF _ _ _ _ _ _;rw [Lib.byteCells_append];exact .inr h1
theorem VW (B b:Nat) (l:List UInt8) (w:World) (h:TG B b l w) (y:B≤w.heap.size):
  Calls Tryz.prog 56 #[.pointer (some ⟨b,0,none⟩)] w fun e w'=>e=.returned (.string ⟨l.toArray⟩)∧Wrote B b l w w':=by
 refine (Tryz.Builder_String_any_k B b l w h y).mono fun e w' h=>?_
 obtain ⟨he,h1,I,J⟩:=h;exact ⟨he,⟨h1,I,J⟩⟩
end
section
namespace D
def nJ (ps:List Pt):Bool:=decide (ps.length≤4) && ps.all fun p=>aZ p.atom
def dS (r:Ru):Bool:=nJ r.body && aZ r.head
end D
end
namespace D
open Go Go.RowKit
def Bl (base e:Nat) (w:World) (v:Value) (n:Nat) (L:List Value) (o:Option Nat):Prop:=(∃ A cap,v=.slice A n cap)∧w.ownsRow base e 1 v n L∧(∀ b,v.ownBlock=some b→o=some b)
def Ns (e:Nat) (w:World) (v x:Value) (o:Option Nat):Prop:=∃ l,v=.slice (some ⟨l,0,none⟩) 1 1∧w.heap[l]? = some (.cells #[x] e (0,0))∧o=some l
def Hy (base:Nat) (w:World) (o:Option Nat):Prop:=∀ b,o=some b→base≤b∧b < w.heap.size
def kC (o p:Option Nat):Prop:=∀ b,o=some b→p ≠ some b
theorem qP {w w':World} {base e size n:Nat} {v:Value} {L:List Value} (h:w.ownsRow base e size v n L) (hk:∀ b,v.ownBlock=some b→w'.heap[b]? = w.heap[b]?):w'.ownsRow base e size v n L:=by
 refine ⟨h.1,h.2.imp id ?_⟩;rintro ⟨g,cap,y,hv,I,J,r⟩;exact ⟨g,cap,y,hv,I,by rw [hk g (by rw [hv]; rfl)]; exact J,r⟩
theorem Bl.keep {base e:Nat} {w w':World} {v:Value} {n:Nat} {L:List Value} {o:Option Nat} (h:Bl base e w v n L o) (hk:∀ b,o=some b→w'.heap[b]? = w.heap[b]?):Bl base e w' v n L o:=
 ⟨h.1,qP h.2.1 fun b y=>hk b (h.2.2 b y),h.2.2⟩
theorem Ns.keep {e:Nat} {w w':World} {v x:Value} {o:Option Nat} (h:Ns e w v x o) (hk:∀ b,o=some b→w'.heap[b]? = w.heap[b]?):Ns e w' v x o:=by
 obtain ⟨l,h1,y,rfl⟩:=h;exact ⟨l,h1,by rw [hk l rfl]; exact y,rfl⟩
theorem Hy.keep {base:Nat} {w w':World} {o:Option Nat} (h:Hy base w o) (I:w.heap.size≤w'.heap.size):Hy base w' o:=fun b y=>⟨(h b y).1,κ (h b y).2 I⟩
theorem kC.new {base:Nat} {w:World} {o:Option Nat} (h:Hy base w o):kC o (some w.heap.size):=fun b y e=>by have:=(h b y).2; simp at e; omega
theorem kC.symm {o p:Option Nat} (h:kC o p):kC p o:=fun b y e=>h b e y
structure qL (base e n:Nat) (L:List Value) (x:Value) (be br bs bf:Bool) (ve vr vs vf:Value) (o1 o2:Option Nat) (w:World):Prop where
 e_:be=true→br=false→Bl base e w ve 0 [] o1
 r_:br=true→bf=false→Bl base e w vr n L o1
 s_:bs=true→bf=false→Ns e w vs x o2
 f_:bf=true→Bl base e w vf (n+1) (L ++ [x]) o1
 i1:Hy base w o1
 i2:Hy base w o2
 d:kC o1 o2
 hr:br=true→be=true
 hf:bf=true→br=true∧bs=true
section
variable {base e n:Nat} {L:List Value} {x:Value} {be br bs bf:Bool} {ve vr vs vf:Value} {o1 o2:Option Nat} {w w':World}
theorem qL.start:qL base e n L x false false false false ve vr vs vf none none w:=
 ⟨(fun h=>by cases h),(fun h=>by cases h),(fun h=>by cases h),(fun h=>by cases h),((fun b h=>by cases h)),((fun b h=>by cases h)),((fun b h=>by cases h)),(fun h=>by cases h),(fun h=>by cases h)⟩
theorem qL.keep (h:qL base e n L x be br bs bf ve vr vs vf o1 o2 w) (y:w.heap.size≤w'.heap.size) (h1:∀ b,o1=some b→w'.heap[b]? = w.heap[b]?) (I:∀ b,o2=some b→w'.heap[b]? = w.heap[b]?):
  qL base e n L x be br bs bf ve vr vs vf o1 o2 w':=
 ⟨fun a b=>(h.e_ a b).keep h1,fun a b=>(h.r_ a b).keep h1,fun a b=>(h.s_ a b).keep I,fun a=>(h.f_ a).keep h1,h.i1.keep y,h.i2.keep y,h.d,h.hr,h.hf⟩
theorem qL.below (h:qL base e n L x be br bs bf ve vr vs vf o1 o2 w) (y:Below w.heap.size w w'):qL base e n L x be br bs bf ve vr vs vf o1 o2 w':=
 h.keep y.size (fun b I=>y.block b (h.i1 b I).2) fun b J=>y.block b (h.i2 b J).2
theorem qL.beside (h:qL base e n L x be br bs bf ve vr vs vf o1 o2 w) {o:Option Nat} (J:w.grownBy w' o) (U:w.heap.size≤w'.heap.size) (h1:kC o o1) (h2:kC o o2):qL base e n L x be br bs bf ve vr vs vf o1 o2 w':=
 h.keep U (fun b y=>J.block b (h.i1 b y).2 fun I=>h1 b I.symm y) fun b y=>J.block b (h.i2 b y).2 fun I=>h2 b I.symm y
theorem qL.Qz (h:qL base e n L x false br bs bf ve vr vs vf o1 o2 w) (y:base≤w.heap.size):qL base e n L x true br bs bf (.slice (some ⟨w.heap.size,0,none⟩) 0 0) vr vs vf (some w.heap.size) o2 (w.alloc (.cells #[] e)):=by
 have U:Below w.heap.size w (w.alloc (.cells #[] e)):=ζ
 have I:br=false:=by cases br with
  | false=>rfl
  | true=>exact absurd (h.hr rfl) (by simp)
 have J:bf=false:=by cases bf with
  | false=>rfl
  | true=>rw [I] at h; exact absurd (h.hf rfl).1 (by simp)
 subst I J;refine ⟨fun _ _=>⟨⟨_,_,rfl⟩,yx (ω w _) y,fun b y=>by simpa [Value.ownBlock] using y⟩,(fun h=>by cases h),fun a b=>(h.s_ a b).keep fun b y=>U.block b (h.i2 b y).2,(fun h=>by cases h),fun b y=>?_,h.i2.keep U.size,(kC.new h.i2).symm,fun _=>rfl,(fun h=>by cases h)⟩;simp at y;subst y;simp;exact y
theorem qL.stepS (h:qL base e n L x be br false bf ve vr vs vf o1 o2 w) (y:base≤w.heap.size):qL base e n L x be br true bf ve vr (.slice (some ⟨w.heap.size,0,none⟩) 1 1) vf o1 (some w.heap.size) (w.alloc (.cells #[x] e)):=by
 have J:Below w.heap.size w (w.alloc (.cells #[x] e)):=ζ;have hk:=fun b y=>J.block b (h.i1 b y).2
 have I:bf=false:=by cases bf with
  | false=>rfl
  | true=>exact absurd (h.hf rfl).2 (by simp)
 subst I;refine ⟨fun a b=>(h.e_ a b).keep hk,fun a b=>(h.r_ a b).keep hk,fun _ _=>⟨_,rfl,ω w _,rfl⟩,(fun h=>by cases h),h.i1.keep J.size,fun b y=>?_,kC.new h.i1,h.hr,(fun h=>by cases h)⟩;simp at y;subst y;simp;exact y
theorem qL.dZ (h:qL base e n L x true false bs bf ve vr vs vf o1 o2 w) (y:base≤w.heap.size) {A:Option Addr} {cap:Nat} (I:w'.ownsRow base e 1 (.slice A n cap) n L) (hg:w.grownBy w' ve.ownBlock) (hs:w.heap.size≤w'.heap.size)
  (J:(Value.slice A n cap).ownBlock=ve.ownBlock∨(Value.slice A n cap).ownBlock=some w.heap.size) (hin:Hy base w' (Value.slice A n cap).ownBlock):
  qL base e n L x true true bs bf ve (.slice A n cap) vs vf (Value.slice A n cap).ownBlock o2 w':=by
 have a0:bf=false:=by cases bf with
  | false=>rfl
  | true=>exact absurd (h.hf rfl).1 (by simp)
 subst a0;have hE:=h.e_ rfl rfl;have a1:∀ b,o2=some b→w'.heap[b]? = w.heap[b]?:=fun b y=>hg.block b (h.i2 b y).2 fun e'=>h.d b (hE.2.2 b e'.symm) y
 refine ⟨(fun _ h=>by cases h),fun _ _=>⟨⟨_,_,rfl⟩,I,fun b y=>y⟩,fun a b=>(h.s_ a b).keep a1,(fun h=>by cases h),hin,h.i2.keep hs,fun b y U=>?_,fun _=>rfl,(fun h=>by cases h)⟩
 rcases J with hl | hl
 ·rw [hl] at y
  exact h.d b (hE.2.2 b y) U
 ·rw [hl] at y
  have:=(h.i2 b U).2;simp at y;omega
theorem qL.QA (h:qL base e n L x true true true false ve vr vs vf o1 o2 w) (y:base≤w.heap.size) {A:Option Addr} {cap:Nat} (I:w'.ownsRow base e 1 (.slice A (n+1) cap) (n+1) (L ++ [x])) (hg:w.grownBy w' vr.ownBlock) (hs:w.heap.size≤w'.heap.size)
  (J:(Value.slice A (n+1) cap).ownBlock=vr.ownBlock∨(Value.slice A (n+1) cap).ownBlock=some w.heap.size) (hin:Hy base w' (Value.slice A (n+1) cap).ownBlock):
  qL base e n L x true true true true ve vr vs (.slice A (n+1) cap) (Value.slice A (n+1) cap).ownBlock o2 w':=by
 have hE:=h.r_ rfl rfl;refine ⟨(fun _ h=>by cases h),(fun _ h=>by cases h),(fun _ h=>by cases h),fun _=>⟨⟨_,_,rfl⟩,I,fun b y=>y⟩,hin,h.i2.keep hs,fun b y U=>?_,fun _=>rfl,fun _=>⟨rfl,rfl⟩⟩
 rcases J with hl | hl
 ·rw [hl] at y
  exact h.d b (hE.2.2 b y) U
 ·rw [hl] at y
  have:=(h.i2 b U).2;simp at y;omega
end
theorem ja {base e size n:Nat} {w:World} {v:Value} {L:List Value} (h:w.ownsRow base e size v n L):Hy base w v.ownBlock:=fun b y=>by
 rcases h.2 with ⟨rfl,_⟩ | ⟨g,cap,I,rfl,J,U,_⟩
 ·simp [Value.ownBlock] at y
 ·have:g=b:=by simpa [Value.ownBlock] using y
  subst this;exact ⟨J,ψ U⟩
end D
end Go.Proofs.YtlmngncogomgeaaGreatDoor
