/- Of the proof of FnEvalNeeds: Iz, eU, SortS. -/
import Derived.Test.YtkjinanbccloeaaGreatDoorM10
import Derived.Test.YtkjinanbccloeaaGreatDoorM11
import Derived.Lib.OwnBridge
import Derived.Sort.OwnSorted
set_option linter.unusedVariables false
namespace Go.Proofs.YtkjinanbccloeaaGreatDoor
section
open Go.RowKit Go.ChangeMaps Go.MapKept D
def D.isStr (v:Value):Prop:=∃ s:ByteArray,v=.string s∧s.size≤maxLen
theorem D.lI:Iz Tryz.prog 9 (fun _=>True) isStr:=by
 have K:=Go.WideMaps.string_law (P:=Tryz.prog) Tryz.underlying9;have y:∀ {s:ByteArray},s.size≤maxLen→keyOf Tryz.prog 9 (.string s)=some (.string s.data.toList):=fun h=>Go.WideMaps.keyOf_string_mk Tryz.underlying9 h
 refine ⟨?_,?_,?_⟩
 ·rintro w U v ⟨s,rfl,I⟩
  exact K.check w U (y I)
 ·rintro w _ k ⟨s,rfl,I⟩ es J
  exact K.find w (y I) es fun e he=>by
   obtain ⟨s',h1,h2⟩:=J e he;exact ⟨_,by rw [h1]; exact y h2⟩
 ·rintro v ⟨s,rfl,_⟩
  simp [Instr.sameBits]
structure D.WK where
 name:ByteArray
 size:Nat
 place:Int
 word:ByteArray
deriving DecidableEq
def D.EL (k:WK):Value:=.agg #[.string k.name,.int .i64 k.size,.int .i64 k.place,.string k.word]
def D.Gq (v:Value):Prop:=∃ k:WK,v=EL k
theorem D.Gs {k l:WK} (h:EL k=EL l):k=l:=by
 obtain ⟨a,b,c,d⟩:=k;obtain ⟨I,y,J,U⟩:=l;simp [EL] at h;obtain ⟨rfl,h2,rfl,rfl⟩:=h;have:b=y:=by omega
 rw [this]
theorem CG:Tryz.prog.underlying 236=some (.struct (Tryz.prog.fieldsOf 236)):=by kernel_rfl
theorem VH:Tryz.prog.stoodInHeld 236=false:=by kernel_rfl
theorem VI : (Tryz.prog.fieldsOf 236).toList.map (fun f => (f.name, f.type, f.offset)) = [("name", 9, 0), ("size", 3, 1), ("at", 3, 2), ("word", 9, 3)] := by kernel_rfl
theorem D.EM : ∃ y I f2 J, (Tryz.prog.fieldsOf 236).toList = [y, I, f2, J] ∧ (y.name ≠ "_" ∧ y.type = 9 ∧ y.offset = 0) ∧ (I.name ≠ "_" ∧ I.type = 3 ∧ I.offset = 1) ∧
  (f2.name ≠ "_" ∧ f2.type = 3 ∧ f2.offset = 2) ∧ (J.name ≠ "_" ∧ J.type = 9 ∧ J.offset = 3) := by
 have h:=VI;generalize (Tryz.prog.fieldsOf 236).toList=L at h;have U:L.length=4:=by have:=congrArg List.length h; simpa using this
 match L,U,h with
 | [y,I,f2,J],_,h=>
  simp at h;obtain ⟨⟨a1,a2,a3⟩,⟨b1,b2,b3⟩,⟨c1,c2,c3⟩,d1,d2,d3⟩:=h;exact ⟨y,I,f2,J,rfl,⟨by rw [a1]; decide,a2,a3⟩,⟨by rw [b1]; decide,b2,b3⟩,⟨by rw [c1]; decide,c2,c3⟩,by rw [d1]; decide,d2,d3⟩
theorem D.VJ (d:Nat) (a b:ByteArray) (w:World):(Op.equalIn (d+1) 9 (.string a) (.string b)).run Tryz.prog w=.ok (a == b) w:=by
 simp [Op.equalIn,run_underlying Tryz.underlying9,Result.andThen]
theorem D.eq_int (d:Nat) (a b:Int) (w:World):(Op.equalIn (d+1) 3 (.int .i64 a) (.int .i64 b)).run Tryz.prog w=.ok (a == b) w:=by
 simp [Op.equalIn,run_underlying Tryz.underlying3,Result.andThen]
theorem D.Jg {cs:Array Value} {o:Nat} {v:Value} (h:cs[o]? = some v) (w:World):(part 9 cs o).run Tryz.prog w=.ok v w:=by
 simp [part,isAgg,run_underlying Tryz.underlying9,h,Result.andThen]
theorem D.Jh {cs:Array Value} {o:Nat} {v:Value} (h:cs[o]? = some v) (w:World):(part 3 cs o).run Tryz.prog w=.ok v w:=by
 simp [part,isAgg,run_underlying Tryz.underlying3,h,Result.andThen]
theorem D.UB:Vt Tryz.prog 236 (fun _=>True) Gq:=by
 refine ⟨⟨_,CG,?_⟩,?_⟩
 ·rintro a b ⟨k,rfl⟩ ⟨l,rfl⟩
  rfl
 ·rintro w a b _ ⟨k,rfl⟩ ⟨l,rfl⟩
  obtain ⟨f0,f1,f2,f3,hf,⟨a1,a2,a3⟩,⟨b1,b2,b3⟩,⟨c1,c2,c3⟩,d1,d2,d3⟩:=EM;have y:=run_equalIn_struct (P:=Tryz.prog) (w:=w) 9999 236 #[.string k.name,.int .i64 k.size,.int .i64 k.place,.string k.word] #[.string l.name,.int .i64 l.size,.int .i64 l.place,.string l.word] CG VH;refine ⟨k.name == l.name && ((k.size:Int) == (l.size:Int) && (k.place == l.place && k.word == l.word)),?_,?_⟩
  ·show (Op.equalIn 10000 _ _ _).run _ _=_
   unfold EL;rw [y,hf];simp [Op.eqFields,a1,a2,a3,b1,b2,b3,c1,c2,c3,d1,d2,d3,Jg,Jh,VJ,eq_int,Result.andThen]
   by_cases h1:k.name=l.name <;> by_cases U:(k.size:Int)=(l.size:Int) <;> by_cases I:k.place=l.place <;> by_cases J:k.word=l.word <;> simp [h1,U,I,J]
  ·constructor
   ·intro h
    simp at h;obtain ⟨h1,U,I,J⟩:=h;obtain ⟨a,b,c,d⟩:=k;obtain ⟨a',b',c',d'⟩:=l;simp only at h1 U I J;rw [h1,I,J,show b=b' by omega]
   ·intro h
    rw [Gs h];simp
theorem D.OJ (y:Bool) (v:ByteArray) (w:World):(Instr.checkKey y 9999 9 (.string v)).run Tryz.prog w=.ok () w:=by
 show (Instr.checkKey y (9998+1) _ _).run _ _=_;rw [Instr.checkKey];simp [run_underlying Tryz.underlying9,Result.andThen]
theorem D.OL (y:Bool) (v:Int) (w:World):(Instr.checkKey y 9999 3 (.int .i64 v)).run Tryz.prog w=.ok () w:=by
 show (Instr.checkKey y (9998+1) _ _).run _ _=_;rw [Instr.checkKey];simp [run_underlying Tryz.underlying3,Result.andThen]
theorem D.vU:Iz Tryz.prog 236 (fun _=>True) Gq:=by
 refine ⟨?_,fun y k I es J=>Ot UB y I es J,?_⟩
 ·rintro w U v ⟨k,rfl⟩
  obtain ⟨f0,f1,f2,f3,hf,⟨a1,a2,a3⟩,⟨b1,b2,b3⟩,⟨c1,c2,c3⟩,d1,d2,d3⟩:=EM;show (Instr.checkKey U (9999+1) _ _).run _ _=_;rw [Instr.checkKey];unfold EL;simp only [Sem.run_bind,run_underlying CG,Result.andThen_ok];rw [← Array.forIn_toList,hf];simp [a1,a2,a3,b1,b2,b3,c1,c2,c3,d1,d2,d3,Jg,Jh,OJ,OL,Result.andThen]
 ·rintro v ⟨k,rfl⟩
  simp [Instr.sameBits,EL]
end
section
open Go.RowKit Go.Maps D
theorem D.xQ:Keyed Tryz.prog 9:=string_keyed Tryz.underlying9
theorem D.Rj (w:World):(zeroValue 3).run Tryz.prog w=.ok (.int .i64 0) w:=by kernel_rfl
def D.xR (s:ByteArray):Lit:=.string s.data.toList
theorem D.mg {s:ByteArray} (h:s.size≤maxLen):keyOf Tryz.prog 9 (.string s)=some (xR s):=Go.WideMaps.keyOf_string_mk Tryz.underlying9 h
theorem D.vV {s t:ByteArray} (h:xR s=xR t):s=t:=by
 unfold xR at h
 injection h with h
 exact bytes_inj h
theorem D.xU {H:Type} {x y:Int} (h:(DataW.lit (.int .i64 x):DataW H)=.lit (.int .i64 y)):x=y:=by simpa using h
structure D.eU (b n:Nat) (L:List ByteArray) (f:ByteArray→Int) (w:World):Prop where
 own:∃ M:DataW Unit,w.ownsMap Tryz.prog 9 (plainElem Tryz.prog 3) b n M∧Maps.size M=L.length∧(∀ s,has M (xR s)=decide (s ∈ L))∧∀ s ∈ L,M.atKey (xR s) (.lit (.int .i64 0))=.lit (.int .i64 (f s))
 nd:L.Nodup
 sz:∀ s ∈ L,s.size≤maxLen
theorem D.eU.made (w:World) (f:ByteArray→Int):eU w.heap.size 0 [] f (w.alloc (.map #[] 0)):=
 ⟨⟨.map [],World.ownsMap_made _ _ _ _,rfl,fun s=>by simp [has],fun s h=>by simp at h⟩,List.nodup_nil,fun s h=>by simp at h⟩
theorem D.eU.same {b n:Nat} {L:List ByteArray} {f:ByteArray→Int} {w w':World} (h:eU b n L f w) (e:w'.heap[b]? = w.heap[b]?):eU b n L f w':=by
 obtain ⟨⟨M,⟨es,c,h1,y⟩,I⟩,J,U⟩:=h;exact ⟨⟨M,⟨es,c,e.trans h1,y⟩,I⟩,J,U⟩
theorem D.eU.mono {b n y:Nat} {L:List ByteArray} {f:ByteArray→Int} {w:World} (h:eU b n L f w) (I:n≤y):eU b y L f w:=by
 obtain ⟨⟨M,h1,J⟩,U,h5⟩:=h;exact ⟨⟨M,h1.mono I,J⟩,U,h5⟩
theorem D.eU.lt {b n:Nat} {L:List ByteArray} {f:ByteArray→Int} {w:World} (h:eU b n L f w):b < w.heap.size:=by
 obtain ⟨⟨M,h1,_⟩,_⟩:=h;exact h1.lt
theorem D.eU.below {b n:Nat} {L:List ByteArray} {f:ByteArray→Int} {w w':World} {B:Nat} (h:eU b n L f w) (y:Below B w w') (hB:b < B):eU b n L f w':=h.same (y.block b hB)
theorem D.eU.setCell {b n:Nat} {L:List ByteArray} {f:ByteArray→Int} {w:World} (h:eU b n L f w) {a:Addr} (ha:b ≠ a.block) (u:Value):eU b n L f (w.setCell a u):=
 h.same (π _ _ _ _ ha)
theorem D.eU.VK {b n:Nat} {L:List ByteArray} {f:ByteArray→Int} {w:World} (h:eU b n L f w):L.length≤n:=by
 obtain ⟨⟨M,h1,y,_⟩,_⟩:=h;have:=h1.size_le;omega
theorem D.eU.congr {b n:Nat} {L:List ByteArray} {f g:ByteArray→Int} {w:World} (h:eU b n L f w) (e:∀ s ∈ L,f s=g s):eU b n L g w:=by
 obtain ⟨⟨M,h1,I,J,U⟩,h5,h6⟩:=h;exact ⟨⟨M,h1,I,J,fun s y=>by rw [U s y,e s y]⟩,h5,h6⟩
section
variable {ops:Array Oper} {rest:List Oper} {o:Oper} {a:Act} {Q:Exit→Act→World→Prop}
theorem bQ (w:World) (U:o.guard=none) (m x:Operand) (t:TypeId) (I:o.op=Op.lookup t m x true) (ht:Tryz.prog.underlying t=some (.map 9 3))
  (b n:Nat) (L:List ByteArray) (f:ByteArray→Int) (hm:a.eval m=.map (some b)) (h:eU b n L f w) (s:ByteArray) (hx:a.eval x=.string s) (hs:s.size≤maxLen)
  (c:Bool) (hc:decide (s ∈ L)=c) (v:Int) (hv:(if s ∈ L then f s else 0)=v)
  (hK:wpList Tryz.prog ops Q rest (a.put o.dst (.tuple #[.int .i64 v,.bool c])) w):wpList Tryz.prog ops Q (o :: rest) a w:=by
 obtain ⟨⟨M,h1,h2,J,h4⟩,h5,h6⟩:=h;refine wpList_lookup_own_ok_int w U m x t I _ _ .i64 xQ ht Tryz.underlying3 (Rj w) b n M hm h1 (.string s) (xR s) hx (mg hs) fun d y hw=>?_
 rw [J s,hc]
 have:d=v:=by
  rw [← hv]
  split
  ·rename_i hmem
   have:=h4 s hmem;rw [this] at y;exact xU y.symm
  ·rename_i hmem
   have h7:has M (xR s)=false:=by rw [J s]; simpa using hmem
   rw [atKey_of_not_has h7] at y;exact xU y.symm
 rw [this];exact hK
theorem qZ (w:World) (J:o.guard=none) (m x:Operand) (t:TypeId) (I:o.op=Op.lookup t m x false) (U:Tryz.prog.underlying t=some (.map 9 3))
  (b n:Nat) (L:List ByteArray) (f:ByteArray→Int) (hm:a.eval m=.map (some b)) (h:eU b n L f w) (s:ByteArray) (hx:a.eval x=.string s) (hs:s.size≤maxLen)
  (v:Int) (hv:(if s ∈ L then f s else 0)=v)
  (hK:wpList Tryz.prog ops Q rest (a.put o.dst (.int .i64 v)) w):wpList Tryz.prog ops Q (o :: rest) a w:=by
 obtain ⟨⟨M,h1,h2,h3,h4⟩,h5,h6⟩:=h;refine wpList_lookup_own_int w J m x t I _ _ .i64 xQ U Tryz.underlying3 (Rj w) b n M hm h1 (.string s) (xR s) hx (mg hs) fun d y hw=>?_
 have:d=v:=by
  rw [← hv]
  split
  ·rename_i hmem
   have:=h4 s hmem;rw [this] at y;exact xU y.symm
  ·rename_i hmem
   have h7:has M (xR s)=false:=by rw [h3 s]; simpa using hmem
   rw [atKey_of_not_has h7] at y;exact xU y.symm
 rw [this];exact hK
theorem dN (w:World) (I:o.guard=none) (m:Operand) (t:TypeId) (y:o.op=Op.call { callee:=Callee.builtin Builtin.len,args:=#[m],argTypes:=#[t] }) (J:Tryz.prog.underlying t=some (.map 9 3))
  (b n:Nat) (L:List ByteArray) (f:ByteArray→Int) (hm:a.eval m=.map (some b)) (h:eU b n L f w)
  (hK:wpList Tryz.prog ops Q rest (a.put o.dst (.int .i64 L.length)) w):wpList Tryz.prog ops Q (o :: rest) a w:=by
 obtain ⟨⟨M,h1,U,h3,h4⟩,h5,h6⟩:=h;refine wpList_len_own w I m t y _ _ J _ b n M hm h1 ?_;rw [U];exact hK
theorem D.pX {L:List ByteArray} (h:L.Nodup) (s:ByteArray):(dG L s).Nodup:=(nP [s] L h).1
theorem je (w:World) (hg:o.guard=none) (m x v:Operand) (t:TypeId) (J:o.op=Op.mapUpdate t m x v) (y:Tryz.prog.underlying t=some (.map 9 3))
  (b n:Nat) (L:List ByteArray) (f:ByteArray→Int) (hm:a.eval m=.map (some b)) (h:eU b n L f w) (s:ByteArray) (hx:a.eval x=.string s) (I:s.size≤maxLen) (z:Int) (hv:a.eval v=.int .i64 z) (hn:n < maxLen) (hz:0≤z∧z≤1000000)
  (hK:∀ w',eU b (n+1) (dG L s) (fun t=>if t=s then z else f t) w'→w.grownBy w' (some b)→wpList Tryz.prog ops Q rest (a.put o.dst undef) w'):wpList Tryz.prog ops Q (o :: rest) a w:=by
 obtain ⟨⟨M,h1,h2,h3,h4⟩,h5,h6⟩:=h;refine wpList_mapUpdate_own w hg m x v t J _ _ xQ y _ b n M hm h1 hn (.string s) (.int .i64 z) (xR s) hx hv (mg I) (.lit (.int .i64 z)) [] (plainElem_int Tryz.underlying3 (WalkArith.wf_i64 (by omega))) fun w' h7 U=>?_
 refine hK w' ⟨⟨_,h7,?_,fun t=>?_,fun t y=>?_⟩,pX h5 s,fun t y=>?_⟩ U
 ·rw [size_put (h1.tidy xQ),h3 s]
  unfold dG;by_cases hm:s ∈ L
  ·simp [hm,h2]
  ·simp [hm,h2]
 ·by_cases e:t=s
  ·subst e
   rw [has_put_same h1.isMap (xQ.key (mg I))];exact (decide_eq_true (dw.2 (.inr rfl))).symm
  ·rw [has_put_other (fun h=>e (vV h)),h3 t]
   by_cases hm:t ∈ L
   ·simp [hm,dw]
   ·simp [hm,dw,e]
 ·by_cases e:t=s
  ·subst e
   rw [atKey_put_same h1.isMap (xQ.key (mg I)),if_pos rfl]
  ·rw [atKey_put_other (fun h=>e (vV h)),if_neg e]
   exact h4 t ((dw.1 y).resolve_right e)
 ·rcases dw.1 y with h | rfl
  ·exact h6 t h
  ·exact I
end
open Go.WideElems (rg) in
theorem D.eU.tight {b n:Nat} {L:List ByteArray} {f:ByteArray→Int} {w:World} (h:eU b n L f w):eU b L.length L f w:=by
 obtain ⟨⟨M,⟨es,c,h1,J,h3,y⟩,I,U⟩,h7,h8⟩:=h;refine ⟨⟨M,⟨es,c,h1,J,?_,y⟩,I,U⟩,h7,h8⟩;rw [← I,y];simp [Maps.size,length_sorted]
section
variable {ops:Array Oper} {rest:List Oper} {o:Oper} {a:Act} {Q:Exit→Act→World→Prop}
theorem uH (w:World) (hg:o.guard=none) (m x v:Operand) (t:TypeId) (U:o.op=Op.insert t m x v) (y:Tryz.prog.underlying t=some (.map 9 3))
  (b n:Nat) (L:List ByteArray) (f:ByteArray→Int) (hm:a.eval m=.map (some b)) (h:eU b n L f w) (s:ByteArray) (hx:a.eval x=.string s) (J:s.size≤maxLen) (z:Int) (hv:a.eval v=.int .i64 z) (hn:n < maxLen) (hz:0≤z∧z≤1000000)
  (hK:∀ w',eU b (n+1) (dG L s) (fun t=>if t=s then z else f t) w'→w.grownBy w' (some b)→wpList Tryz.prog ops Q rest (a.put o.dst undef) w'):wpList Tryz.prog ops Q (o :: rest) a w:=by
 obtain ⟨⟨M,h1,h2,h3,h4⟩,h5,h6⟩:=h;refine wpList_plain hg fun K' hK'=>?_
 obtain ⟨w',I,h7,a0⟩:=h1.update xQ y hn (mg J) (plainElem_int Tryz.underlying3 (WalkArith.wf_i64 (show _ from (by omega:-9223372036854775808≤z∧z≤9223372036854775807))));have a1:=hK w' ⟨⟨_,h7,?_,fun t=>?_,fun t y=>?_⟩,pX h5 s,fun t y=>?_⟩ a0
 ·unfold Oper.wp
  simp [execOp,U,hm,hx,hv,I,Result.andThen];exact hK' _ _ a1
 ·rw [size_put (h1.tidy xQ),h3 s]
  unfold dG;by_cases hm:s ∈ L
  ·simp [hm,h2]
  ·simp [hm,h2]
 ·by_cases e:t=s
  ·subst e
   rw [has_put_same h1.isMap (xQ.key (mg J))];exact (decide_eq_true (dw.2 (.inr rfl))).symm
  ·rw [has_put_other (fun h=>e (vV h)),h3 t]
   by_cases hm:t ∈ L
   ·simp [hm,dw]
   ·simp [hm,dw,e]
 ·by_cases e:t=s
  ·subst e
   rw [atKey_put_same h1.isMap (xQ.key (mg J)),if_pos rfl]
  ·rw [atKey_put_other (fun h=>e (vV h)),if_neg e]
   exact h4 t ((dw.1 y).resolve_right e)
 ·rcases dw.1 y with h | rfl
  ·exact h6 t h
  ·exact J
end
end
section
open Go.RowKit Go.Sort D
theorem D.EN {base e:Nat} {w:World} {v:Value} {L:List Value} {xs:List ByteArray} {bs:List Nat} (h:aW 1 iW base e w v L xs bs):L=xs.map Value.string∧(∀ s ∈ xs,s.size≤maxLen)∧bs = []:=by
 obtain ⟨_,⟨J,_,G,rfl,I⟩,_⟩:=h;rw [Nat.mul_one] at J
 have h1:∀ j (y:j < xs.length),L[j]? = some (.string xs[j])∧xs[j].size≤maxLen∧G j = []:=fun j y=>by
  obtain ⟨a,b,c⟩:=I j y;refine ⟨?_,b,c⟩;rw [Nat.mul_one] at a;have:=congrArg (fun l:List Value=>l[0]?) a;simpa [List.getElem?_take,List.getElem?_drop] using this
 refine ⟨List.ext_getElem? fun j=>?_,fun s U=>?_,?_⟩
 ·by_cases y:j < xs.length
  ·rw [(h1 j y).1]; simp [y]
  ·rw [List.getElem?_eq_none (by omega),List.getElem?_eq_none (by simp; omega)]
 ·obtain ⟨j,y,rfl⟩:=List.mem_iff_getElem.1 U
  exact (h1 j y).2.1
 ·exact List.flatMap_eq_nil_iff.2 fun j y=>(h1 j (List.mem_range.1 y)).2.2
theorem D.vW {base e:Nat} {w:World} {v:Value} {ys:List ByteArray} (h:w.ownsRow base e 1 v ys.length (ys.map Value.string)) (I:∀ s ∈ ys,s.size≤maxLen):aW 1 iW base e w v (ys.map Value.string) ys []:=by
 refine ⟨h,⟨by simp,fun u J=>?_,fun _=>[],by simp,fun j y=>⟨?_,I _ (δ y),rfl⟩⟩,fun b U=>by simp at U⟩
 ·obtain ⟨s,_,rfl⟩:=List.mem_map.1 J
  rfl
 ·rw [Nat.mul_one]
  refine List.ext_getElem? fun i=>?_
  rcases i with _ | i
  ·simp [List.getElem?_drop,y]
  ·simp; omega
def D.CJ (l:List (List UInt8)):List ByteArray:=l.map fun b=>⟨b.toArray⟩
theorem D.CO (l:List (List UInt8)):(CJ l).map (·.data.toList)=l:=by
 unfold CJ; rw [List.map_map]
 refine (List.map_congr_left (g:=id) fun b _=>?_).trans (List.map_id l);show b.toArray.toList=b;rfl
theorem D.Ji (l:List (List UInt8)):(CJ l).map Value.string=l.map encStr:=by
 unfold CJ; rw [List.map_map]; rfl
theorem D.EO {l:List (List UInt8)} {n:Nat} (h:∀ b ∈ l,b.length≤n):∀ s ∈ CJ l,s.size≤n:=fun s y=>by
 obtain ⟨b,I,rfl⟩:=List.mem_map.1 y;exact h b I
theorem D.CP {xs:List ByteArray} {n:Nat} (h:∀ s ∈ xs,s.size≤n):∀ b ∈ xs.map (·.data.toList),b.length≤n:=fun b y=>by
 obtain ⟨s,I,rfl⟩:=List.mem_map.1 y;exact h s I
theorem EP (xs:List ByteArray) (v:Value) (L:List Value) (base:Nat) (w:World) (hC:aW 1 iW base 9 w v L xs []) (hl:xs.length≤16777216):
  Calls Tryz.prog 132 #[v] w fun e w'=>e=.returned (.tuple #[])∧∃ ys:List ByteArray,ys.map (·.data.toList)=(xs.map (·.data.toList)).mergeSort leB∧ys.length=xs.length∧aW 1 iW base 9 w' v (ys.map Value.string) ys []∧w.grownBy w' v.ownBlock:=by
 obtain ⟨rfl,hs,_⟩:=EN hC;have a1:=hC.own
 rcases a1.2 with ⟨rfl,hx⟩ | ⟨g,cap,a3,rfl,J,hb,h1,h2,h3,h4⟩
 ·have a2:xs = []:=by simpa using hx
  subst a2;have cn:Calls Tryz.prog 132 #[.slice none 0 0] w (fun e w2=>e=.returned (.tuple #[])∧w2=w):=Any.slices_Sort_string_none Tryz.lays190 none 0 w;refine cn.mono ?_;rintro e w' ⟨rfl,rfl⟩;exact ⟨rfl,[],by simp,rfl,aW.nil _,World.grownBy.refl _ _⟩
 ·have I:(xs.map (·.data.toList)).length=xs.length:=by simp
  have hH:Holds encStr w g 0 (xs.map (·.data.toList)).toArray:=holds_of_block hb (by rw [I,Lib.map_encStr]; simpa using h4);have hg:g < w.heap.size:=ψ hb;have c:=Tryz.slices_Sort_string g 0 cap (xs.map (·.data.toList)) w hH hg (by omega);rw [I] at c;refine c.mono ?_;rintro e w' ⟨rfl,n,os,rfl⟩;have U:((xs.map (·.data.toList)).mergeSort leB).length=(xs.map (·.data.toList)).length:=List.length_mergeSort _;have y:=ownsRow_sorted (base:=base) (cap:=cap) (n:=n) (os:=os) U J hb (by rw [I]; exact h1) h2 h3;rw [I] at y U;have a0:(CJ ((xs.map (·.data.toList)).mergeSort leB)).length=xs.length:=by unfold CJ; rw [List.length_map]; exact U
  refine ⟨rfl,CJ ((xs.map (·.data.toList)).mergeSort leB),CO _,a0,?_,grownBy_sorted _⟩;rw [← Ji,← a0] at y;have:=vW y (EO fun b hb=>CP hs b ((List.mergeSort_perm _ _).mem_iff.1 hb));rw [a0] at this;exact this
end
end Go.Proofs.YtkjinanbccloeaaGreatDoor
