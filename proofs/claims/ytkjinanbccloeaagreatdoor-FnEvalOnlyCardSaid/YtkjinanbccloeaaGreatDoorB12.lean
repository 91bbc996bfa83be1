/- Of the proof of FnEvalOnly: GN, gI, SortS, MatS. -/
import Derived.Test.YtkjinanbccloeaaGreatDoorB09
import Derived.Test.YtkjinanbccloeaaGreatDoorB10
import Derived.Lib.OwnBridge
import Derived.Sort.OwnSorted
import Derived.Lib.QuietBelow
import Derived.StillTailTactics
set_option linter.unusedVariables false
set_option maxHeartbeats 4000000
set_option maxRecDepth 100000
namespace Go.Proofs.YtkjinanbccloeaaGreatDoor
section
open Go.RowKit Go.ChangeMaps Go.MapKept D
def D.isStr (v:Value):Prop:=∃ s:ByteArray,v=.string s∧s.size≤maxLen
theorem D.jl:GN Tryz.prog 9 (fun _=>True) isStr:=by
 have K:=Go.WideMaps.string_law (P:=Tryz.prog) Tryz.underlying9;have y:∀ {s:ByteArray},s.size≤maxLen→keyOf Tryz.prog 9 (.string s)=some (.string s.data.toList):=fun h=>Go.WideMaps.keyOf_string_mk Tryz.underlying9 h
 refine ⟨?_,?_,?_⟩
 ·rintro w U v ⟨s,rfl,I⟩
  exact K.check w U (y I)
 ·rintro w _ k ⟨s,rfl,I⟩ es J
  exact K.find w (y I) es fun e he=>by
   obtain ⟨s',h1,h2⟩:=J e he;exact ⟨_,by rw [h1]; exact y h2⟩
 ·rintro v ⟨s,rfl,_⟩
  simp [Instr.sameBits]
structure D.WK where
 name:ByteArray
 size:Nat
 place:Int
 word:ByteArray
deriving DecidableEq
def D.FH (k:WK):Value:=.agg #[.string k.name,.int .i64 k.size,.int .i64 k.place,.string k.word]
def D.He (v:Value):Prop:=∃ k:WK,v=FH k
theorem D.Hf {k l:WK} (h:FH k=FH l):k=l:=by
 obtain ⟨a,b,c,d⟩:=k;obtain ⟨I,y,J,U⟩:=l;simp [FH] at h;obtain ⟨rfl,h2,rfl,rfl⟩:=h;have:b=y:=by omega
 rw [this]
theorem CQ:Tryz.prog.underlying 236=some (.struct (Tryz.prog.fieldsOf 236)):=by kernel_rfl
theorem WM:Tryz.prog.stoodInHeld 236=false:=by kernel_rfl
theorem WN : (Tryz.prog.fieldsOf 236).toList.map (fun f => (f.name, f.type, f.offset)) = [("name", 9, 0), ("size", 3, 1), ("at", 3, 2), ("word", 9, 3)] := by kernel_rfl
theorem D.FI : ∃ y I f2 J, (Tryz.prog.fieldsOf 236).toList = [y, I, f2, J] ∧ (y.name ≠ "_" ∧ y.type = 9 ∧ y.offset = 0) ∧ (I.name ≠ "_" ∧ I.type = 3 ∧ I.offset = 1) ∧
  (f2.name ≠ "_" ∧ f2.type = 3 ∧ f2.offset = 2) ∧ (J.name ≠ "_" ∧ J.type = 9 ∧ J.offset = 3) := by
 have h:=WN;generalize (Tryz.prog.fieldsOf 236).toList=L at h;have U:L.length=4:=by have:=congrArg List.length h; simpa using this
 match L,U,h with
 | [y,I,f2,J],_,h=>
  simp at h;obtain ⟨⟨a1,a2,a3⟩,⟨b1,b2,b3⟩,⟨c1,c2,c3⟩,d1,d2,d3⟩:=h;exact ⟨y,I,f2,J,rfl,⟨by rw [a1]; decide,a2,a3⟩,⟨by rw [b1]; decide,b2,b3⟩,⟨by rw [c1]; decide,c2,c3⟩,by rw [d1]; decide,d2,d3⟩
theorem D.WO (d:Nat) (a b:ByteArray) (w:World):(Op.equalIn (d+1) 9 (.string a) (.string b)).run Tryz.prog w=.ok (a == b) w:=by
 simp [Op.equalIn,run_underlying Tryz.underlying9,Result.andThen]
theorem D.eq_int (d:Nat) (a b:Int) (w:World):(Op.equalIn (d+1) 3 (.int .i64 a) (.int .i64 b)).run Tryz.prog w=.ok (a == b) w:=by
 simp [Op.equalIn,run_underlying Tryz.underlying3,Result.andThen]
theorem D.JF {cs:Array Value} {o:Nat} {v:Value} (h:cs[o]? = some v) (w:World):(part 9 cs o).run Tryz.prog w=.ok v w:=by
 simp [part,isAgg,run_underlying Tryz.underlying9,h,Result.andThen]
theorem D.JG {cs:Array Value} {o:Nat} {v:Value} (h:cs[o]? = some v) (w:World):(part 3 cs o).run Tryz.prog w=.ok v w:=by
 simp [part,isAgg,run_underlying Tryz.underlying3,h,Result.andThen]
theorem D.Vu:Wu Tryz.prog 236 (fun _=>True) He:=by
 refine ⟨⟨_,CQ,?_⟩,?_⟩
 ·rintro a b ⟨k,rfl⟩ ⟨l,rfl⟩
  rfl
 ·rintro w a b _ ⟨k,rfl⟩ ⟨l,rfl⟩
  obtain ⟨f0,f1,f2,f3,hf,⟨a1,a2,a3⟩,⟨b1,b2,b3⟩,⟨c1,c2,c3⟩,d1,d2,d3⟩:=FI;have y:=run_equalIn_struct (P:=Tryz.prog) (w:=w) 9999 236 #[.string k.name,.int .i64 k.size,.int .i64 k.place,.string k.word] #[.string l.name,.int .i64 l.size,.int .i64 l.place,.string l.word] CQ WM;refine ⟨k.name == l.name && ((k.size:Int) == (l.size:Int) && (k.place == l.place && k.word == l.word)),?_,?_⟩
  ·show (Op.equalIn 10000 _ _ _).run _ _=_
   unfold FH;rw [y,hf];simp [Op.eqFields,a1,a2,a3,b1,b2,b3,c1,c2,c3,d1,d2,d3,JF,JG,WO,eq_int,Result.andThen]
   by_cases h1:k.name=l.name <;> by_cases U:(k.size:Int)=(l.size:Int) <;> by_cases I:k.place=l.place <;> by_cases J:k.word=l.word <;> simp [h1,U,I,J]
  ·constructor
   ·intro h
    simp at h;obtain ⟨h1,U,I,J⟩:=h;obtain ⟨a,b,c,d⟩:=k;obtain ⟨a',b',c',d'⟩:=l;simp only at h1 U I J;rw [h1,I,J,show b=b' by omega]
   ·intro h
    rw [Hf h];simp
theorem D.PE (y:Bool) (v:ByteArray) (w:World):(Instr.checkKey y 9999 9 (.string v)).run Tryz.prog w=.ok () w:=by
 show (Instr.checkKey y (9998+1) _ _).run _ _=_;rw [Instr.checkKey];simp [run_underlying Tryz.underlying9,Result.andThen]
theorem D.PG (y:Bool) (v:Int) (w:World):(Instr.checkKey y 9999 3 (.int .i64 v)).run Tryz.prog w=.ok () w:=by
 show (Instr.checkKey y (9998+1) _ _).run _ _=_;rw [Instr.checkKey];simp [run_underlying Tryz.underlying3,Result.andThen]
theorem D.wB:GN Tryz.prog 236 (fun _=>True) He:=by
 refine ⟨?_,fun y k I es J=>O8 Vu y I es J,?_⟩
 ·rintro w U v ⟨k,rfl⟩
  obtain ⟨f0,f1,f2,f3,hf,⟨a1,a2,a3⟩,⟨b1,b2,b3⟩,⟨c1,c2,c3⟩,d1,d2,d3⟩:=FI;show (Instr.checkKey U (9999+1) _ _).run _ _=_;rw [Instr.checkKey];unfold FH;simp only [Sem.run_bind,run_underlying CQ,Result.andThen_ok];rw [← Array.forIn_toList,hf];simp [a1,a2,a3,b1,b2,b3,c1,c2,c3,d1,d2,d3,JF,JG,PE,PG,Result.andThen]
 ·rintro v ⟨k,rfl⟩
  simp [Instr.sameBits,FH]
end
section
open Go.RowKit Go.Maps D
theorem D.CS:Keyed Tryz.prog 9:=string_keyed Tryz.underlying9
theorem D.SV (w:World):(zeroValue 3).run Tryz.prog w=.ok (.int .i64 0) w:=by kernel_rfl
def D.qY (s:ByteArray):Lit:=.string s.data.toList
theorem D.mG {s:ByteArray} (h:s.size≤maxLen):keyOf Tryz.prog 9 (.string s)=some (qY s):=Go.WideMaps.keyOf_string_mk Tryz.underlying9 h
theorem D.JH {s t:ByteArray} (h:qY s=qY t):s=t:=by
 unfold qY at h
 injection h with h
 exact bytes_inj h
theorem D.x9 {H:Type} {x y:Int} (h:(DataW.lit (.int .i64 x):DataW H)=.lit (.int .i64 y)):x=y:=by simpa using h
structure D.gI (b n:Nat) (L:List ByteArray) (f:ByteArray→Int) (w:World):Prop where
 own:∃ M:DataW Unit,w.ownsMap Tryz.prog 9 (plainElem Tryz.prog 3) b n M∧Maps.size M=L.length∧(∀ s,has M (qY s)=decide (s ∈ L))∧∀ s ∈ L,M.atKey (qY s) (.lit (.int .i64 0))=.lit (.int .i64 (f s))
 nd:L.Nodup
 sz:∀ s ∈ L,s.size≤maxLen
theorem D.gI.made (w:World) (f:ByteArray→Int):gI w.heap.size 0 [] f (w.alloc (.map #[] 0)):=
 ⟨⟨.map [],World.ownsMap_made _ _ _ _,rfl,fun s=>by simp [has],fun s h=>by simp at h⟩,List.nodup_nil,fun s h=>by simp at h⟩
theorem D.gI.same {b n:Nat} {L:List ByteArray} {f:ByteArray→Int} {w w':World} (h:gI b n L f w) (e:w'.heap[b]? = w.heap[b]?):gI b n L f w':=by
 obtain ⟨⟨M,⟨es,c,h1,y⟩,I⟩,J,U⟩:=h;exact ⟨⟨M,⟨es,c,e.trans h1,y⟩,I⟩,J,U⟩
theorem D.gI.mono {b n y:Nat} {L:List ByteArray} {f:ByteArray→Int} {w:World} (h:gI b n L f w) (I:n≤y):gI b y L f w:=by
 obtain ⟨⟨M,h1,J⟩,U,h5⟩:=h;exact ⟨⟨M,h1.mono I,J⟩,U,h5⟩
theorem D.gI.lt {b n:Nat} {L:List ByteArray} {f:ByteArray→Int} {w:World} (h:gI b n L f w):b < w.heap.size:=by
 obtain ⟨⟨M,h1,_⟩,_⟩:=h;exact h1.lt
theorem D.gI.below {b n:Nat} {L:List ByteArray} {f:ByteArray→Int} {w w':World} {B:Nat} (h:gI b n L f w) (y:Below B w w') (hB:b < B):gI b n L f w':=h.same (y.block b hB)
theorem D.gI.setCell {b n:Nat} {L:List ByteArray} {f:ByteArray→Int} {w:World} (h:gI b n L f w) {a:Addr} (ha:b ≠ a.block) (u:Value):gI b n L f (w.setCell a u):=
 h.same (π _ _ _ _ ha)
theorem D.gI.WQ {b n:Nat} {L:List ByteArray} {f:ByteArray→Int} {w:World} (h:gI b n L f w):L.length≤n:=by
 obtain ⟨⟨M,h1,y,_⟩,_⟩:=h;have:=h1.size_le;omega
theorem D.gI.congr {b n:Nat} {L:List ByteArray} {f g:ByteArray→Int} {w:World} (h:gI b n L f w) (e:∀ s ∈ L,f s=g s):gI b n L g w:=by
 obtain ⟨⟨M,h1,I,J,U⟩,h5,h6⟩:=h;exact ⟨⟨M,h1,I,J,fun s y=>by rw [U s y,e s y]⟩,h5,h6⟩
section
variable {ops:Array Oper} {rest:List Oper} {o:Oper} {a:Act} {Q:Exit→Act→World→Prop}
theorem dB (w:World) (U:o.guard=none) (m x:Operand) (t:TypeId) (I:o.op=Op.lookup t m x true) (ht:Tryz.prog.underlying t=some (.map 9 3))
  (b n:Nat) (L:List ByteArray) (f:ByteArray→Int) (hm:a.eval m=.map (some b)) (h:gI b n L f w) (s:ByteArray) (hx:a.eval x=.string s) (hs:s.size≤maxLen)
  (c:Bool) (hc:decide (s ∈ L)=c) (v:Int) (hv:(if s ∈ L then f s else 0)=v)
  (hK:wpList Tryz.prog ops Q rest (a.put o.dst (.tuple #[.int .i64 v,.bool c])) w):wpList Tryz.prog ops Q (o :: rest) a w:=by
 obtain ⟨⟨M,h1,h2,J,h4⟩,h5,h6⟩:=h;refine wpList_lookup_own_ok_int w U m x t I _ _ .i64 CS ht Tryz.underlying3 (SV w) b n M hm h1 (.string s) (qY s) hx (mG hs) fun d y hw=>?_
 rw [J s,hc]
 have:d=v:=by
  rw [← hv]
  split
  ·rename_i hmem
   have:=h4 s hmem;rw [this] at y;exact x9 y.symm
  ·rename_i hmem
   have h7:has M (qY s)=false:=by rw [J s]; simpa using hmem
   rw [atKey_of_not_has h7] at y;exact x9 y.symm
 rw [this];exact hK
theorem qZ (w:World) (J:o.guard=none) (m x:Operand) (t:TypeId) (I:o.op=Op.lookup t m x false) (U:Tryz.prog.underlying t=some (.map 9 3))
  (b n:Nat) (L:List ByteArray) (f:ByteArray→Int) (hm:a.eval m=.map (some b)) (h:gI b n L f w) (s:ByteArray) (hx:a.eval x=.string s) (hs:s.size≤maxLen)
  (v:Int) (hv:(if s ∈ L then f s else 0)=v)
  (hK:wpList Tryz.prog ops Q rest (a.put o.dst (.int .i64 v)) w):wpList Tryz.prog ops Q (o :: rest) a w:=by
 obtain ⟨⟨M,h1,h2,h3,h4⟩,h5,h6⟩:=h;refine wpList_lookup_own_int w J m x t I _ _ .i64 CS U Tryz.underlying3 (SV w) b n M hm h1 (.string s) (qY s) hx (mG hs) fun d y hw=>?_
 have:d=v:=by
  rw [← hv]
  split
  ·rename_i hmem
   have:=h4 s hmem;rw [this] at y;exact x9 y.symm
  ·rename_i hmem
   have h7:has M (qY s)=false:=by rw [h3 s]; simpa using hmem
   rw [atKey_of_not_has h7] at y;exact x9 y.symm
 rw [this];exact hK
theorem gu (w:World) (I:o.guard=none) (m:Operand) (t:TypeId) (y:o.op=Op.call { callee:=Callee.builtin Builtin.len,args:=#[m],argTypes:=#[t] }) (J:Tryz.prog.underlying t=some (.map 9 3))
  (b n:Nat) (L:List ByteArray) (f:ByteArray→Int) (hm:a.eval m=.map (some b)) (h:gI b n L f w)
  (hK:wpList Tryz.prog ops Q rest (a.put o.dst (.int .i64 L.length)) w):wpList Tryz.prog ops Q (o :: rest) a w:=by
 obtain ⟨⟨M,h1,U,h3,h4⟩,h5,h6⟩:=h;refine wpList_len_own w I m t y _ _ J _ b n M hm h1 ?_;rw [U];exact hK
theorem D.Hg {L:List ByteArray} (h:L.Nodup) (s:ByteArray):(fO L s).Nodup:=(nX [s] L h).1
theorem jW (w:World) (hg:o.guard=none) (m x v:Operand) (t:TypeId) (J:o.op=Op.mapUpdate t m x v) (y:Tryz.prog.underlying t=some (.map 9 3))
  (b n:Nat) (L:List ByteArray) (f:ByteArray→Int) (hm:a.eval m=.map (some b)) (h:gI b n L f w) (s:ByteArray) (hx:a.eval x=.string s) (I:s.size≤maxLen) (z:Int) (hv:a.eval v=.int .i64 z) (hn:n < maxLen) (hz:0≤z∧z≤1000000)
  (hK:∀ w',gI b (n+1) (fO L s) (fun t=>if t=s then z else f t) w'→w.grownBy w' (some b)→wpList Tryz.prog ops Q rest (a.put o.dst undef) w'):wpList Tryz.prog ops Q (o :: rest) a w:=by
 obtain ⟨⟨M,h1,h2,h3,h4⟩,h5,h6⟩:=h;refine wpList_mapUpdate_own w hg m x v t J _ _ CS y _ b n M hm h1 hn (.string s) (.int .i64 z) (qY s) hx hv (mG I) (.lit (.int .i64 z)) [] (plainElem_int Tryz.underlying3 (WalkArith.wf_i64 (by omega))) fun w' h7 U=>?_
 refine hK w' ⟨⟨_,h7,?_,fun t=>?_,fun t y=>?_⟩,Hg h5 s,fun t y=>?_⟩ U
 ·rw [size_put (h1.tidy CS),h3 s]
  unfold fO;by_cases hm:s ∈ L
  ·simp [hm,h2]
  ·simp [hm,h2]
 ·by_cases e:t=s
  ·subst e
   rw [has_put_same h1.isMap (CS.key (mG I))];exact (decide_eq_true (iR.2 (.inr rfl))).symm
  ·rw [has_put_other (fun h=>e (JH h)),h3 t]
   by_cases hm:t ∈ L
   ·simp [hm,iR]
   ·simp [hm,iR,e]
 ·by_cases e:t=s
  ·subst e
   rw [atKey_put_same h1.isMap (CS.key (mG I)),if_pos rfl]
  ·rw [atKey_put_other (fun h=>e (JH h)),if_neg e]
   exact h4 t ((iR.1 y).resolve_right e)
 ·rcases iR.1 y with h | rfl
  ·exact h6 t h
  ·exact I
end
section
variable {ops:Array Oper} {rest:List Oper} {o:Oper} {a:Act} {Q:Exit→Act→World→Prop}
end
end
section
open Go.RowKit Go.Sort D
theorem D.FK {base e:Nat} {w:World} {v:Value} {L:List Value} {xs:List ByteArray} {bs:List Nat} (h:aZ 1 jD base e w v L xs bs):L=xs.map Value.string∧(∀ s ∈ xs,s.size≤maxLen)∧bs = []:=by
 obtain ⟨_,⟨J,_,G,rfl,I⟩,_⟩:=h;rw [Nat.mul_one] at J
 have h1:∀ j (y:j < xs.length),L[j]? = some (.string xs[j])∧xs[j].size≤maxLen∧G j = []:=fun j y=>by
  obtain ⟨a,b,c⟩:=I j y;refine ⟨?_,b,c⟩;rw [Nat.mul_one] at a;have:=congrArg (fun l:List Value=>l[0]?) a;simpa [List.getElem?_take,List.getElem?_drop] using this
 refine ⟨List.ext_getElem? fun j=>?_,fun s U=>?_,?_⟩
 ·by_cases y:j < xs.length
  ·rw [(h1 j y).1]; simp [y]
  ·rw [List.getElem?_eq_none (by omega),List.getElem?_eq_none (by simp; omega)]
 ·obtain ⟨j,y,rfl⟩:=List.mem_iff_getElem.1 U
  exact (h1 j y).2.1
 ·exact List.flatMap_eq_nil_iff.2 fun j y=>(h1 j (List.mem_range.1 y)).2.2
theorem D.wC {base e:Nat} {w:World} {v:Value} {ys:List ByteArray} (h:w.ownsRow base e 1 v ys.length (ys.map Value.string)) (I:∀ s ∈ ys,s.size≤maxLen):aZ 1 jD base e w v (ys.map Value.string) ys []:=by
 refine ⟨h,⟨by simp,fun u J=>?_,fun _=>[],by simp,fun j y=>⟨?_,I _ (δ y),rfl⟩⟩,fun b U=>by simp at U⟩
 ·obtain ⟨s,_,rfl⟩:=List.mem_map.1 J
  rfl
 ·rw [Nat.mul_one]
  refine List.ext_getElem? fun i=>?_
  rcases i with _ | i
  ·simp [List.getElem?_drop,y]
  ·simp; omega
def D.CU (l:List (List UInt8)):List ByteArray:=l.map fun b=>⟨b.toArray⟩
theorem D.CV (l:List (List UInt8)):(CU l).map (·.data.toList)=l:=by
 unfold CU; rw [List.map_map]
 refine (List.map_congr_left (g:=id) fun b _=>?_).trans (List.map_id l);show b.toArray.toList=b;rfl
theorem D.JI (l:List (List UInt8)):(CU l).map Value.string=l.map encStr:=by
 unfold CU; rw [List.map_map]; rfl
theorem D.FM {l:List (List UInt8)} {n:Nat} (h:∀ b ∈ l,b.length≤n):∀ s ∈ CU l,s.size≤n:=fun s y=>by
 obtain ⟨b,I,rfl⟩:=List.mem_map.1 y;exact h b I
theorem D.CW {xs:List ByteArray} {n:Nat} (h:∀ s ∈ xs,s.size≤n):∀ b ∈ xs.map (·.data.toList),b.length≤n:=fun b y=>by
 obtain ⟨s,I,rfl⟩:=List.mem_map.1 y;exact h s I
theorem PI (xs:List ByteArray) (v:Value) (L:List Value) (base:Nat) (w:World) (hC:aZ 1 jD base 9 w v L xs []) (hl:xs.length≤16777216):
  Calls Tryz.prog 132 #[v] w fun e w'=>e=.returned (.tuple #[])∧∃ ys:List ByteArray,ys.map (·.data.toList)=(xs.map (·.data.toList)).mergeSort leB∧ys.length=xs.length∧aZ 1 jD base 9 w' v (ys.map Value.string) ys []∧w.grownBy w' v.ownBlock:=by
 obtain ⟨rfl,hs,_⟩:=FK hC;have a1:=hC.own
 rcases a1.2 with ⟨rfl,hx⟩ | ⟨g,cap,a3,rfl,J,hb,h1,h2,h3,h4⟩
 ·have a2:xs = []:=by simpa using hx
  subst a2;have cn:Calls Tryz.prog 132 #[.slice none 0 0] w (fun e w2=>e=.returned (.tuple #[])∧w2=w):=Any.slices_Sort_string_none Tryz.lays190 none 0 w;refine cn.mono ?_;rintro e w' ⟨rfl,rfl⟩;exact ⟨rfl,[],by simp,rfl,aZ.nil _,World.grownBy.refl _ _⟩
 ·have I:(xs.map (·.data.toList)).length=xs.length:=by simp
  have hH:Holds encStr w g 0 (xs.map (·.data.toList)).toArray:=holds_of_block hb (by rw [I,Lib.map_encStr]; simpa using h4);have hg:g < w.heap.size:=ψ hb;have c:=Tryz.slices_Sort_string g 0 cap (xs.map (·.data.toList)) w hH hg (by omega);rw [I] at c;refine c.mono ?_;rintro e w' ⟨rfl,n,os,rfl⟩;have U:((xs.map (·.data.toList)).mergeSort leB).length=(xs.map (·.data.toList)).length:=List.length_mergeSort _;have y:=ownsRow_sorted (base:=base) (cap:=cap) (n:=n) (os:=os) U J hb (by rw [I]; exact h1) h2 h3;rw [I] at y U;have a0:(CU ((xs.map (·.data.toList)).mergeSort leB)).length=xs.length:=by unfold CU; rw [List.length_map]; exact U
  refine ⟨rfl,CU ((xs.map (·.data.toList)).mergeSort leB),CV _,a0,?_,grownBy_sorted _⟩;rw [← JI,← a0] at y;have:=wC y (FM fun b hb=>CW hs b ((List.mergeSort_perm _ _).mem_iff.1 hb));rw [a0] at this;exact this
end
section
open Go.RowKit Go.Sort D
attribute [local go_sem ↓] Go.wp_at_zero Go.wp_at_succ
theorem D.lm {w:World} {cs:List Value} {b:Bd} {bs:List Nat} (h:iY w cs b bs):∃ y p1 I p2,cs = [.slice y b.length p1,.slice I b.length p2]:=by
 obtain ⟨x0,x1,b1,b2,rfl,rfl,h1,J⟩:=h;obtain ⟨y,p1,rfl,U,a0⟩:=ak h1;obtain ⟨I,p2,rfl,a1,a2⟩:=ak J;rw [List.length_map,List.length_map];exact ⟨_,_,_,_,rfl⟩
def D.zI (t f:T) (b:Bd):Bd × Bool:=
 if t.var then
  match eY b t.name with
  | some v=>(b,decide (v=f.name))
  | none=>(b ++ [(t.name,f.name)],true)
 else (b,decide (t.name=f.name))
theorem D.JJ (t f:T) (y fs:List T) (b:Bd):bY (t :: y) (f :: fs) b=if (zI t f b).2 then bY y fs (zI t f b).1 else ((zI t f b).1,false):=by
 unfold zI;rw [bY]
 cases t.var with
 | true=>
  simp only [if_true]
  cases eY b t.name with
  | none=>simp
  | some v=>
   simp only [];by_cases h:v=f.name
   ·simp [h]
   ·simp [h]
 | false=>
  simp only [Bool.false_eq_true,if_false];by_cases h:t.name=f.name
  ·simp [h]
  ·simp [h]
theorem D.JK {xs ys:List T} (y:xs.length=ys.length) {b:Bd} {k:Nat} (h:k < xs.length):bY (xs.drop k) (ys.drop k) b=if (zI xs[k] (ys[k]'(y ▸ h)) b).2 then bY (xs.drop (k+1)) (ys.drop (k+1)) (zI xs[k] (ys[k]'(y ▸ h)) b).1 else ((zI xs[k] (ys[k]'(y ▸ h)) b).1,false):=by
 rw [List.drop_eq_getElem_cons (l:=xs) (i:=k) h,List.drop_eq_getElem_cons (l:=ys) (i:=k) (y ▸ h),JJ]
structure D.MB (N:Nat) (x f:A) (Ad Ad':Option Addr) (cap cap':Nat) (u0 u1 v0 v1:Value) (w:World):Prop where
 x_:w.heap[N]? = some (.cells #[.string x.name,.slice Ad x.args.length cap] 33 (0,0))
 f_:w.heap[N+1]? = some (.cells #[.string f.name,.slice Ad' f.args.length cap'] 33 (0,0))
 b_:w.heap[N+2]? = some (.cells #[u0,u1] 234 (0,0))
 r_:w.heap[N+3]? = some (.cells #[v0,v1] 234 (0,0))
section
variable {N:Nat} {x f:A} {Ad Ad':Option Addr} {cap cap':Nat} {u0 u1 v0 v1:Value} {w w':World}
theorem D.MB.below (h:MB N x f Ad Ad' cap cap' u0 u1 v0 v1 w) (y:Below w.heap.size w w'):MB N x f Ad Ad' cap cap' u0 u1 v0 v1 w':=
 ⟨by rw [y.block _ (ψ h.x_)]; exact h.x_,by rw [y.block _ (ψ h.f_)]; exact h.f_,by rw [y.block _ (ψ h.b_)]; exact h.b_,by rw [y.block _ (ψ h.r_)]; exact h.r_⟩
theorem D.MB.setB (h:MB N x f Ad Ad' cap cap' u0 u1 v0 v1 w) (y0 y1:Value):MB N x f Ad Ad' cap cap' y0 y1 v0 v1 ((w.setCell ⟨N+2,0,none⟩ y0).setCell ⟨N+2,1,none⟩ y1):=by
 have y:∀ k,k ≠ N+2→((w.setCell ⟨N+2,0,none⟩ y0).setCell ⟨N+2,1,none⟩ y1).heap[k]? = w.heap[k]?:=fun k y=>by rw [π _ _ _ _ y,π _ _ _ _ y]
 exact ⟨(y _ (by omega)).trans h.x_,(y _ (by omega)).trans h.f_,by simpa using bK (o:=1) (u:=y1) (bK (o:=0) (u:=y0) h.b_),(y _ (by omega)).trans h.r_⟩
theorem D.MB.WR (h:MB N x f Ad Ad' cap cap' u0 u1 v0 v1 w) (y0 y1:Value):MB N x f Ad Ad' cap cap' u0 u1 y0 y1 ((w.setCell ⟨N+3,0,none⟩ y0).setCell ⟨N+3,1,none⟩ y1):=by
 have y:∀ k,k ≠ N+3→((w.setCell ⟨N+3,0,none⟩ y0).setCell ⟨N+3,1,none⟩ y1).heap[k]? = w.heap[k]?:=fun k y=>by rw [π _ _ _ _ y,π _ _ _ _ y]
 exact ⟨(y _ (by omega)).trans h.x_,(y _ (by omega)).trans h.f_,(y _ (by omega)).trans h.b_,by simpa using bK (o:=1) (u:=y1) (bK (o:=0) (u:=y0) h.r_)⟩
theorem D.MB.cells (h:MB N x f Ad Ad' cap cap' u0 u1 v0 v1 w):w.cell? ⟨N,0,none⟩=some (.string x.name)∧w.cell? ⟨N,1,none⟩=some (.slice Ad x.args.length cap)∧w.cell? ⟨N+1,0,none⟩=some (.string f.name)∧w.cell? ⟨N+1,1,none⟩=some (.slice Ad' f.args.length cap')∧w.cell? ⟨N+2,0,none⟩=some u0∧w.cell? ⟨N+2,1,none⟩=some u1∧w.cell? ⟨N+3,0,none⟩=some v0∧w.cell? ⟨N+3,1,none⟩=some v1:=
 ⟨by simp [World.cell?,h.x_],by simp [World.cell?,h.x_],by simp [World.cell?,h.f_],by simp [World.cell?,h.f_],by simp [World.cell?,h.b_],by simp [World.cell?,h.b_],by simp [World.cell?,h.r_],by simp [World.cell?,h.r_]⟩
theorem D.MB.free (h:MB N x f Ad Ad' cap cap' u0 u1 v0 v1 w):w.frozen? ⟨N+2,0,none⟩=false∧w.frozen? ⟨N+2,1,none⟩=false∧w.frozen? ⟨N+3,0,none⟩=false∧w.frozen? ⟨N+3,1,none⟩=false:=
 ⟨ax h.b_,ax h.b_,ax h.r_,ax h.r_⟩
end
theorem D.oQ {w:World} {N:Nat} {c0 c1 y0 y1:Value} {b:Bd} {bs:List Nat} (h:iY w [c0,c1] b bs) (I:N ∉ bs):iY ((w.setCell ⟨N,0,none⟩ y0).setCell ⟨N,1,none⟩ y1) [c0,c1] b bs:=
 bZ.keep h fun c hc=>by
  have y:c ≠ N:=fun e=>I (e ▸ hc)
  rw [π _ _ _ _ y,π _ _ _ _ y]
theorem PK (x f:A) (b:Bd) (a0 a1 f0 f1 c0 c1:Value) (ba bf bs:List Nat) (w:World) (ha:aG w [a0,a1] x ba) (hf:aG w [f0,f1] f bf) (h:iY w [c0,c1] b bs) (hn:b.length≤1000000) (hx:x.args.length≤1000000):
  Calls Tryz.prog 201 #[.agg #[a0,a1],.agg #[f0,f1],.agg #[c0,c1]] w fun e w'=>Below w.heap.size w w'∧∃ d0 d1 bs',e=.returned (.tuple #[.agg #[d0,d1],.bool (aC x f b).2])∧iY w' [d0,d1] (aC x f b).1 bs'∧∀ c ∈ bs',c ∈ bs∨w.heap.size≤c:=by
 obtain ⟨s,a2,bj,ht⟩:=ha;simp only [List.cons.injEq,and_true] at a2;obtain ⟨rfl,rfl⟩:=a2;obtain ⟨Ad,cap,rfl,hl,hm⟩:=ak ht;obtain ⟨s',a2,bh,am⟩:=hf;simp only [List.cons.injEq,and_true] at a2;obtain ⟨rfl,rfl⟩:=a2;obtain ⟨Ad',cap',rfl,bk,b1⟩:=ak am;obtain ⟨A1,p1,A2,p2,a2⟩:=lm h;simp only [List.cons.injEq,and_true] at a2;obtain ⟨rfl,rfl⟩:=a2;clear hm b1
 have hA:Below w.heap.size w ((((w.alloc (.cells #[.string x.name,.slice Ad x.args.length cap] 33)).alloc (.cells #[.string f.name,.slice Ad' f.args.length cap'] 33)).alloc (.cells #[.slice A1 b.length p1,.slice A2 b.length p2] 234)).alloc (.cells #[.slice none 0 0,.slice none 0 0] 234)):=
  (((ζ).alloc (by simp) _).alloc (by simp; omega) _).alloc (by simp; omega) _
 have av:MB w.heap.size x f Ad Ad' cap cap' (.slice A1 b.length p1) (.slice A2 b.length p2) (.slice none 0 0) (.slice none 0 0) ((((w.alloc (.cells #[.string x.name,.slice Ad x.args.length cap] 33)).alloc (.cells #[.string f.name,.slice Ad' f.args.length cap'] 33)).alloc (.cells #[.slice A1 b.length p1,.slice A2 b.length p2] 234)).alloc (.cells #[.slice none 0 0,.slice none 0 0] 234)):=by
  refine ⟨?_,?_,?_,?_⟩
  ·rw [Below.heap_alloc _ _ _ (by simp; omega),Below.heap_alloc _ _ _ (by simp; omega),Below.heap_alloc _ _ _ (by simp)]
   exact ω w _
  ·rw [Below.heap_alloc _ _ _ (by first | (simp; done) | (simp; omega)),Below.heap_alloc _ _ _ (by first | (simp; done) | (simp; omega))]
   simpa using ω (w.alloc (.cells #[.string x.name,.slice Ad x.args.length cap] 33)) (.cells #[.string f.name,.slice Ad' f.args.length cap'] 33)
  ·rw [Below.heap_alloc _ _ _ (by simp)]
   simpa using ω ((w.alloc (.cells #[.string x.name,.slice Ad x.args.length cap] 33)).alloc (.cells #[.string f.name,.slice Ad' f.args.length cap'] 33)) (.cells #[.slice A1 b.length p1,.slice A2 b.length p2] 234)
  ·simpa using ω (((w.alloc (.cells #[.string x.name,.slice Ad x.args.length cap] 33)).alloc (.cells #[.string f.name,.slice Ad' f.args.length cap'] 33)).alloc (.cells #[.slice A1 b.length p1,.slice A2 b.length p2] 234)) (.cells #[.slice none 0 0,.slice none 0 0] 234)
 have a3:=bZ.lt h;have ao:=η a3;have H:=η h;have HT:=η ht;have b3:=η am;have HA:=η hA;have af:=η av;clear h ht am hA a3 av;by_cases hg:x.name=f.name∧x.args.length=f.args.length
 ·have hs:(x.name.toList == f.name.toList)=true:=by rw [toList_eq,decide_eq_true hg.1]
  have b4:(x.args.length:Int)=(f.args.length:Int):=by omega
  have HG:=η hg;have HM:Hid (aC x f b=bY x.args f.args b):=η (by unfold aC; rw [if_pos hg]);have a9:=η hg.2;clear hg
  go_enter Tryz.func201,Tryz.ntmps201
  go_wp2_with fail
  generalize (((w.alloc (.cells #[.string x.name,.slice Ad x.args.length cap] 33)).alloc (.cells #[.string f.name,.slice Ad' f.args.length cap'] 33)).alloc (.cells #[.slice A1 b.length p1,.slice A2 b.length p2] 234)).alloc (.cells #[.slice none 0 0,.slice none 0 0] 234)=w0 at *
  go_loopw [8,9,10,11] (fun i _ _ _ wr=>∃ (k:Nat) (I:Bd) (B1 B2:Option Addr) (q1 q2:Nat) (bs':List Nat),k≤x.args.length∧i=.int .i64 k∧Hid (bY x.args f.args b=bY (x.args.drop k) (f.args.drop k) I)∧I.length≤b.length+k∧Hid (iY wr [.slice B1 I.length q1,.slice B2 I.length q2] I bs')∧Hid (∀ c ∈ bs',c ∈ bs∨w.heap.size+4≤c)∧Hid (MB w.heap.size x f Ad Ad' cap cap' (.slice B1 I.length q1) (.slice B2 I.length q2) (.slice none 0 0) (.slice none 0 0) wr)∧Hid (Below w.heap.size w wr)) (fun i _ _ _ _=>x.args.length - (intOf i).toNat)
  case atStart=>exact ⟨0,b,A1,A2,p1,p2,bs,ε,rfl,η rfl,by omega,η (bZ.below H.out HA.out),η fun c hc=>.inl hc,af,HA⟩
  case round=>
   obtain ⟨k,I,B1,B2,q1,q2,bs',hk,rfl,hm,bl,a4,J,hM,hB⟩:=hrel;clear HA af H;obtain ⟨x0,x1,y0,y1,z0,z1,r0,r1⟩:=hM.out.cells;obtain ⟨u0,u1,u2,u3⟩:=hM.out.free;by_cases a3:k < x.args.length
   ·obtain ⟨d,o,rfl,_,e0,e1,aw⟩:=dY (aN.below HT.out hB.out) a3
    obtain ⟨d',o',rfl,_,a7,a8,az⟩:=dY (aN.below b3.out hB.out) (a9.out ▸ a3);have HD:=η (hm.out.trans (JK a9.out a3));have b5:(k:Int) < (x.args.length:Int):=by omega
    have bi:(k:Int) < (f.args.length:Int):=by have:=a9.out; omega
    have bn:(0:Int)≤(k:Int):=by omega
    clear hm;generalize x.args[k]=t at *;generalize f.args[k]'(a9.out ▸ a3)=g at *;obtain ⟨tv,tn⟩:=t;obtain ⟨gv,gn⟩:=g;dsimp only at *
    cases tv with
    | false=>
     have HS:Hid (zI ⟨false,tn⟩ ⟨gv,gn⟩ I=(I,decide (tn=gn))):=η rfl;cases hsn:(tn.toList == gn.toList)
     ·have U:decide (tn=gn)=false:=by rw [← toList_eq]; exact hsn
      have HE:Hid (aC x f b=(I,false)):=η (by rw [HM.out,HD.out,HS.out,U]; rfl);have BB:=hB;have BD:=a4;have a5:=hM.out.WR (.slice B1 I.length q1) (.slice B2 I.length q2);obtain ⟨-,-,-,-,-,-,k0,k1⟩:=a5.cells;clear HD HS U a5;go_wp2;exact bodyPost_ret (v:=.tuple #[.agg #[.slice B1 I.length q1,.slice B2 I.length q2],.bool false]) (by simp [results,Tryz.results201,go_sem,k0,k1]) rfl ⟨(BB.out.setCell (p:=⟨w.heap.size+3,0,none⟩) (by simp) _).setCell (p:=⟨w.heap.size+3,1,none⟩) (by simp) _,_,_,bs',by rw [HE.out],by rw [HE.out]; exact oQ BD.out (fun hc=>by rcases J.out _ hc with h | h; exact absurd (ao.out _ h) (by omega); omega),fun c hc=>(J.out c hc).imp id fun h=>by omega⟩
     ·have U:decide (tn=gn)=true:=by rw [← toList_eq]; exact hsn
      have HE:Hid (bY x.args f.args b=bY (x.args.drop (k+1)) (f.args.drop (k+1)) I):=η (by rw [HD.out,HS.out,U]; rfl);clear HD HS U;go_wp2;go_roundw
      case rel=>exact ⟨k+1,I,B1,B2,q1,q2,bs',a3,by go_num,HE,by omega,a4,J,hM,hB⟩
      case measure=>simp [intOf]; omega
    | true=>
     have q:=fun w' (hb:Below wr.heap.size wr w')=>get_any I tn _ _ bs' w' (bZ.below a4.out hb)
     cases hgb:eY I tn with
     | some v=>
      have HS:Hid (zI ⟨true,tn⟩ ⟨gv,gn⟩ I=(I,decide (v=gn))):=η (by unfold zI; simp only [if_true]; rw [hgb]);have aa:iU I tn=v:=by unfold iU; rw [hgb]; rfl
      rw [hgb,aa] at q;clear hgb aa;cases hsn:(v.toList == gn.toList)
      ·have U:decide (v=gn)=false:=by rw [← toList_eq]; exact hsn
       have HE:Hid (aC x f b=(I,false)):=η (by rw [HM.out,HD.out,HS.out,U]; rfl);clear HD HS U;have k0:=fun d os=>cell_regrown x1 d os
       have k1:=fun d os=>cell_regrown z0 d os
       have k2:=fun d os=>cell_regrown z1 d os
       have k3:=fun d os=>cell_regrown e1 d os
       have qq:=fun d os=>Calls.regrown_of (q _ (below_regrown wr d os))
       clear q
       go_wp2_with fail
       refine wp_region_quiet_below (by kernel_rfl) (by kernel_rfl) ?_
       repeat (quiet_step (exact qq _ _))
       refine wpQuiet_nil ?_;intro _ hw';obtain ⟨⟨dq,osq⟩,hw''⟩:=hw';subst hw'';have y:=below_regrown wr dq osq;generalize grow (redrawn wr dq) osq=w1 at *;clear k0 k1 k2 k3 qq;have BB:=η (hB.out.trans (y.mono hB.out.size));have BD:=η (bZ.below a4.out y);have BM:=η (hM.out.below y);clear x0 x1 y0 y1 z0 z1 r0 r1 u0 u1 u2 u3;obtain ⟨x0,x1,y0,y1,z0,z1,r0,r1⟩:=BM.out.cells;obtain ⟨u0,u1,u2,u3⟩:=BM.out.free;have ab:=ξ y a7;have ac:=ξ y a8;clear y e0 e1 a7 a8 hB a4 hM;have a5:=BM.out.WR (.slice B1 I.length q1) (.slice B2 I.length q2);obtain ⟨-,-,-,-,-,-,k0,k1⟩:=a5.cells;clear a5;go_wp2
       exact bodyPost_ret (v:=.tuple #[.agg #[.slice B1 I.length q1,.slice B2 I.length q2],.bool false]) (by simp [results,Tryz.results201,go_sem,k0,k1]) rfl ⟨(BB.out.setCell (p:=⟨w.heap.size+3,0,none⟩) (by simp) _).setCell (p:=⟨w.heap.size+3,1,none⟩) (by simp) _,_,_,bs',by rw [HE.out],by rw [HE.out]; exact oQ BD.out (fun hc=>by rcases J.out _ hc with h | h; exact absurd (ao.out _ h) (by omega); omega),fun c hc=>(J.out c hc).imp id fun h=>by omega⟩
      ·have U:decide (v=gn)=true:=by rw [← toList_eq]; exact hsn
       have HE:Hid (bY x.args f.args b=bY (x.args.drop (k+1)) (f.args.drop (k+1)) I):=η (by rw [HD.out,HS.out,U]; rfl);clear HD HS U;have k0:=fun d os=>cell_regrown x1 d os
       have k1:=fun d os=>cell_regrown z0 d os
       have k2:=fun d os=>cell_regrown z1 d os
       have k3:=fun d os=>cell_regrown e1 d os
       have qq:=fun d os=>Calls.regrown_of (q _ (below_regrown wr d os))
       clear q
       go_wp2_with fail
       refine wp_region_quiet_below (by kernel_rfl) (by kernel_rfl) ?_
       repeat (quiet_step (exact qq _ _))
       refine wpQuiet_nil ?_;intro _ hw';obtain ⟨⟨dq,osq⟩,hw''⟩:=hw';subst hw'';have y:=below_regrown wr dq osq;generalize grow (redrawn wr dq) osq=w1 at *;clear k0 k1 k2 k3 qq;have BB:=η (hB.out.trans (y.mono hB.out.size));have BD:=η (bZ.below a4.out y);have BM:=η (hM.out.below y);clear x0 x1 y0 y1 z0 z1 r0 r1 u0 u1 u2 u3;obtain ⟨x0,x1,y0,y1,z0,z1,r0,r1⟩:=BM.out.cells;obtain ⟨u0,u1,u2,u3⟩:=BM.out.free;have ab:=ξ y a7;have ac:=ξ y a8;clear y e0 e1 a7 a8 hB a4 hM;go_wp2;go_roundw
       case rel=>exact ⟨k+1,I,B1,B2,q1,q2,bs',a3,by go_num,HE,by omega,BD,J,BM,BB⟩
       case measure=>simp [intOf]; omega
     | none=>
      have HS:Hid (zI ⟨true,tn⟩ ⟨gv,gn⟩ I=(I ++ [(tn,gn)],true)):=η (by unfold zI; simp only [if_true]; rw [hgb]);have aa:iU I tn=⟨#[]⟩:=by unfold iU; rw [hgb]; rfl
      have HE:Hid (bY x.args f.args b=bY (x.args.drop (k+1)) (f.args.drop (k+1)) (I ++ [(tn,gn)])):=η (by rw [HD.out,HS.out]; rfl);rw [hgb,aa] at q;clear hgb aa HS HD;have k0:=fun d os=>cell_regrown x1 d os
      have k1:=fun d os=>cell_regrown z0 d os
      have k2:=fun d os=>cell_regrown z1 d os
      have k3:=fun d os=>cell_regrown e1 d os
      have qq:=fun d os=>Calls.regrown_of (q _ (below_regrown wr d os))
      clear q
      go_wp2_with fail
      refine wp_region_quiet_below (by kernel_rfl) (by kernel_rfl) ?_
      repeat (quiet_step (exact qq _ _))
      refine wpQuiet_nil ?_;intro _ hw';obtain ⟨⟨dq,osq⟩,hw''⟩:=hw';subst hw'';have y:=below_regrown wr dq osq;generalize grow (redrawn wr dq) osq=w1 at *;clear k0 k1 k2 k3 qq;have BB:=η (hB.out.trans (y.mono hB.out.size));have BD:=η (bZ.below a4.out y);have BM:=η (hM.out.below y);clear x0 x1 y0 y1 z0 z1 r0 r1 u0 u1 u2 u3;obtain ⟨x0,x1,y0,y1,z0,z1,r0,r1⟩:=BM.out.cells;obtain ⟨u0,u1,u2,u3⟩:=BM.out.free;have ab:=ξ y a7;have ac:=ξ y a8;have aD:=ξ y e0;have aE:=ξ y e1;have q:=fun w' (hb:Below w1.heap.size w1 w')=>SH I tn gn _ _ bs' w' (bZ.below BD.out hb) (by omega) aw az
      clear y e0 e1 a7 a8 hB a4 hM
      go_wp2_with fail
      go_still_tail 13,(by kernel_rfl)
      change wpList _ _ _ _ _ w1.drew;have ap:=BM.out.below (Below.drew (Below.refl w1.heap.size w1));have qd:=q w1.drew (Below.drew ϑ);have aL:=η BB.out.drew;clear q x0 x1 y0 y1 z0 z1 r0 r1 u0 u1 u2 u3 ab ac aD aE BM BD BB;generalize w1.drew=w1' at *
      go_wp2_with fail
      refine qd.mono ?_;rintro e w2 ⟨aq,d0,d1,aM,rfl,ae,a6⟩;obtain ⟨B3,q3,B4,q4,a2⟩:=lm ae;simp only [List.cons.injEq,and_true] at a2;obtain ⟨rfl,rfl⟩:=a2;have b6:Hid ((I ++ [(tn,gn)]).length=I.length+1):=η (by simp);generalize I ++ [(tn,gn)]=b2 at *;have ag:=η (ap.below aq);obtain ⟨-,-,-,-,bo,bp,-,-⟩:=ag.out.cells;obtain ⟨bq,br,-,-⟩:=ag.out.free;have aR:=η (aL.out.trans (aq.mono aL.out.size));have b7:w.heap.size+4≤w1'.heap.size:=by have:=ψ ap.r_; omega
      have b8:=η (ag.out.setB (.slice B3 b2.length q3) (.slice B4 b2.length q4));have b9:=η (oQ (N:=w.heap.size+2) (y0:=.slice B3 b2.length q3) (y1:=.slice B4 b2.length q4) ae fun hc=>by have:=a6 _ hc; omega);have bc:=η ((aR.out.setCell (p:=⟨w.heap.size+2,0,none⟩) (by simp) (.slice B3 b2.length q3)).setCell (p:=⟨w.heap.size+2,1,none⟩) (by simp) (.slice B4 b2.length q4));have bg:Hid (∀ c ∈ aM,c ∈ bs∨w.heap.size+4≤c):=η fun c hc=>.inr (τ b7 (a6 c hc))
      have ar:b2.length≤b.length+(k+1):=by have:=b6.out; omega
      clear ae a6 aq ag aR qd ap;go_wp2;go_roundw
      case rel=>exact ⟨k+1,b2,B3,B4,q3,q4,aM,a3,by go_num,HE,ar,b9,bg,b8,bc⟩
      case measure=>simp [intOf]; omega
   ·have he:k=x.args.length:=by omega
    have b5:¬ (k:Int) < (x.args.length:Int):=by omega
    have HE:Hid (aC x f b=(I,true)):=η (by rw [HM.out,hm.out,he,List.drop_eq_nil_of_le ν,List.drop_eq_nil_of_le (by have:=a9.out; omega),bY]; intro t ts g gs h; cases h);clear hm he;go_wp2;have a5:=hM.out.WR (.slice B1 I.length q1) (.slice B2 I.length q2);obtain ⟨-,-,-,-,-,-,k0,k1⟩:=a5.cells;refine bodyPost_ret (v:=.tuple #[.agg #[.slice B1 I.length q1,.slice B2 I.length q2],.bool true]) (by simp [results,Tryz.results201,go_sem,k0,k1]) rfl ?_;refine ⟨(hB.out.setCell (p:=⟨w.heap.size+3,0,none⟩) (by simp) (.slice B1 I.length q1)).setCell (p:=⟨w.heap.size+3,1,none⟩) (by simp) (.slice B2 I.length q2),.slice B1 I.length q1,.slice B2 I.length q2,by rw [HE.out],bs',?_,fun c hc=>(J.out c hc).imp id fun h=>by omega⟩;rw [HE.out];exact oQ a4.out (fun hc=>by rcases J.out _ hc with h | h; exact absurd (ao.out _ h) (by omega); omega)
 ·have HM:Hid (aC x f b=(b,false)):=η (by unfold aC; rw [if_neg hg])
  obtain ⟨x0,x1,y0,y1,z0,z1,r0,r1⟩:=af.out.cells;obtain ⟨u0,u1,u2,u3⟩:=af.out.free;have HD:=η (bZ.below H.out HA.out);cases hs:(x.name.toList == f.name.toList)
  case' true=>
   have U:¬ x.args.length=f.args.length:=fun e=>hg ⟨by rw [toList_eq] at hs; exact of_decide_eq_true hs,e⟩
   have b4:¬ (x.args.length:Int)=(f.args.length:Int):=by omega
  all_goals
   go_enter Tryz.func201,Tryz.ntmps201
   go_wp2;refine bodyPost_ret (v:=.tuple #[.agg #[.slice A1 b.length p1,.slice A2 b.length p2],.bool false]) (by simp [results,Tryz.results201,go_sem]) rfl ⟨?_,.slice A1 b.length p1,.slice A2 b.length p2,bs,by rw [HM.out],?_,fun c hc=>.inl hc⟩
   ·exact (((ζ).alloc (by simp) _).alloc (by simp; omega) _).alloc (by simp; omega) _
   ·rw [HM.out]
    exact bZ.below H.out ((((ζ).alloc (by simp) _).alloc (by simp; omega) _).alloc (by simp; omega) _)
end
end Go.Proofs.YtkjinanbccloeaaGreatDoor
