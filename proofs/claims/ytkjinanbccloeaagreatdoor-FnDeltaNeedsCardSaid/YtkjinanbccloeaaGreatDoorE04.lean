/- Of the proof of FnDeltaNeeds: Chan, WR, BodyP, ug, VarP, LevP. -/
import Derived.Conc.LoneCalls
import Derived.Test.YtkjinanbccloeaaGreatDoorE02
import Derived.Test.YtkjinanbccloeaaGreatDoorE01
set_option linter.unusedVariables false
set_option maxHeartbeats 2000000
set_option maxRecDepth 100000
namespace Go.Proofs.YtkjinanbccloeaaGreatDoor
section
open Go.RowKit Go.Conc D
def D.WQ (P:Program) (ops:Array Oper) (is:List Nat) (Q:Exit→Act→World→Prop) (a:Act) (w:World):Prop:=
 ∀ (b:Frame) (k:List Item) (cs:List Frame),∃ e y w',Q e y w'∧Arrives P (lone (b.at a (.inRegion ops is :: k)) cs w) b k cs e y w'
section
variable {P:Program} {ops:Array Oper} {Q:Exit→Act→World→Prop} {a:Act} {w:World}
theorem D.xq {id:Nat} (h:WQ P ops (List.range ops.size) Q a w):(Code.region id ops false).wp P Q a w:=
 fun b k cs=>let ⟨e,a',w',q,r⟩:=h b k cs; ⟨e,a',w',q,.of_steps (.one step_region) r⟩
theorem D.Jh {is:List Nat} (h:wpOps P ops Q is a w):WQ P ops is Q a w:=fun b k cs=>wp_ops _ a w h b k cs
theorem D.vP {i:Nat} {rest:List Nat} {o:Oper} {v:Value} {w':World} (J:ops[i]? = some o) (U:o.guard=none) (hr:(execOp a.eval o).run P w=.ok (.value v) w') (h:WQ P ops rest Q (a.put o.dst v) w'):WQ P ops (i :: rest) Q a w:=fun b k cs=>by
 obtain ⟨e,a',w2,q,r⟩:=h b k cs;have hw:Region.wanted o (yielded ops a.tmps)=true:=by unfold Region.wanted; rw [U]
 have I:=stepG_op (P:=P) (b:=b) (k:=k) (cs:=cs) (w:=w) (rest:=rest) J hw;have y:(b.at a (.inRegion ops (i :: rest) :: k)).finish v=b.at (a.put o.dst v) (.inRegion ops rest :: k):=by rw [Frame.finish_at,J]; rfl
 refine ⟨e,a',w2,q,.of_steps (.one (step_lone_go ?_)) r⟩;rw [I,← y];simp [stepG.apply,hr]
theorem D.stepG_comm {b:Frame} {k:List Item} {cs:List Frame} {i:Nat} {rest:List Nat} {o:Oper} {cases:Array CommCase} {y:Bool} {shape:CommShape} {w':World} (J:ops[i]? = some o) (U:o.guard=none)
  (hr:(execOp a.eval o).run P w=.ok (.comm cases y shape) w'):∃ es,stepG P true (G (b.at a (.inRegion ops (i :: rest) :: k)) cs) w=.comm (G (b.at a (.inRegion ops (i :: rest) :: k)) cs) cases y shape w' es:=by
 have hw:Region.wanted o (yielded ops a.tmps)=true:=by unfold Region.wanted; rw [U]
 have I:=stepG_op (P:=P) (b:=b) (k:=k) (cs:=cs) (w:=w) (rest:=rest) J hw;simp only [stepG.apply,if_true] at I;generalize he:(execOp a.eval o).runT P w #[]=re at I;have h1:re.1=.ok (.comm cases y shape) w':=by rw [← he,← hr]; exact Sem.runT_fst ..
 obtain ⟨r,es⟩:=re;dsimp only at h1;subst h1;simp at I;exact ⟨_,I⟩
theorem D.UG {i:Nat} {rest:List Nat} {o:Oper} {v z':Value} {w':World} {c cap s r:Nat} {y:Array Value} {U:Bool} (ho:ops[i]? = some o) (hg:o.guard=none) (hr:(execOp a.eval o).run P w=.ok (.comm #[scase c v z'] true .send) w')
  (hc:w'.heap[c]? = some (.chan cap y false s r U)) (I:y.size < cap) (h:WQ P ops rest Q (a.put o.dst undef) (w'.setChan c cap (y.push v) false (s+1) r U)):WQ P ops (i :: rest) Q a w:=fun b k cs=>by
 obtain ⟨e,a',w2,q,r'⟩:=h b k cs;obtain ⟨es,hs⟩:=stepG_comm (b:=b) (k:=k) (cs:=cs) (rest:=rest) ho hg hr;have J:(b.at a (.inRegion ops (i :: rest) :: k)).finish undef=b.at (a.put o.dst undef) (.inRegion ops rest :: k):=by rw [Frame.finish_at,ho]; rfl
 have h1:=step_lone_send_room hs hc I;rw [J] at h1;exact ⟨e,a',w2,q,.of_steps (.one h1) r'⟩
theorem D.UH {i:Nat} {rest:List Nat} {o:Oper} {z:Value} {w':World} {c cap s r:Nat} {y:Array Value} {U closed ok:Bool} (ho:ops[i]? = some o) (hg:o.guard=none) (hr:(execOp a.eval o).run P w=.ok (.comm #[rcase c z] true (.recv ok)) w')
  (hc:w'.heap[c]? = some (.chan cap y closed s r U)) (I:0 < y.size) (h:WQ P ops rest Q (a.put o.dst (got ok (y.getD 0 undef) true)) (w'.setChan c cap (y.extract 1 y.size) closed s (r+1) U)):WQ P ops (i :: rest) Q a w:=fun b k cs=>by
 obtain ⟨e,a',w2,q,r'⟩:=h b k cs;obtain ⟨es,hs⟩:=stepG_comm (b:=b) (k:=k) (cs:=cs) (rest:=rest) ho hg hr;have J:∀ v,(b.at a (.inRegion ops (i :: rest) :: k)).finish v=b.at (a.put o.dst v) (.inRegion ops rest :: k):=fun v=>by rw [Frame.finish_at,ho]; rfl
 have h1:=step_lone_recv_buf ok hs hc I;rw [J] at h1;exact ⟨e,a',w2,q,.of_steps (.one h1) r'⟩
theorem D.UI {i:Nat} {rest:List Nat} {o:Oper} {z:Value} {w':World} {c cap s r:Nat} {J ok:Bool} (I:ops[i]? = some o) (U:o.guard=none) (hr:(execOp a.eval o).run P w=.ok (.comm #[rcase c z] true (.recv ok)) w')
  (hc:w'.heap[c]? = some (.chan cap #[] true s r J)) (h:WQ P ops rest Q (a.put o.dst (got ok z false)) w'):WQ P ops (i :: rest) Q a w:=fun b k cs=>by
 obtain ⟨e,a',w2,q,r'⟩:=h b k cs;obtain ⟨es,hs⟩:=stepG_comm (b:=b) (k:=k) (cs:=cs) (rest:=rest) I U hr;have y:∀ v,(b.at a (.inRegion ops (i :: rest) :: k)).finish v=b.at (a.put o.dst v) (.inRegion ops rest :: k):=fun v=>by rw [Frame.finish_at,I]; rfl
 have h1:=step_lone_recv_shut ok hs hc;rw [y] at h1;exact ⟨e,a',w2,q,.of_steps (.one h1) r'⟩
end
end
section
open Go.RowKit Go.Shelf
abbrev bT:TypeId:=184
theorem infoByte:(Tryz.prog.info? 5).map (fun i=>(i.zero,i.size,i.bytes))=some (some (.int .u8 0),1,1):=by kernel_rfl
theorem sizeBuilder:(Tryz.prog.info? bT).map (·.size)=some 2:=by kernel_rfl
theorem neB5:bT ≠ 5:=by decide
theorem liesBuilder:liesAt Tryz.prog Tryz.prog.depth bT (2 / Tryz.prog.cellsOf bT) 0 bT 1=true:=by kernel_rfl
theorem DK (b:Nat) (w:World) (h0:w.cell? ⟨b,0,none⟩=some (.pointer none)) (y:w.shape? b=some (bT,2)) (U:w.frozen? ⟨b,0,none⟩=false):
  Calls Tryz.prog 180 #[.pointer (some ⟨b,0,none⟩)] w fun e w'=>e=.returned (.tuple #[])∧w'=w.setCell ⟨b,0,none⟩ (.pointer (some ⟨b,0,none⟩)):=by
 obtain ⟨j,J,I⟩:=Option.map_eq_some_iff.1 sizeBuilder
 go_enter Tryz.func180,Tryz.ntmps180
 go_wp2;rw [Lib.run_to_unsafe w ⟨b,0,none⟩ Tryz.underlying182 Tryz.underlying307 J (by rw [I]; decide) y (Θ 1)];simp only [Result.andThen];rw [Oper.upon_value];go_wp2;rw [run_callFunc_extern Tryz.func233 (by kernel_rfl) (by kernel_rfl) (by kernel_rfl) (e:=Extern.AbiNoEscape.same) (by kernel_rfl)];rw [Lib.run_noEscape];simp only [Result.andThen];rw [Oper.upon_value];go_wp2;rw [Lib.run_from_unsafe w ⟨b,0,none⟩ Tryz.underlying307 Tryz.underlying182 J y liesBuilder];simp only [Result.andThen];rw [Oper.upon_value];go_wp2
 go_end0
 exact ⟨rfl,rfl⟩
theorem Ej (b:Nat) (w:World) (h0:w.cell? ⟨b,0,none⟩=some (.pointer (some ⟨b,0,none⟩))):
  Calls Tryz.prog 180 #[.pointer (some ⟨b,0,none⟩)] w fun e w'=>e=.returned (.tuple #[])∧w'=w:=by
 obtain ⟨j,y,_⟩:=Option.map_eq_some_iff.1 sizeBuilder
 go_enter Tryz.func180,Tryz.ntmps180
 go_wp2;rw [Lib.run_neq_ptr_same w _ Tryz.underlying182 y];go_wp2
 go_end0
 exact ⟨rfl,rfl⟩
theorem Cm (B b:Nat) (bs:List Value) (w:World) (h:Lib.IsBuilderF bT 5 B b bs w):
  Calls Tryz.prog 180 #[.pointer (some ⟨b,0,none⟩)] w fun e w'=>e=.returned (.tuple #[])∧(Lib.BuilderAtF bT 5 B b (.pointer (some ⟨b,0,none⟩)) bs w'∧Below B w w'∧Lib.OthersKept 5 (some b) w w'):=by
 rcases h with h | h
 ·refine (DK b w h.cell0 h.shape h.frozen0).mono ?_
  rintro e w' ⟨rfl,rfl⟩;exact ⟨rfl,h.used _,(Below.refl B w).setCell (p:=⟨b,0,none⟩) h.1 _,(Lib.OthersKept.refl _ _ w).setCell ⟨b,0,none⟩ rfl _⟩
 ·refine (Ej b w h.cell0).mono ?_
  rintro e w' ⟨rfl,rfl⟩;exact ⟨rfl,h,Below.refl B _,Lib.OthersKept.refl _ _ _⟩
theorem KQ (B b:Nat) (bs:List Value) (c:Int) (w:World) (h:Lib.IsBuilderF bT 5 B b bs w) (hlen:bs.length+1≤140737488355328) (a8:B≤w.heap.size):
  Calls Tryz.prog 120 #[.pointer (some ⟨b,0,none⟩),.int .u8 c] w fun e w'=>e=.returned .nilIface∧(Lib.BuilderAtF bT 5 B b (.pointer (some ⟨b,0,none⟩)) (bs ++ [.int .u8 c]) w'∧Below B w w'∧Lib.OthersKept 5 (some b) w w'):=by
 obtain ⟨i0,hi,a2,a3,a4⟩:=info_parts infoByte
 go_enter Tryz.func120,Tryz.ntmps120
 go_wp2_with (go_at_call 180; refine (Cm B b bs _ h).mono ?_)
 rintro e w1 ⟨rfl,h1,U,a5⟩;obtain ⟨hB,v,a0,I,a6⟩:=h1;have c0:w1.cell? ⟨b,0,none⟩=some (.pointer (some ⟨b,0,none⟩)):=by rw [Lib.cell_of_heap a0]; rfl
 have c1:w1.cell? ⟨b,1,none⟩=some v:=by rw [Lib.cell_of_heap a0]; rfl
 go_wp2_with (at_builtin; refine wpList_append_ownF _ rfl _ _ 22 rfl B 5 i0 (.int .u8 0) 1 1 Tryz.underlying22 hi a2 a3 a4 rfl (by decide) _ _ _ rfl (I.alloc _) ⟨w1.heap.size,0,none⟩ 1 1 [.int .u8 c] rfl rfl ?c1 ?c2 ?c3 ?c4 ?c5 ?_)
 case c1=>
  intro j u hj
  match j,hj with
  | 0,hj=>simp at hj; subst hj; simp [Addr.add]
 case c2=>intro u hu; simp at hu; subst hu; rfl
 case c3=>unfold maxLen; omega
 case c4=>omega
 case c5=>have:=U.size; simp; omega
 intro v' w2 J y _
 have a7:b < w1.heap.size:=by
  rcases Nat.lt_or_ge b w1.heap.size with h' | h'
  ·exact h'
  ·simp [Array.getElem?_eq_none h'] at a0
 have a1:w2.heap[b]? = some (.cells #[.pointer (some ⟨b,0,none⟩),v] bT (0,0)):=by
  rw [y.block b (by simp; omega) (fun e=>a6 e.symm),Lib.alloc_old w1 _ b a7];exact a0
 have d0:w2.cell? ⟨b,0,none⟩=some (.pointer (some ⟨b,0,none⟩)):=by rw [Lib.cell_of_heap a1]; rfl
 have d1:w2.cell? ⟨b,1,none⟩=some v:=by rw [Lib.cell_of_heap a1]; rfl
 have f1:w2.frozen? ⟨b,1,none⟩=false:=Lib.frozen_of_heap a1 1
 obtain ⟨g,cap,rfl⟩:∃ g cap,v'=.slice (some ⟨g,0,none⟩) (bs.length+1) cap:=by
  rcases J.2 with ⟨_,h0⟩ | ⟨g,cap,a9,fz,hv,_⟩
  ·omega
  ·exact ⟨g,cap,hv⟩
 go_wp2;go_ret;refine ⟨rfl,?_,?_,((a5.alloc _).grown y (Lib.ownsRowF_kind (I.alloc _))).setCell ⟨b,1,none⟩ rfl _⟩
 ·exact Lib.BuilderAtF.put (T:=bT) (e:=5) hB a1 (bs':=bs ++ [.int .u8 c]) (by simpa using J) neB5
 ·exact ((U.alloc (by have:=U.size; omega) _).grown y (by have:=U.size; simp; omega) (fun k hk=>(I.lt k hk).1)).setCell (p:=⟨b,1,none⟩) hB _
theorem Gg (B b:Nat) (bs:List Value) (s:ByteArray) (w:World) (h:Lib.IsBuilderF bT 5 B b bs w) (hlen:bs.length+s.size≤140737488355328) (a8:B≤w.heap.size):
  Calls Tryz.prog 119 #[.pointer (some ⟨b,0,none⟩),.string s] w fun e w'=>e=.returned (.tuple #[.int .i64 s.size,.nilIface])∧(Lib.BuilderAtF bT 5 B b (.pointer (some ⟨b,0,none⟩)) (bs ++ Lib.strCells s) w'∧Below B w w'∧Lib.OthersKept 5 (some b) w w'):=by
 obtain ⟨i0,hi,a2,a3,a4⟩:=info_parts infoByte
 go_enter Tryz.func119,Tryz.ntmps119
 go_wp2_with (go_at_call 180; refine (Cm B b bs _ h).mono ?_)
 rintro e w1 ⟨rfl,h1,a1,a5⟩;obtain ⟨hB,v,U,I,a6⟩:=h1;have c0:w1.cell? ⟨b,0,none⟩=some (.pointer (some ⟨b,0,none⟩)):=by rw [Lib.cell_of_heap U]; rfl
 have c1:w1.cell? ⟨b,1,none⟩=some v:=by rw [Lib.cell_of_heap U]; rfl
 go_wp2_with (at_builtin; refine Lib.wpList_append_own_stringF _ rfl _ _ 22 9 rfl B 5 i0 Tryz.underlying22 Tryz.underlying9 hi a2 a3 a4 _ _ _ rfl I s rfl ?c3 ?c4 ?c5 ?_)
 case c3=>unfold maxLen; omega
 case c4=>omega
 case c5=>have:=a1.size; omega
 intro v' w2 J y _
 have a7:b < w1.heap.size:=by
  rcases Nat.lt_or_ge b w1.heap.size with h' | h'
  ·exact h'
  ·simp [Array.getElem?_eq_none h'] at U
 have a0:w2.heap[b]? = some (.cells #[.pointer (some ⟨b,0,none⟩),v] bT (0,0)):=by
  rw [y.block b a7 (fun e=>a6 e.symm)];exact U
 have d0:w2.cell? ⟨b,0,none⟩=some (.pointer (some ⟨b,0,none⟩)):=by rw [Lib.cell_of_heap a0]; rfl
 have d1:w2.cell? ⟨b,1,none⟩=some v:=by rw [Lib.cell_of_heap a0]; rfl
 have f1:w2.frozen? ⟨b,1,none⟩=false:=Lib.frozen_of_heap a0 1
 obtain ⟨ao,n',cap,rfl⟩:∃ ao n' cap,v'=.slice ao n' cap:=by
  rcases J.2 with ⟨hv,_⟩ | ⟨g,cap,a9,fz,hv,_⟩
  ·exact ⟨_,_,_,hv⟩
  ·exact ⟨_,_,_,hv⟩
 go_wp2;go_ret2;refine ⟨rfl,?_,?_,(a5.grown y (Lib.ownsRowF_kind I)).setCell ⟨b,1,none⟩ rfl _⟩
 ·exact Lib.BuilderAtF.put (T:=bT) (e:=5) hB a0 (bs':=bs ++ Lib.strCells s) (by simpa [Lib.strCells_length] using J) neB5
 ·exact (a1.grown y (by have:=a1.size; omega) (fun k hk=>(I.lt k hk).1)).setCell (p:=⟨b,1,none⟩) hB _
abbrev WR (B b:Nat) (l:List UInt8) (w:World):Prop:=Lib.IsBuilderF bT 5 B b (Lib.byteCells l) w
structure Wrote (B b:Nat) (l:List UInt8) (w w':World):Prop where
 bld:WR B b l w'
 below:Below B w w'
 kept:Lib.OthersKept 5 (some b) w w'
theorem Wrote.block {B b k:Nat} {l:List UInt8} {w w':World} (h:Wrote B b l w w') {c:Array Value} {e:TypeId} {fz:Nat × Nat} (y:w.heap[k]? = some (.cells c e fz)) (hb:k ≠ b) (he:e ≠ 5):w'.heap[k]? = some (.cells c e fz):=
 h.kept k _ y (fun x=>hb (by injection x)) (fun J I x=>he (by injection x))
theorem Y8 (s:ByteArray):s.data.toList.length=s.size:=Array.length_toList
theorem WR.below {B b:Nat} {l:List UInt8} {w w':World} (h:WR B b l w) (hb:Below w.heap.size w w'):WR B b l w':=by
 have key:∀ p,Lib.BuilderAtF bT 5 B b p (Lib.byteCells l) w→Lib.BuilderAtF bT 5 B b p (Lib.byteCells l) w':=by
  rintro p ⟨hB,v,y,⟨h1,I⟩,J⟩;refine ⟨hB,v,by rw [hb.block b (ψ y)]; exact y,⟨h1,?_⟩,J⟩
  rcases I with I | ⟨g,cap,U,fz,hv,hg,hh,r⟩
  ·exact .inl I
  ·exact .inr ⟨g,cap,U,fz,hv,hg,by rw [hb.block g (ψ hh)]; exact hh,r⟩
 exact h.imp (key _) (key _)
theorem Xk (w:World):WR w.heap.size w.heap.size [] (w.alloc (.cells #[.pointer none,.slice none 0 0] bT)):=Lib.IsBuilderF.of (Lib.fresh_isBuilder bT 5 w)
theorem UJ (B b:Nat) (l:List UInt8) (c:UInt8) (n:Int) (hc:n=c.toNat) (w:World) (h:WR B b l w) (hlen:l.length≤1073741824) (y:B≤w.heap.size):
  Calls Tryz.prog 120 #[.pointer (some ⟨b,0,none⟩),.int .u8 n] w fun e w'=>e=.returned .nilIface∧Wrote B b (l ++ [c]) w w':=by
 refine (KQ B b _ n w h (by rw [Lib.byteCells_length]; omega) y).mono fun e w' h=>?_
 obtain ⟨he,h1,I,J⟩:=h;refine ⟨he,⟨?_,I,J⟩⟩;show Lib.IsBuilderF _ _ _ _ _ _;rw [Lib.byteCells_append,show Lib.byteCells [c] = [Value.int .u8 n] from by rw [hc]; rfl];exact .inr h1
theorem Yh (B b:Nat) (l:List UInt8) (s:ByteArray) (w:World) (h:WR B b l w) (hlen:l.length≤1073741824) (U:s.size≤1073741824) (y:B≤w.heap.size):
  Calls Tryz.prog 119 #[.pointer (some ⟨b,0,none⟩),.string s] w fun e w'=>e=.returned (.tuple #[.int .i64 s.size,.nilIface])∧Wrote B b (l ++ s.data.toList) w w':=by
 refine (Gg B b _ s w h (by rw [Lib.byteCells_length]; omega) y).mono fun e w' h=>?_
 obtain ⟨he,h1,I,J⟩:=h;refine ⟨he,⟨?_,I,J⟩⟩;show Lib.IsBuilderF _ _ _ _ _ _;rw [Lib.byteCells_append];exact .inr h1
theorem Y9 (B b:Nat) (l:List UInt8) (w:World) (h:WR B b l w) (y:B≤w.heap.size):
  Calls Tryz.prog 121 #[.pointer (some ⟨b,0,none⟩)] w fun e w'=>e=.returned (.string ⟨l.toArray⟩)∧Wrote B b l w w':=by
 refine (Tryz.Builder_String_any_k B b l w h y).mono fun e w' h=>?_
 obtain ⟨he,h1,I,J⟩:=h;exact ⟨he,⟨h1,I,J⟩⟩
end
section
namespace D
def qf (ps:List Pt):Bool:=decide (ps.length≤4) && ps.all fun p=>aZ p.atom
def eY (r:Ru):Bool:=qf r.body && aZ r.head
end D
end
namespace D
open Go Go.RowKit
def Em (base e:Nat) (w:World) (v:Value) (n:Nat) (L:List Value) (o:Option Nat):Prop:=(∃ A cap,v=.slice A n cap)∧w.ownsRow base e 1 v n L∧(∀ b,v.ownBlock=some b→o=some b)
def Qp (e:Nat) (w:World) (v x:Value) (o:Option Nat):Prop:=∃ l,v=.slice (some ⟨l,0,none⟩) 1 1∧w.heap[l]? = some (.cells #[x] e (0,0))∧o=some l
def KR (base:Nat) (w:World) (o:Option Nat):Prop:=∀ b,o=some b→base≤b∧b < w.heap.size
def lU (o p:Option Nat):Prop:=∀ b,o=some b→p ≠ some b
theorem uy {w w':World} {base e size n:Nat} {v:Value} {L:List Value} (h:w.ownsRow base e size v n L) (I:∀ b,v.ownBlock=some b→w'.heap[b]? = w.heap[b]?):w'.ownsRow base e size v n L:=by
 refine ⟨h.1,h.2.imp id ?_⟩;rintro ⟨g,cap,y,hv,J,U,r⟩;exact ⟨g,cap,y,hv,J,by rw [I g (by rw [hv]; rfl)]; exact U,r⟩
theorem Em.keep {base e:Nat} {w w':World} {v:Value} {n:Nat} {L:List Value} {o:Option Nat} (h:Em base e w v n L o) (y:∀ b,o=some b→w'.heap[b]? = w.heap[b]?):Em base e w' v n L o:=
 ⟨h.1,uy h.2.1 fun b hb=>y b (h.2.2 b hb),h.2.2⟩
theorem Qp.keep {e:Nat} {w w':World} {v x:Value} {o:Option Nat} (h:Qp e w v x o) (y:∀ b,o=some b→w'.heap[b]? = w.heap[b]?):Qp e w' v x o:=by
 obtain ⟨l,h1,I,rfl⟩:=h;exact ⟨l,h1,by rw [y l rfl]; exact I,rfl⟩
theorem KR.keep {base:Nat} {w w':World} {o:Option Nat} (h:KR base w o) (y:w.heap.size≤w'.heap.size):KR base w' o:=fun b hb=>⟨(h b hb).1,κ (h b hb).2 y⟩
theorem lU.new {base:Nat} {w:World} {o:Option Nat} (h:KR base w o):lU o (some w.heap.size):=fun b hb e=>by have:=(h b hb).2; simp at e; omega
theorem lU.symm {o p:Option Nat} (h:lU o p):lU p o:=fun b hb e=>h b e hb
structure ug (base e n:Nat) (L:List Value) (x:Value) (be br bs bf:Bool) (ve vr vs vf:Value) (o1 o2:Option Nat) (w:World):Prop where
 e_:be=true→br=false→Em base e w ve 0 [] o1
 r_:br=true→bf=false→Em base e w vr n L o1
 s_:bs=true→bf=false→Qp e w vs x o2
 f_:bf=true→Em base e w vf (n+1) (L ++ [x]) o1
 i1:KR base w o1
 i2:KR base w o2
 d:lU o1 o2
 hr:br=true→be=true
 hf:bf=true→br=true∧bs=true
section
variable {base e n:Nat} {L:List Value} {x:Value} {be br bs bf:Bool} {ve vr vs vf:Value} {o1 o2:Option Nat} {w w':World}
theorem ug.start:ug base e n L x false false false false ve vr vs vf none none w:=
 ⟨(fun h=>by cases h),(fun h=>by cases h),(fun h=>by cases h),(fun h=>by cases h),((fun b h=>by cases h)),((fun b h=>by cases h)),((fun b h=>by cases h)),(fun h=>by cases h),(fun h=>by cases h)⟩
theorem ug.keep (h:ug base e n L x be br bs bf ve vr vs vf o1 o2 w) (y:w.heap.size≤w'.heap.size) (h1:∀ b,o1=some b→w'.heap[b]? = w.heap[b]?) (I:∀ b,o2=some b→w'.heap[b]? = w.heap[b]?):
  ug base e n L x be br bs bf ve vr vs vf o1 o2 w':=
 ⟨fun a b=>(h.e_ a b).keep h1,fun a b=>(h.r_ a b).keep h1,fun a b=>(h.s_ a b).keep I,fun a=>(h.f_ a).keep h1,h.i1.keep y,h.i2.keep y,h.d,h.hr,h.hf⟩
theorem ug.below (h:ug base e n L x be br bs bf ve vr vs vf o1 o2 w) (hb:Below w.heap.size w w'):ug base e n L x be br bs bf ve vr vs vf o1 o2 w':=
 h.keep hb.size (fun b y=>hb.block b (h.i1 b y).2) fun b I=>hb.block b (h.i2 b I).2
theorem ug.beside (h:ug base e n L x be br bs bf ve vr vs vf o1 o2 w) {o:Option Nat} (I:w.grownBy w' o) (J:w.heap.size≤w'.heap.size) (h1:lU o o1) (U:lU o o2):ug base e n L x be br bs bf ve vr vs vf o1 o2 w':=
 h.keep J (fun b hb=>I.block b (h.i1 b hb).2 fun y=>h1 b y.symm hb) fun b hb=>I.block b (h.i2 b hb).2 fun y=>U b y.symm hb
theorem ug.UK (h:ug base e n L x false br bs bf ve vr vs vf o1 o2 w) (hb:base≤w.heap.size):ug base e n L x true br bs bf (.slice (some ⟨w.heap.size,0,none⟩) 0 0) vr vs vf (some w.heap.size) o2 (w.alloc (.cells #[] e)):=by
 have J:Below w.heap.size w (w.alloc (.cells #[] e)):=ζ
 have y:br=false:=by cases br with
  | false=>rfl
  | true=>exact absurd (h.hr rfl) (by simp)
 have I:bf=false:=by cases bf with
  | false=>rfl
  | true=>rw [y] at h; exact absurd (h.hf rfl).1 (by simp)
 subst y I;refine ⟨fun _ _=>⟨⟨_,_,rfl⟩,zJ (ω w _) hb,fun b hb=>by simpa [Value.ownBlock] using hb⟩,(fun h=>by cases h),fun a b=>(h.s_ a b).keep fun b hb=>J.block b (h.i2 b hb).2,(fun h=>by cases h),fun b hb=>?_,h.i2.keep J.size,(lU.new h.i2).symm,fun _=>rfl,(fun h=>by cases h)⟩;simp at hb;subst hb;simp;exact hb
theorem ug.stepS (h:ug base e n L x be br false bf ve vr vs vf o1 o2 w) (hb:base≤w.heap.size):ug base e n L x be br true bf ve vr (.slice (some ⟨w.heap.size,0,none⟩) 1 1) vf o1 (some w.heap.size) (w.alloc (.cells #[x] e)):=by
 have I:Below w.heap.size w (w.alloc (.cells #[x] e)):=ζ;have J:=fun b hb=>I.block b (h.i1 b hb).2
 have y:bf=false:=by cases bf with
  | false=>rfl
  | true=>exact absurd (h.hf rfl).2 (by simp)
 subst y;refine ⟨fun a b=>(h.e_ a b).keep J,fun a b=>(h.r_ a b).keep J,fun _ _=>⟨_,rfl,ω w _,rfl⟩,(fun h=>by cases h),h.i1.keep I.size,fun b hb=>?_,lU.new h.i1,h.hr,(fun h=>by cases h)⟩;simp at hb;subst hb;simp;exact hb
theorem ug.fU (h:ug base e n L x true false bs bf ve vr vs vf o1 o2 w) (hb:base≤w.heap.size) {A:Option Addr} {cap:Nat} (y:w'.ownsRow base e 1 (.slice A n cap) n L) (hg:w.grownBy w' ve.ownBlock) (hs:w.heap.size≤w'.heap.size)
  (I:(Value.slice A n cap).ownBlock=ve.ownBlock∨(Value.slice A n cap).ownBlock=some w.heap.size) (hin:KR base w' (Value.slice A n cap).ownBlock):
  ug base e n L x true true bs bf ve (.slice A n cap) vs vf (Value.slice A n cap).ownBlock o2 w':=by
 have U:bf=false:=by cases bf with
  | false=>rfl
  | true=>exact absurd (h.hf rfl).1 (by simp)
 subst U;have hE:=h.e_ rfl rfl;have a0:∀ b,o2=some b→w'.heap[b]? = w.heap[b]?:=fun b hb=>hg.block b (h.i2 b hb).2 fun e'=>h.d b (hE.2.2 b e'.symm) hb
 refine ⟨(fun _ h=>by cases h),fun _ _=>⟨⟨_,_,rfl⟩,y,fun b hb=>hb⟩,fun a b=>(h.s_ a b).keep a0,(fun h=>by cases h),hin,h.i2.keep hs,fun b hb J=>?_,fun _=>rfl,(fun h=>by cases h)⟩
 rcases I with hl | hl
 ·rw [hl] at hb
  exact h.d b (hE.2.2 b hb) J
 ·rw [hl] at hb
  have:=(h.i2 b J).2;simp at hb;omega
theorem ug.UL (h:ug base e n L x true true true false ve vr vs vf o1 o2 w) (hb:base≤w.heap.size) {A:Option Addr} {cap:Nat} (y:w'.ownsRow base e 1 (.slice A (n+1) cap) (n+1) (L ++ [x])) (hg:w.grownBy w' vr.ownBlock) (hs:w.heap.size≤w'.heap.size)
  (I:(Value.slice A (n+1) cap).ownBlock=vr.ownBlock∨(Value.slice A (n+1) cap).ownBlock=some w.heap.size) (hin:KR base w' (Value.slice A (n+1) cap).ownBlock):
  ug base e n L x true true true true ve vr vs (.slice A (n+1) cap) (Value.slice A (n+1) cap).ownBlock o2 w':=by
 have hE:=h.r_ rfl rfl;refine ⟨(fun _ h=>by cases h),(fun _ h=>by cases h),(fun _ h=>by cases h),fun _=>⟨⟨_,_,rfl⟩,y,fun b hb=>hb⟩,hin,h.i2.keep hs,fun b hb J=>?_,fun _=>rfl,fun _=>⟨rfl,rfl⟩⟩
 rcases I with U | U
 ·rw [U] at hb
  exact h.d b (hE.2.2 b hb) J
 ·rw [U] at hb
  have:=(h.i2 b J).2;simp at hb;omega
end
theorem jJ {base e size n:Nat} {w:World} {v:Value} {L:List Value} (h:w.ownsRow base e size v n L):KR base w v.ownBlock:=fun b hb=>by
 rcases h.2 with ⟨rfl,_⟩ | ⟨g,cap,y,rfl,I,J,_⟩
 ·simp [Value.ownBlock] at hb
 ·have:g=b:=by simpa [Value.ownBlock] using hb
  subst this;exact ⟨I,ψ J⟩
end D
namespace D
open Go.RowKit
def jX:List ByteArray→ByteArray→List ByteArray
 | [],s=>[s]
 | x :: xs,s=>if gJ x s < 0 then x :: jX xs s else if gJ x s=0 then x :: xs else s :: x :: xs
def nK:List ByteArray→ByteArray→Nat
 | [],_=>0
 | x :: xs,s=>if gJ x s < 0 then nK xs s+1 else 0
def oZ (xs:List ByteArray):Prop:=xs.Pairwise fun a b=>gJ a b < 0
theorem UM:∀ (xs:List ByteArray) (s:ByteArray),nK xs s≤xs.length
 | [],_=>ν
 | x :: xs,s=>by
  unfold nK; have:=UM xs s
  split
  ·simpa using this
  ·simp
theorem UN:∀ (xs:List ByteArray) (s:ByteArray) (k:Nat) (h:k < xs.length),k < nK xs s→gJ xs[k] s < 0
 | x :: xs,s,0,_,hk=>by
  unfold nK at hk
  split at hk
  ·assumption
  ·omega
 | x :: xs,s,k+1,h,hk=>by
  unfold nK at hk
  split at hk
  ·exact UN xs s k (by simpa using h) (by omega)
  ·omega
theorem OQ:∀ (xs:List ByteArray) (s:ByteArray) (h:nK xs s < xs.length),¬ gJ xs[nK xs s] s < 0
 | x :: xs,s,h=>by
  by_cases hc:gJ x s < 0
  ·have e:nK (x :: xs) s=nK xs s+1:=by rw [nK,if_pos hc]
   have y:nK xs s < xs.length:=by rw [e] at h; simpa using h
   have:=OQ xs s y;simp only [e,List.getElem_cons_succ];exact this
  ·have e:nK (x :: xs) s=0:=by rw [nK,if_neg hc]
   simp only [e,List.getElem_cons_zero];exact hc
theorem KT:∀ (xs:List ByteArray) (s:ByteArray) (h:nK xs s < xs.length),gJ xs[nK xs s] s=0→jX xs s=xs
 | x :: xs,s,h,h0=>by
  unfold jX;by_cases hc:gJ x s < 0
  ·have e:nK (x :: xs) s=nK xs s+1:=by rw [nK,if_pos hc]
   have y:nK xs s < xs.length:=by rw [e] at h; simpa using h
   simp only [e,List.getElem_cons_succ] at h0;rw [if_pos hc,KT xs s y h0]
  ·have e:nK (x :: xs) s=0:=by rw [nK,if_neg hc]
   simp only [e,List.getElem_cons_zero] at h0;rw [if_neg hc,if_pos h0]
theorem En:∀ (xs:List ByteArray) (s:ByteArray),(∀ h:nK xs s < xs.length,gJ xs[nK xs s] s ≠ 0)→jX xs s=xs.take (nK xs s) ++ [s] ++ xs.drop (nK xs s)
 | [],s,_=>by simp [jX,nK]
 | x :: xs,s,h=>by
  unfold jX;by_cases hc:gJ x s < 0
  ·have e:nK (x :: xs) s=nK xs s+1:=by rw [nK,if_pos hc]
   have ih:=En xs s (fun y=>by
    have:=h (by rw [e]; simpa using y);simp only [e,List.getElem_cons_succ] at this
    exact this)
   rw [if_pos hc,ih,e]; simp
  ·have e:nK (x :: xs) s=0:=by rw [nK,if_neg hc]
   have:=h (by rw [e]; simp);simp only [e,List.getElem_cons_zero] at this;rw [if_neg hc,if_neg this,e]; simp
theorem yA:∀ (xs:List ByteArray) (s x:ByteArray),x ∈ jX xs s ↔ x ∈ xs∨x=s
 | [],s,x=>by simp [jX]
 | y :: xs,s,x=>by
  unfold jX
  split
  ·rw [ύ,yA xs s x,ύ,or_assoc]
  ·split
   ·rename_i h
    have:=(iL.eq _ _).1 h;subst this;simp only [ύ];constructor
    ·exact .inl
    ·rintro (h | h)
     ·exact h
     ·exact .inl h
   ·simp only [ύ]
    constructor
    ·rintro (h | h | h)
     ·exact .inr h
     ·exact .inl (.inl h)
     ·exact .inl (.inr h)
    ·rintro ((h | h) | h)
     ·exact .inr (.inl h)
     ·exact .inr (.inr h)
     ·exact .inl h
theorem Eo:∀ {xs:List ByteArray} (s:ByteArray),oZ xs→oZ (jX xs s)
 | [],s,_=>by unfold jX oZ; exact List.pairwise_singleton _ _
 | x :: xs,s,h=>by
  unfold jX;have J:=List.pairwise_cons.1 h
  split
  ·rename_i hc
   exact List.pairwise_cons.2 ⟨fun y I=>((yA xs s y).1 I).elim (J.1 y) (fun e=>e ▸ hc),Eo s J.2⟩
  ·rename_i hc
   split
   ·exact h
   ·rename_i hn
    have U:gJ s x < 0:=by have:=iL.anti x s; omega
    refine List.pairwise_cons.2 ⟨fun y I=>?_,h⟩
    rcases ύ.1 I with rfl | I
    ·exact U
    ·exact iL.qc U (by have:=J.1 y I; omega)
theorem UO (xs:List ByteArray) (s:ByteArray):(jX xs s).length≤xs.length+1:=by
 induction xs with
 | nil=>simp [jX]
 | cons x xs ih=>
  unfold jX
  split
  ·simp; exact ih
  ·split <;> simp
theorem xu {xs:List ByteArray} (h:oZ xs):xs.Nodup:=h.imp fun {a b} y e=>by subst e; have:=iL.refl a; omega
theorem o6:oZ []:=List.Pairwise.nil
def lK (a:A) (out:List ByteArray):List ByteArray:=a.args.foldl (fun o t=>if t.var then jX o t.name else o) out
def fF (ps:List Pt) (out:List ByteArray):List ByteArray:=ps.foldl (fun o p=>lK p.atom o) out
def fO (h:A) (ps:List Pt):Bool:=decide ((fF ps (lK h [])).length=(fF (ps.filter fun p=>!p.no) []).length)
def aF (ps:List Pt):List ByteArray:=fF ps []
def kS (x:ByteArray) (y:List T):Prop:=∃ t ∈ y,t.var=true∧t.name=x
theorem Ep:∀ (I:List T) (out:List ByteArray) (x:ByteArray),x ∈ I.foldl (fun o t=>if t.var then jX o t.name else o) out ↔ x ∈ out∨kS x I
 | [],out,x=>by simp [kS]
 | t :: I,out,x=>by
  rw [List.foldl_cons,Ep I];unfold kS;cases hv:t.var
  ·rw [if_neg (by simp)]
   constructor
   ·rintro (h | ⟨u,h1,y⟩)
    ·exact .inl h
    ·exact .inr ⟨u,Δ _ h1,y⟩
   ·rintro (h | ⟨u,h1,y⟩)
    ·exact .inl h
    ·rcases ύ.1 h1 with rfl | h1
     ·rw [hv] at y; simp at y
     ·exact .inr ⟨u,h1,y⟩
  ·rw [if_pos rfl,yA]
   constructor
   ·rintro ((h | h) | ⟨u,h1,y⟩)
    ·exact .inl h
    ·exact .inr ⟨t,Γ,hv,h.symm⟩
    ·exact .inr ⟨u,Δ _ h1,y⟩
   ·rintro (h | ⟨u,h1,y⟩)
    ·exact .inl (.inl h)
    ·rcases ύ.1 h1 with rfl | h1
     ·exact .inl (.inr y.2.symm)
     ·exact .inr ⟨u,h1,y⟩
theorem AQ (a:A) (out:List ByteArray) (x:ByteArray):x ∈ lK a out ↔ x ∈ out∨kS x a.args:=Ep _ _ _
theorem Es:∀ (y:List T) {out:List ByteArray},oZ out→oZ (y.foldl (fun o t=>if t.var then jX o t.name else o) out)
 | [],_,h=>h
 | t :: y,out,h=>by
  rw [List.foldl_cons];refine Es y ?_
  split
  ·exact Eo _ h
  ·exact h
theorem Hl (a:A) {out:List ByteArray} (h:oZ out):oZ (lK a out):=Es _ h
theorem xw:∀ (y:List T) (out:List ByteArray),(y.foldl (fun o t=>if t.var then jX o t.name else o) out).length≤out.length+y.length
 | [],out=>by simp
 | t :: y,out=>by
  rw [List.foldl_cons];have h1:=xw y (if t.var then jX out t.name else out)
  have I:(if t.var then jX out t.name else out).length≤out.length+1:=by
   split
   ·exact UO _ _
   ·omega
  simp only [List.length_cons];omega
theorem Ho (a:A) (out:List ByteArray):(lK a out).length≤out.length+a.args.length:=xw _ _
theorem iG:∀ (ps:List Pt) (out:List ByteArray) (x:ByteArray),x ∈ fF ps out ↔ x ∈ out∨∃ p ∈ ps,kS x p.atom.args
 | [],out,x=>by simp [fF]
 | p :: ps,out,x=>by
  have e:fF (p :: ps) out=fF ps (lK p.atom out):=rfl;rw [e,iG ps,AQ];constructor
  ·rintro ((h | h) | ⟨q,h1,y⟩)
   ·exact .inl h
   ·exact .inr ⟨p,Γ,h⟩
   ·exact .inr ⟨q,Δ _ h1,y⟩
  ·rintro (h | ⟨q,h1,y⟩)
   ·exact .inl (.inl h)
   ·rcases ύ.1 h1 with rfl | h1
    ·exact .inl (.inr y)
    ·exact .inr ⟨q,h1,y⟩
theorem ng:∀ (ps:List Pt) {out:List ByteArray},oZ out→oZ (fF ps out)
 | [],_,h=>h
 | p :: ps,out,h=>by
  have e:fF (p :: ps) out=fF ps (lK p.atom out):=rfl;rw [e]; exact ng ps (Hl _ h)
theorem pq:∀ (ps:List Pt) (out:List ByteArray),(fF ps out).length≤out.length+je (fun p=>p.atom.args.length) ps
 | [],out=>by simp [fF]
 | p :: ps,out=>by
  have e:fF (p :: ps) out=fF ps (lK p.atom out):=rfl;have h1:=pq ps (lK p.atom out);have I:=Ho p.atom out;have y:je (fun p:Pt=>p.atom.args.length) (p :: ps)=p.atom.args.length+je (fun p=>p.atom.args.length) ps:=by simp [je]
  rw [e,y];omega
theorem KU (ps:List Pt) (k:Nat) (h:k < ps.length) (out:List ByteArray):fF (ps.take (k+1)) out=lK ps[k].atom (fF (ps.take k) out):=by
 unfold fF; rw [ρ h,List.foldl_append]; rfl
theorem OT (a:A) (k:Nat) (h:k < a.args.length) (out:List ByteArray):
  (a.args.take (k+1)).foldl (fun o t=>if t.var then jX o t.name else o) out=(if a.args[k].var then jX ((a.args.take k).foldl (fun o t=>if t.var then jX o t.name else o) out) a.args[k].name else (a.args.take k).foldl (fun o t=>if t.var then jX o t.name else o) out):=by
 rw [ρ h,List.foldl_append]; rfl
theorem KW (ps:List Pt) (k:Nat) (h:k < ps.length):(ps.take (k+1)).filter (fun p=>!p.no)=(ps.take k).filter (fun p=>!p.no) ++ (if ps[k].no then [] else [ps[k]]):=by
 rw [ρ h,List.filter_append]
 congr 1
 cases hn:ps[k].no <;> simp [hn]
theorem Qq:∀ {xs ys:List ByteArray},xs.Nodup→(∀ x ∈ xs,x ∈ ys)→ys.length≤xs.length→∀ y ∈ ys,y ∈ xs
 | [],ys,_,_,hl,y,hy=>by
  have:ys = []:=List.length_eq_zero_iff.1 (by simpa using hl);subst this; simp at hy
 | x :: xs,ys,hn,hs,hl,y,hy=>by
  have hx:=hs x Γ;obtain ⟨l,r,rfl⟩:=List.append_of_mem hx;have I:=List.nodup_cons.1 hn
  have ih:=Qq (xs:=xs) (ys:=l ++ r) I.2 (fun z U=>by
   have:=hs z (Δ _ U);have J:z ≠ x:=fun e=>I.1 (e ▸ U)
   rcases μ.1 this with h | h
   ·exact μ.2 (.inl h)
   ·rcases ύ.1 h with h | h
    ·exact absurd h J
    ·exact μ.2 (.inr h)) (by simp at hl ⊢; omega)
  by_cases e:y=x
  ·exact e ▸ Γ
  ·refine Δ _ (ih y ?_)
   rcases μ.1 hy with h | h
   ·exact μ.2 (.inl h)
   ·rcases ύ.1 h with h | h
    ·exact absurd h e
    ·exact μ.2 (.inr h)
theorem rM:∀ {xs ys:List ByteArray},xs.Nodup→(∀ x ∈ xs,x ∈ ys)→xs.length≤ys.length
 | [],ys,_,_=>ε
 | x :: xs,ys,hn,hs=>by
  have U:=hs x Γ;obtain ⟨l,r,rfl⟩:=List.append_of_mem U;have y:=List.nodup_cons.1 hn
  have ih:=rM (xs:=xs) (ys:=l ++ r) y.2 (fun z J=>by
   have:=hs z (Δ _ J);have I:z ≠ x:=fun e=>y.1 (e ▸ J)
   rcases μ.1 this with h | h
   ·exact μ.2 (.inl h)
   ·rcases ύ.1 h with h | h
    ·exact absurd h I
    ·exact μ.2 (.inr h))
  simp at ih ⊢; omega
def jf (ps:List Pt) (x:ByteArray):Bool:=ps.any fun p=>!p.no && p.atom.args.any fun t=>t.var && decide (gJ t.name x=0)
def gY (ps:List Pt) (a:A):Bool:=a.args.all fun t=>!t.var || jf ps t.name
def uz (ps:List Pt):Bool:=!ps.all fun p=>gY ps p.atom
theorem pF (ps:List Pt) (x:ByteArray):jf ps x=true ↔ x ∈ fF (ps.filter fun p=>!p.no) []:=by
 rw [iG];unfold jf kS;simp only [List.any_eq_true,ο,Bool.not_eq_true',decide_eq_true_eq,iL.eq,List.mem_filter,List.not_mem_nil,false_or];constructor
 ·rintro ⟨p,h1,y,t,I,J,U⟩
  exact ⟨p,⟨h1,y⟩,t,I,J,U⟩
 ·rintro ⟨p,⟨h1,y⟩,t,I,J,U⟩
  exact ⟨p,h1,y,t,I,J,U⟩
theorem rO (ps:List Pt) (a:A):gY ps a=true ↔ ∀ x,kS x a.args→jf ps x=true:=by
 unfold gY kS;rw [ό];constructor
 ·rintro h x ⟨t,h1,y,rfl⟩
  have:=h t h1;rw [y] at this;simpa using this
 ·intro h t I
  cases hv:t.var
  ·rfl
  ·rw [h t.name ⟨t,I,hv,rfl⟩]; rfl
theorem Hq (h:A) (ps:List Pt):fO h ps=true ↔ (∀ x,kS x h.args→jf ps x=true)∧uz ps=false:=by
 unfold fO uz;rw [decide_eq_true_iff];have U:=xu (ng (ps.filter fun p=>!p.no) o6);have a0:=xu (ng ps (Hl h o6))
 have I:∀ x ∈ fF (ps.filter fun p=>!p.no) [],x ∈ fF ps (lK h []):=fun x y=>by
  rw [iG] at y ⊢
  rcases y with y | ⟨p,hp,y⟩
  ·simp at y
  ·exact .inr ⟨p,(List.mem_filter.1 hp).1,y⟩
 simp only [Bool.not_eq_false',ό,rO];constructor
 ·intro hl
  have J:=Qq U I (Nat.le_of_eq hl);refine ⟨fun x y=>(pF ps x).2 (J x ((iG ..).2 (.inl ((AQ ..).2 (.inr y))))),fun p hp x y=>(pF ps x).2 (J x ((iG ..).2 (.inr ⟨p,hp,y⟩)))⟩
 ·rintro ⟨h1,h2⟩
  refine Nat.le_antisymm (rM a0 fun x y=>?_) (rM U I)
  rcases (iG ..).1 y with y | ⟨p,hp,y⟩
  ·rcases (AQ ..).1 y with y | y
   ·simp at y
   ·exact (pF ps x).1 (h1 x y)
  ·exact (pF ps x).1 (h2 p hp x y)
theorem qL {α:Type} [DecidableEq α]:∀ {I l2:List α},I.Nodup→(∀ x ∈ I,x ∈ l2)→I.length≤l2.length
 | [],_,_,_=>ε
 | x :: r,l2,h,hs=>by
  obtain ⟨h1,h2⟩:=List.nodup_cons.1 h;have U:=hs x Γ
  have:=qL (l2:=l2.erase x) h2 fun y hy=>by
   have J:y ≠ x:=by rintro rfl; exact h1 hy
   exact (List.mem_erase_of_ne J).2 (hs y (Δ _ hy))
  have hl:=List.length_erase_of_mem U;have hp:=List.length_pos_of_mem U;simp only [List.length_cons];omega
theorem Yi {l:List Nat} {N x:Nat} (hl:l.length≤N) (hx:x ∈ l) (hN:N≤x):∃ g,g < N∧g ∉ l:=by
 refine Classical.byContradiction fun h=>?_
 have I:∀ g,g < N→g ∈ l:=fun g hg=>Classical.byContradiction fun hn=>h ⟨g,hg,hn⟩
 have J:(x :: List.range N).Nodup:=List.nodup_cons.2 ⟨fun hm=>by have:=List.mem_range.1 hm; omega,List.nodup_range⟩
 have:=qL J (l2:=l) fun y U=>by
  rcases ύ.1 U with rfl | U
  ·exact hx
  ·exact I y (List.mem_range.1 U)
 simp at this;omega
theorem Ji {α:Type} {f g:α→Nat}:∀ {l:List α},(∀ x ∈ l,f x≤g x)→(l.map f).sum≤(l.map g).sum
 | [],_=>ν
 | x :: r,h=>by
  have h1:=h x Γ;have J:=Ji (l:=r) fun y I=>h y (Δ _ I)
  simp only [List.map_cons,List.sum_cons];omega
theorem sum_lt {α:Type} {f g:α→Nat}:∀ {l:List α},(∀ x ∈ l,f x≤g x)→(∃ x ∈ l,f x < g x)→(l.map f).sum < (l.map g).sum
 | [],_,⟨x,I,_⟩=>by simp at I
 | y :: r,h,⟨x,I,hlt⟩=>by
  have h1:=h y Γ;simp only [List.map_cons,List.sum_cons]
  rcases ύ.1 I with rfl | I
  ·have U:=Ji (l:=r) fun z J=>h z (Δ _ J)
   omega
  ·have U:=sum_lt (l:=r) (fun z J=>h z (Δ _ J)) ⟨x,I,hlt⟩
   omega
theorem bytes_beq (a b:ByteArray):(a == b)=(a.data == b.data):=rfl
instance YZ:LawfulBEq ByteArray where
 eq_of_beq {a b} h:=by rw [bytes_beq] at h; cases a; cases b; exact congrArg _ (eq_of_beq h)
 rfl {a}:=by rw [bytes_beq]; exact beq_self_eq_true _
def bI (rs:List Ru):List ByteArray:=rs.map fun r=>r.head.name
def dZ (acc:List ByteArray) (n:ByteArray):List ByteArray:=if n ∈ acc then acc else acc ++ [n]
def aN (rs:List Ru):List ByteArray:=(bI rs).foldl dZ []
theorem dP {acc:List ByteArray} {n x:ByteArray}:x ∈ dZ acc n ↔ x ∈ acc∨x=n:=by
 unfold dZ
 split
 ·rename_i h
  exact ⟨.inl,fun y=>y.elim id (fun e=>e ▸ h)⟩
 ·simp
theorem qg:∀ (y acc:List ByteArray),acc.Nodup→(y.foldl dZ acc).Nodup∧(∀ x,x ∈ y.foldl dZ acc ↔ x ∈ acc∨x ∈ y)∧(y.foldl dZ acc).length≤acc.length+y.length
 | [],acc,h=>⟨h,fun x=>by simp,by simp⟩
 | n :: y,acc,h=>by
  have hn:(dZ acc n).Nodup:=by
   unfold dZ
   split
   ·exact h
   ·rename_i hm
    exact List.nodup_append.2 ⟨h,by simp,fun a ha b hb e=>by rw [ώ.1 hb] at e; exact hm (e ▸ ha)⟩
  obtain ⟨i1,i2,I⟩:=qg y (dZ acc n) hn;refine ⟨i1,fun x=>?_,?_⟩
  ·rw [List.foldl_cons,i2,dP,ύ,or_assoc]
  ·rw [List.foldl_cons,List.length_cons]
   have:(dZ acc n).length≤acc.length+1:=by unfold dZ; split <;> simp
   omega
theorem jK {rs:List Ru} {x:ByteArray}:x ∈ aN rs ↔ x ∈ bI rs:=by
 have h:=(qg (bI rs) [] List.nodup_nil).2.1 x;unfold aN;rw [h]; simp
theorem Et (rs:List Ru):(aN rs).length≤rs.length:=by
 have:=(qg (bI rs) [] List.nodup_nil).2.2;simpa [bI,aN] using this
def DL (p:Pt):Nat:=if p.no then 1 else 0
def OU (rs:List Ru) (S:ByteArray→Nat):Prop:=∀ r ∈ rs,∀ p ∈ r.body,p.atom.name ∈ bI rs→S p.atom.name+DL p≤S r.head.name
theorem head_mem {rs:List Ru} {r:Ru} (h:r ∈ rs):r.head.name ∈ bI rs:=List.mem_map.2 ⟨r,h,rfl⟩
theorem Ro {rs:List Ru}:∀ (m:Nat) (S:ByteArray→Nat),OU rs S→((aN rs).map S).sum≤m→∃ T,OU rs T∧∀ n ∈ bI rs,T n < (aN rs).length:=by
 intro m
 induction m with
 | zero=>
  intro S J hm;refine ⟨S,J,fun n hn=>?_⟩;have hp:=List.length_pos_of_mem (jK.2 hn)
  have U:∀ (l:List Nat) (x:Nat),x ∈ l→x≤l.sum:=by
   intro l
   induction l with
   | nil=>intro x I; simp at I
   | cons y l ih=>intro x I; rw [List.sum_cons]; rcases ύ.1 I with rfl | I; omega; have:=ih x I; omega
  have:S n≤((aN rs).map S).sum:=U _ _ (List.mem_map.2 ⟨n,jK.2 hn,rfl⟩);omega
 | succ m ih=>
  intro S J hm;by_cases I:∃ x ∈ (aN rs).map S,(aN rs).length≤x
  ·obtain ⟨x,I,hN⟩:=I
   obtain ⟨g,hg,a0⟩:=Yi (l:=(aN rs).map S) (by simp) I hN;obtain ⟨nx,a1,rfl⟩:=List.mem_map.1 I;refine ih (fun n=>if g < S n then S n - 1 else S n) (fun r hr p hp hh=>?_) ?_
   ·have h0:=J r hr p hp hh
    have a2:S p.atom.name ≠ g:=fun e=>a0 (List.mem_map.2 ⟨_,jK.2 hh,e⟩)
    have a3:DL p≤1:=by unfold DL; split <;> omega
    dsimp only
    split <;> split <;> omega
   ·have:=sum_lt (l:=aN rs) (f:=fun n=>if g < S n then S n - 1 else S n) (g:=S) (fun y _=>by split <;> omega) ⟨nx,a1,by rw [if_pos (by omega)]; omega⟩
    omega
  ·refine ⟨S,J,fun n hn=>?_⟩
   refine Nat.lt_of_not_le fun h=>I ⟨S n,List.mem_map.2 ⟨n,jK.2 hn,rfl⟩,h⟩
theorem Hr {rs:List Ru} {S:ByteArray→Nat} (h:OU rs S):∃ T,OU rs T∧∀ n ∈ bI rs,T n < (aN rs).length:=Ro _ S h ν
def iZ (out:List Nat) (i:Nat):Nat:=out.getD i 0
theorem qh {out:List Nat} {i j v:Nat} (h:i < out.length):iZ (out.set i v) j=if i=j then v else iZ out j:=by
 unfold iZ;rw [List.getD_eq_getElem?_getD,List.getD_eq_getElem?_getD,List.getElem?_set];by_cases e:i=j
 ·subst e; rw [if_pos rfl,if_pos rfl,if_pos h]; rfl
 ·rw [if_neg e,if_neg e]
def lg (n:Nat) (y:ByteArray) (i k:Nat) (out:List Nat) (p:Pt):List Nat:=
 if p.atom.name=y then (if iZ out i < iZ out k+DL p∧iZ out i≤n then out.set i (iZ out k+DL p) else out) else out
def oh (y I:ByteArray) (i k:Nat) (out:List Nat):List Nat:=if I=y∧iZ out i < iZ out k then out.set i (iZ out k) else out
def dQ (rs:List Ru) (i:Nat):Ru:=rs.getD i ⟨⟨⟨#[]⟩,[]⟩,[]⟩
def yB (rs:List Ru) (i:Nat) (out:List Nat) (k:Nat):List Nat:=
 (dQ rs i).body.foldl (lg rs.length (dQ rs k).head.name i k) (oh (dQ rs i).head.name (dQ rs k).head.name i k out)
def Rq (rs:List Ru) (out:List Nat) (i:Nat):List Nat:=(List.range rs.length).foldl (yB rs i) out
def qp (rs:List Ru) (out:List Nat):List Nat:=(List.range rs.length).foldl (Rq rs) out
def AU (rs:List Ru):Nat→List Nat
 | 0=>List.replicate rs.length 0
 | m+1=>qp rs (AU rs m)
def aA (rs:List Ru):List Nat:=AU rs ((rs.length+1) * (rs.length+2))
def mG (rs:List Ru):Bool:=(aA rs).any fun x=>decide (rs.length≤x)
def Up (a b:List Nat):Prop:=b.length=a.length∧∀ i,iZ a i≤iZ b i
theorem Up.refl (a:List Nat):Up a a:=⟨rfl,fun _=>ν⟩
theorem Up.trans {a b c:List Nat} (h:Up a b) (k:Up b c):Up a c:=⟨k.1.trans h.1,fun i=>τ (h.2 i) (k.2 i)⟩
theorem Up.eq {a b:List Nat} (h:Up a b) (k:Up b a):a=b:=by
 refine List.ext_getElem h.1.symm fun i h1 y=>?_
 have I:iZ a i=a[i]:=by unfold iZ; rw [List.getD_eq_getElem?_getD,Ψ h1]; rfl
 have J:iZ b i=b[i]:=by unfold iZ; rw [List.getD_eq_getElem?_getD,Ψ y]; rfl
 have U:=h.2 i;have h4:=k.2 i;omega
theorem OV {out:List Nat} {i v:Nat} (h:iZ out i≤v):Up out (out.set i v):=by
 refine ⟨by simp,fun j=>?_⟩;by_cases y:i < out.length
 ·rw [qh y]
  split
  ·rename_i e; subst e; exact h
  ·exact ν
 ·rw [List.set_eq_of_length_le (by omega)]; exact ν
theorem yC (n:Nat) (y:ByteArray) (i k:Nat) (out:List Nat) (p:Pt):Up out (lg n y i k out p):=by
 unfold lg
 split
 ·split
  ·rename_i h; exact OV (by omega)
  ·exact Up.refl _
 ·exact Up.refl _
theorem Eu (y I:ByteArray) (i k:Nat) (out:List Nat):Up out (oh y I i k out):=by
 unfold oh
 split
 ·rename_i h; exact OV (by omega)
 ·exact Up.refl _
theorem qM {β:Type} {f:List Nat→β→List Nat} (hf:∀ o x,Up o (f o x)):∀ (l:List β) (out:List Nat),Up out (l.foldl f out)
 | [],out=>Up.refl _
 | x :: r,out=>(hf out x).trans (qM hf r _)
theorem rP {β:Type} {f:List Nat→β→List Nat} (hf:∀ o x,Up o (f o x)):∀ (l:List β) (out:List Nat),l.foldl f out=out→∀ x ∈ l,f out x=out
 | [],_,_,x,I=>by simp at I
 | y :: r,out,h,x,I=>by
  have h1:=hf out y;have J:=qM hf r (f out y);rw [List.foldl_cons] at h;rw [h] at J;have e:=h1.eq J;rw [← e] at h
  rcases ύ.1 I with rfl | I
  ·exact e.symm
  ·exact rP hf r out h x I
theorem KX (rs:List Ru) (i:Nat) (out:List Nat) (k:Nat):Up out (yB rs i out k):=(Eu _ _ _ _ _).trans (qM (fun o x=>yC _ _ _ _ o x) _ _)
theorem Qr (rs:List Ru) (out:List Nat) (i:Nat):Up out (Rq rs out i):=qM (fun o x=>KX rs i o x) _ _
theorem AV (rs:List Ru) (out:List Nat):Up out (qp rs out):=qM (fun o x=>Qr rs o x) _ _
theorem Jj (rs:List Ru):∀ m,(AU rs m).length=rs.length
 | 0=>by simp [AU]
 | m+1=>by rw [AU,(AV rs _).1,Jj rs m]
theorem gu (rs:List Ru):(aA rs).length=rs.length:=Jj rs _
def Yj (rs:List Ru) (T:ByteArray→Nat) (out:List Nat):Prop:=∀ i,i < rs.length→iZ out i≤T (dQ rs i).head.name
theorem pG {rs:List Ru} {i:Nat} (h:i < rs.length):dQ rs i ∈ rs:=by
 unfold dQ;rw [List.getD_eq_getElem?_getD,Ψ h];exact δ h
theorem rQ {α β:Type} {P:α→Prop} {f:α→β→α}:∀ {l:List β} {a:α},(∀ a x,x ∈ l→P a→P (f a x))→P a→P (l.foldl f a)
 | [],_,_,h=>h
 | x :: r,a,hf,h=>rQ (l:=r) (fun a y I=>hf a y (Δ _ I)) (hf a x Γ h)
theorem Rt {rs:List Ru} {T:ByteArray→Nat} (hT:OU rs T) {out:List Nat} (hl:out.length=rs.length) (h:Yj rs T out):(qp rs out).length=rs.length∧Yj rs T (qp rs out):=by
 unfold qp;refine rQ (P:=fun o=>o.length=rs.length∧Yj rs T o) (fun o i hi J=>?_) ⟨hl,h⟩;have hi:=List.mem_range.1 hi;unfold Rq;refine rQ (P:=fun o=>o.length=rs.length∧Yj rs T o) (fun o k U J=>?_) J;have U:=List.mem_range.1 U;unfold yB;refine rQ (P:=fun o=>o.length=rs.length∧Yj rs T o) (fun o p hp J=>?_) ?_
 ·obtain ⟨h1,y⟩:=J
  refine ⟨by rw [(yC _ _ _ _ o p).1,h1],fun j I=>?_⟩;unfold lg
  split
  ·rename_i hn
   split
   ·rw [qh (by omega)]
    split
    ·rename_i e
     subst e;have h3:=hT _ (pG hi) p hp (by rw [hn]; exact head_mem (pG U));have h4:=y k U;rw [hn] at h3;omega
    ·exact y j I
   ·exact y j I
  ·exact y j I
 ·obtain ⟨h1,y⟩:=J
  refine ⟨by rw [(Eu _ _ _ _ o).1,h1],fun j I=>?_⟩;unfold oh
  split
  ·rename_i hc
   rw [qh (by omega)]
   split
   ·rename_i e
    subst e;rw [← hc.1];exact y k U
   ·exact y j I
  ·exact y j I
theorem UQ {rs:List Ru} {T:ByteArray→Nat} (y:OU rs T):∀ m,Yj rs T (AU rs m)
 | 0=>fun i I=>by
  have:iZ (AU rs 0) i=0:=by unfold AU iZ; rw [List.getD_eq_getElem?_getD,List.getElem?_replicate]; split <;> rfl
  omega
 | m+1=>(Rt y (Jj rs m) (UQ y m)).2
theorem Ew {rs:List Ru} {T:ByteArray→Nat} (y:OU rs T):Yj rs T (aA rs):=UQ y _
def Closed (rs:List Ru) (out:List Nat):Prop:=∀ i,i < rs.length→∀ k,k < rs.length→
 ((dQ rs k).head.name=(dQ rs i).head.name→iZ out k≤iZ out i)∧∀ p ∈ (dQ rs i).body,p.atom.name=(dQ rs k).head.name→iZ out k+DL p≤iZ out i
theorem AX {out:List Nat} {i v:Nat} (h:i < out.length) (e:out.set i v=out):iZ out i=v:=by
 have:=qh (j:=i) (v:=v) h;rw [e,if_pos rfl] at this;exact this
theorem Rw {rs:List Ru} {out:List Nat} (hl:out.length=rs.length) (hs:qp rs out=out) (hn:∀ i,i < rs.length→iZ out i≤rs.length):Closed rs out:=by
 intro i hi k hk;have h1:=rP (fun o x=>Qr rs o x) _ _ hs i (List.mem_range.2 hi);have I:=rP (fun o x=>KX rs i o x) _ _ h1 k (List.mem_range.2 hk)
 have J:oh (dQ rs i).head.name (dQ rs k).head.name i k out=out:=by
  have a1:=Eu (dQ rs i).head.name (dQ rs k).head.name i k out;have a2:=qM (fun o x=>yC rs.length (dQ rs k).head.name i k o x) (dQ rs i).body (oh (dQ rs i).head.name (dQ rs k).head.name i k out);unfold yB at I;rw [I] at a2;exact (a1.eq a2).symm
 unfold yB at I;rw [J] at I;have h4:=rP (fun o x=>yC rs.length (dQ rs k).head.name i k o x) _ _ I;refine ⟨fun e=>?_,fun p hp e=>?_⟩
 ·refine Nat.le_of_not_lt fun y=>?_
  unfold oh at J;rw [if_pos ⟨e,y⟩] at J;have:=AX (by omega) J;omega
 ·refine Nat.le_of_not_lt fun y=>?_
  have U:=h4 p hp;unfold lg at U;rw [if_pos e,if_pos ⟨y,hn i hi⟩] at U;have:=AX (by omega) U;omega
theorem UR {a b:List Nat} (h:Up a b) (I:b ≠ a):a.sum < b.sum:=by
 have key:∀ (a b:List Nat),b.length=a.length→(∀ i,iZ a i≤iZ b i)→a.sum≤b.sum∧(b ≠ a→a.sum < b.sum):=by
  intro a
  induction a with
  | nil=>intro b U _; have:b = []:=List.length_eq_zero_iff.1 U; subst this; exact ⟨ν,fun h=>absurd rfl h⟩
  | cons x xs ih=>
   intro b U J
   cases b with
   | nil=>simp at U
   | cons y ys=>
    have h0:x≤y:=J 0;have h1:∀ i,iZ xs i≤iZ ys i:=fun i=>J (i+1)
    obtain ⟨i1,i2⟩:=ih ys (by simpa using U) h1;simp only [List.sum_cons];refine ⟨by omega,fun I=>?_⟩;by_cases e:ys=xs
    ·have:y ≠ x:=fun e2=>I (by rw [e,e2])
     omega
    ·have:=i2 e; omega
 exact (key a b h.1 h.2).2 I
theorem Ht {out:List Nat} {n:Nat} (h:∀ i,i < out.length→iZ out i≤n):out.sum≤out.length * n:=by
 induction out with
 | nil=>simp
 | cons x xs ih=>
  have h0:x≤n:=h 0 (by simp);have h1:=ih fun i y=>h (i+1) (by simp; omega)
  simp only [List.sum_cons,List.length_cons,Nat.add_mul];omega
theorem Ze (rs : List Ru) : ∀ {m k : Nat}, m ≤ k → Up (AU rs m) (AU rs k) := by
  intro m k h
  induction k with
  | zero => obtain rfl : m = 0 := by omega
            exact Up.refl _
  | succ k ih =>
    by_cases e : m = k + 1
    · subst e; exact Up.refl _
    · exact (ih (by omega)).trans (AV rs _)
theorem UU (rs : List Ru) {m : Nat} (h : qp rs (AU rs m) = AU rs m) : ∀ k, m ≤ k → AU rs k = AU rs m := by
  intro k y
  induction k with
  | zero => obtain rfl : m = 0 := by omega
            rfl
  | succ k ih =>
    by_cases e : m = k + 1
    · rw [e]
    · rw [AU, ih (by omega), h]
theorem KY (rs:List Ru):(∃ i,i < rs.length∧rs.length < iZ (aA rs) i)∨Closed rs (aA rs):=by
 by_cases U:∃ i,i < rs.length∧rs.length < iZ (aA rs) i
 ·exact .inl U
 ·have y:∀ i,i < rs.length→iZ (aA rs) i≤rs.length:=fun i hi=>Nat.le_of_not_lt fun h=>U ⟨i,hi,h⟩
  by_cases hs:qp rs (aA rs)=aA rs
  ·exact .inr (Rw (gu rs) hs y)
  ·exfalso
   have J:∀ m,m≤(rs.length+1) * (rs.length+2)→m≤(AU rs m).sum:=by
    intro m
    induction m with
    | zero=>intro _; exact ε
    | succ m ih=>
     intro hm;have h1:=ih (by omega)
     have I:qp rs (AU rs m) ≠ AU rs m:=fun e=>by
      have:=UU rs e _ (show m≤(rs.length+1) * (rs.length+2) by omega);refine hs ?_;unfold aA;rw [this];exact e
     have h3:=UR (AV rs (AU rs m)) I;show m+1≤(qp rs (AU rs m)).sum;omega
   have h1:=J _ ν;have I:=Ht (out:=aA rs) (n:=rs.length) (by rw [gu]; exact y);rw [gu] at I
   have h3:rs.length * rs.length < (rs.length+1) * (rs.length+2):=by
    have:(rs.length+1) * (rs.length+2)=rs.length * rs.length+3 * rs.length+2:=by
     rw [Nat.add_mul,Nat.mul_add]; omega
    omega
   unfold aA at I;omega
def fP (rs:List Ru) (n:ByteArray):Nat:=iZ (aA rs) ((bI rs).idxOf n)
theorem Rx {rs:List Ru} {out:List Nat} (h:Closed rs out) {i k:Nat} (y:i < rs.length) (I:k < rs.length) (e:(dQ rs k).head.name=(dQ rs i).head.name):iZ out k=iZ out i:=
 Nat.le_antisymm ((h i y k I).1 e) ((h k I i y).1 e.symm)
theorem KZ {rs:List Ru} {n:ByteArray} (h:n ∈ bI rs):(bI rs).idxOf n < rs.length∧(dQ rs ((bI rs).idxOf n)).head.name=n:=by
 have h1:=List.idxOf_lt_length_of_mem h;have I:=List.getElem_idxOf h1;have h3:(bI rs).length=rs.length:=by simp [bI]
 refine ⟨by omega,?_⟩;have y:(bI rs).idxOf n < rs.length:=by omega
 have J:dQ rs ((bI rs).idxOf n)=rs[(bI rs).idxOf n]:=by
  unfold dQ;rw [List.getD_eq_getElem?_getD,Ψ y]; rfl
 have U:∀ i (h:i < rs.length) (h':i < (bI rs).length),(bI rs)[i]=rs[i].head.name:=fun i h h'=>by simp [bI]
 rw [J,← U _ y h1,I]
theorem lG {rs:List Ru} (h:Closed rs (aA rs)):OU rs (fP rs)∧∀ i,i < rs.length→iZ (aA rs) i=fP rs (dQ rs i).head.name:=by
 have he:∀ i,i < rs.length→iZ (aA rs) i=fP rs (dQ rs i).head.name:=fun i y=>by
  obtain ⟨h1,I⟩:=KZ (head_mem (pG y));unfold fP;exact Rx h h1 y I.symm
 refine ⟨fun r hr p U hh=>?_,he⟩;obtain ⟨i,y,rfl⟩:=List.mem_iff_getElem.1 hr;have er:dQ rs i=rs[i]:=by unfold dQ; rw [List.getD_eq_getElem?_getD,Ψ y]; rfl
 obtain ⟨h1,I⟩:=KZ hh;have h3:=(h i y _ h1).2 p (by rw [er]; exact U) I.symm;have J:=he i y;rw [er] at J;rw [← J];exact h3
theorem Yk {rs:List Ru} (h:mG rs=true) (S:ByteArray→Nat):¬ OU rs S:=by
 intro U;obtain ⟨T,hT,hs⟩:=Hr U;unfold mG at h;obtain ⟨x,hx,y⟩:=List.any_eq_true.1 h;have y:=of_decide_eq_true y;obtain ⟨i,J,rfl⟩:=List.mem_iff_getElem.1 hx;have I:i < rs.length:=by rw [gu] at J; exact J
 have h1:=Ew hT i I;have h2:=hs _ (head_mem (pG I));have h3:=Et rs;have e:iZ (aA rs) i=(aA rs)[i]:=by unfold iZ; rw [List.getD_eq_getElem?_getD,Ψ J]; rfl
 omega
theorem OW {rs:List Ru} (h:mG rs=false):Closed rs (aA rs):=by
 refine (KY rs).resolve_left fun ⟨i,I,hn⟩=>?_
 unfold mG at h;have y:i < (aA rs).length:=by rw [gu]; exact I
 have e:iZ (aA rs) i=(aA rs)[i]:=by unfold iZ; rw [List.getD_eq_getElem?_getD,Ψ y]; rfl
 have:=List.any_eq_false.1 h (aA rs)[i] (δ y);simp at this;omega
theorem Ry {rs:List Ru} (h:∀ S,¬ OU rs S):mG rs=true:=by
 cases hc:mG rs
 ·exact absurd (lG (OW hc)).1 (h _)
 ·rfl
theorem vS {rs:List Ru} {S:ByteArray→Nat} (h:OU rs S):mG rs=false:=by
 cases hc:mG rs
 ·rfl
 ·exact absurd h (Yk hc S)
theorem UW {rs:List Ru} {S:ByteArray→Nat} (h:OU rs S) (I:∀ T,OU rs T→∀ n ∈ bI rs,S n≤T n):∀ i,i < rs.length→S (dQ rs i).head.name=iZ (aA rs) i:=fun i y=>by
 have hc:=lG (OW (vS h));have h1:=I _ hc.1 _ (head_mem (pG y));have J:=Ew h i y;have U:=hc.2 i y;omega
end D
end Go.Proofs.YtkjinanbccloeaaGreatDoor
