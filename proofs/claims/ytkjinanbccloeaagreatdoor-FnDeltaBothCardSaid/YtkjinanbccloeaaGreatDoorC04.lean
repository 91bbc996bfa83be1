/- Of the proof of FnDeltaBoth: oH, Chan, Wx, BodyP, tN, VarP. -/
import Derived.Test.YtkjinanbccloeaaGreatDoorC02
import Derived.Conc.LoneCalls
import Derived.Test.YtkjinanbccloeaaGreatDoorC01
set_option linter.unusedVariables false
set_option maxHeartbeats 2000000
set_option maxRecDepth 100000
namespace Go.Proofs.YtkjinanbccloeaaGreatDoor
section
open Go.RowKit Go.ChangeMaps Go.MapKept D
structure D.KI (P:Program) (kt:TypeId) (W:World→Prop) (S:Value→Prop):Prop where
 check:∀ (w:World) (em:Bool) {v:Value},S v→(Instr.checkKey em 10000 kt v).run P w=.ok () w
 find:∀ {w:World},W w→∀ {k:Value},S k→∀ (es:List MapEntry),(∀ e ∈ es,S e.key)→
  ((Instr.findKey kt k es).run P w=.ok none w∧∀ e ∈ es,e.key ≠ k)∨∃ i e,(Instr.findKey kt k es).run P w=.ok (some (i,e.val)) w∧es[i]? = some e∧e.key=k
 same:∀ {v:Value},S v→Instr.sameBits 10000 v v=true
structure D.XW (P:Program) (kt:TypeId) (W:World→Prop) (S:Value→Prop):Prop where
 now:∃ d,P.underlying kt=some d∧∀ a b,S a→S b→Instr.sameNow d a b=none
 eq:∀ {w:World} {a b:Value},W w→S a→S b→∃ r:Bool,(Op.equal kt a b).run P w=.ok r w∧(r=true ↔ a=b)
structure D.oH (S:Value→Prop) (b:Nat) (L:List (Value × Value)) (w:World):Prop where
 blk:∃ es clock,w.heap[b]? = some (.map es clock)∧es.toList.map (fun e=>(e.key,e.val))=L
 keys:∀ p ∈ L,S p.1
 once:L.Pairwise fun p q=>p.1 ≠ q.1
section
variable {P:Program} {kt:TypeId} {W:World→Prop} {S:Value→Prop}
theorem yB (hK:XW P kt W S) {w:World} (hW:W w) {k:Value} (hk:S k):∀ (es:List MapEntry) (y:Nat),(∀ e ∈ es,S e.key)→
  ((Instr.findAsking kt k es y).run P w=.ok none w∧∀ e ∈ es,e.key ≠ k)∨∃ i e,(Instr.findAsking kt k es y).run P w=.ok (some (y+i,e.val)) w∧es[i]? = some e∧e.key=k
 | [],y,_=>.inl ⟨rfl,fun e he=>by simp at he⟩
 | e :: es,y,hs=>by
  obtain ⟨r,hr,I⟩:=hK.eq hW hk (hs e Γ)
  cases r with
  | true=>
   refine .inr ⟨0,e,?_,rfl,(I.1 rfl).symm⟩;unfold Instr.findAsking;simp [go_sem,hr]
  | false=>
   have U:e.key ≠ k:=fun h=>by have:=I.2 h.symm; simp at this
   rcases yB hK hW hk es (y+1) (fun x J=>hs x (Δ _ J)) with ⟨h1,h2⟩ | ⟨i,e',h1,h2,h3⟩
   ·refine .inl ⟨?_,fun x J=>?_⟩
    ·unfold Instr.findAsking
     simp [go_sem,hr,h1]
    ·rcases ύ.1 J with rfl | J
     ·exact U
     ·exact h2 x J
   ·refine .inr ⟨i+1,e',?_,by simpa using h2,h3⟩
    have:y+1+i=y+(i+1):=by omega
    rw [this] at h1;unfold Instr.findAsking;simp [go_sem,hr,h1]
theorem QY (hK:XW P kt W S) {w:World} (U:W w) {k:Value} (y:S k) (es:List MapEntry) (I:∀ e ∈ es,S e.key):
  ((Instr.findKey kt k es).run P w=.ok none w∧∀ e ∈ es,e.key ≠ k)∨∃ i e,(Instr.findKey kt k es).run P w=.ok (some (i,e.val)) w∧es[i]? = some e∧e.key=k:=by
 obtain ⟨d,J,hn⟩:=hK.now
 cases es with
 | nil=>exact .inl ⟨by simp [Instr.findKey,Instr.findNow,run_underlying J,Result.andThen],fun e he=>by simp at he⟩
 | cons e es=>
  have h0:Instr.findNow d k (e :: es) 0=none:=by
   unfold Instr.findNow;rw [hn _ _ y (I e Γ)]
  have hf:(Instr.findKey kt k (e :: es)).run P w=(Instr.findAsking kt k (e :: es)).run P w:=by simp [Instr.findKey,run_underlying J,h0,Result.andThen]
  rw [hf]
  rcases yB hK U y (e :: es) 0 I with h | ⟨i,e',h1,h2,h3⟩
  ·exact .inl h
  ·exact .inr ⟨i,e',by simpa using h1,h2,h3⟩
theorem ni (hK:KI P kt W S) {w:World} (y:W w) {k:Value} (I:S k) (es:List MapEntry) (J:∀ e ∈ es,S e.key):
 ((Instr.findKey kt k es).run P w=.ok none w∧∀ e ∈ es,e.key ≠ k)∨∃ i e,(Instr.findKey kt k es).run P w=.ok (some (i,e.val)) w∧es[i]? = some e∧e.key=k:=hK.find y I es J
theorem D.WV {L:List (Value × Value)} (h:L.Pairwise fun p q=>p.1 ≠ q.1) {i j:Nat} {p q:Value × Value} (J:L[i]? = some p) (U:L[j]? = some q) (e:p.1=q.1):i=j:=by
 obtain ⟨y,rfl⟩:=List.getElem?_eq_some_iff.1 J;obtain ⟨I,rfl⟩:=List.getElem?_eq_some_iff.1 U
 rcases Nat.lt_trichotomy i j with h1 | h1 | h1
 ·exact absurd e (List.pairwise_iff_getElem.1 h i j y I h1)
 ·exact h1
 ·exact absurd e.symm (List.pairwise_iff_getElem.1 h j i I y h1)
theorem D.oH.same {b:Nat} {L:List (Value × Value)} {w w':World} (h:oH S b L w) (e:w'.heap[b]? = w.heap[b]?):oH S b L w':=by
 obtain ⟨⟨es,c,h1,y⟩,I,J⟩:=h;exact ⟨⟨es,c,e.trans h1,y⟩,I,J⟩
theorem D.oH.below {b:Nat} {L:List (Value × Value)} {w w':World} {B:Nat} (h:oH S b L w) (hb:Below B w w') (hB:b < B):oH S b L w':=h.same (hb.block b hB)
theorem D.oH.made (w:World):oH S w.heap.size [] (w.alloc (.map #[] 0)):=
 ⟨⟨#[],0,(MapKept.heap_alloc w _).1,rfl⟩,fun p h=>by simp at h,List.Pairwise.nil⟩
section
variable {ops:Array Oper} {rest:List Oper} {o:Oper} {a:Act} {Q:Exit→Act→World→Prop}
theorem rH (hK:KI P kt W S) {w:World} (hW:W w) (c:Bool) {t e:TypeId} (ht:P.underlying t=some (.map kt e))
  {b:Nat} {L:List (Value × Value)} (h:oH S b L w) {k v:Value} (hk:(k,v) ∈ L):(Instr.lookup t (.map (some b)) k c).run P w=.ok (if c then .tuple #[v,.bool true] else v) w:=by
 obtain ⟨⟨es,ck,hb,rfl⟩,h2,h3⟩:=h;have hS:S k:=h2 _ hk;have U:∀ e ∈ es.toList,S e.key:=fun e he=>h2 (e.key,e.val) (List.mem_map.2 ⟨e,he,rfl⟩)
 obtain ⟨e0,I,y⟩:=List.mem_map.1 hk;simp only [Prod.mk.injEq] at y
 rcases ni hK hW hS es.toList U with ⟨h5,J⟩ | ⟨i,e1,h5,J,h7⟩
 ·exact absurd y.1 (J e0 I)
 ·obtain ⟨j,hj,ej⟩:=List.getElem_of_mem I
  have a0:j=i:=WV h3 (p:=(e0.key,e0.val)) (q:=(e1.key,e1.val)) (by simp [Ψ hj,ej]) (by simp [J]) (by simp [y.1,h7])
  have a1:e1.val=v:=by
   rw [← a0,Ψ hj,ej] at J;rw [← y.2,Option.some.inj J]
  simp [Instr.lookup,run_underlying ht,MapKept.run_getObj_map hb,hK.check w _ hS,h5,a1,Result.andThen]
theorem D.lZ {w:World} {b:Nat} {es:Array MapEntry} {c:Nat} (hb:w.heap[b]? = some (.map es c)) (o:Obj):w.grownBy (setBlock w b o) (some b):=
 ⟨rfl,rfl,rfl,by simp [setBlock],fun i _ y=>heap_setBlock_other hb _ (fun e=>y (by rw [e]))⟩
end
end
end
section
open Go.RowKit Go.Conc D
def D.Wv (P:Program) (ops:Array Oper) (is:List Nat) (Q:Exit→Act→World→Prop) (a:Act) (w:World):Prop:=
 ∀ (b:Frame) (k:List Item) (cs:List Frame),∃ e y w',Q e y w'∧Arrives P (lone (b.at a (.inRegion ops is :: k)) cs w) b k cs e y w'
section
variable {P:Program} {ops:Array Oper} {Q:Exit→Act→World→Prop} {a:Act} {w:World}
theorem D.xw {id:Nat} (h:Wv P ops (List.range ops.size) Q a w):(Code.region id ops false).wp P Q a w:=
 fun b k cs=>let ⟨e,a',w',q,r⟩:=h b k cs; ⟨e,a',w',q,.of_steps (.one step_region) r⟩
theorem D.Jg {is:List Nat} (h:wpOps P ops Q is a w):Wv P ops is Q a w:=fun b k cs=>wp_ops _ a w h b k cs
theorem D.vO {i:Nat} {rest:List Nat} {o:Oper} {v:Value} {w':World} (J:ops[i]? = some o) (U:o.guard=none) (hr:(execOp a.eval o).run P w=.ok (.value v) w') (h:Wv P ops rest Q (a.put o.dst v) w'):Wv P ops (i :: rest) Q a w:=fun b k cs=>by
 obtain ⟨e,a',w2,q,r⟩:=h b k cs;have hw:Region.wanted o (yielded ops a.tmps)=true:=by unfold Region.wanted; rw [U]
 have I:=stepG_op (P:=P) (b:=b) (k:=k) (cs:=cs) (w:=w) (rest:=rest) J hw;have y:(b.at a (.inRegion ops (i :: rest) :: k)).finish v=b.at (a.put o.dst v) (.inRegion ops rest :: k):=by rw [Frame.finish_at,J]; rfl
 refine ⟨e,a',w2,q,.of_steps (.one (step_lone_go ?_)) r⟩;rw [I,← y];simp [stepG.apply,hr]
theorem D.stepG_comm {b:Frame} {k:List Item} {cs:List Frame} {i:Nat} {rest:List Nat} {o:Oper} {cases:Array CommCase} {y:Bool} {shape:CommShape} {w':World} (J:ops[i]? = some o) (U:o.guard=none)
  (hr:(execOp a.eval o).run P w=.ok (.comm cases y shape) w'):∃ es,stepG P true (G (b.at a (.inRegion ops (i :: rest) :: k)) cs) w=.comm (G (b.at a (.inRegion ops (i :: rest) :: k)) cs) cases y shape w' es:=by
 have hw:Region.wanted o (yielded ops a.tmps)=true:=by unfold Region.wanted; rw [U]
 have I:=stepG_op (P:=P) (b:=b) (k:=k) (cs:=cs) (w:=w) (rest:=rest) J hw;simp only [stepG.apply,if_true] at I;generalize he:(execOp a.eval o).runT P w #[]=re at I;have h1:re.1=.ok (.comm cases y shape) w':=by rw [← he,← hr]; exact Sem.runT_fst ..
 obtain ⟨r,es⟩:=re;dsimp only at h1;subst h1;simp at I;exact ⟨_,I⟩
theorem D.Ut {i:Nat} {rest:List Nat} {o:Oper} {v z':Value} {w':World} {c cap s r:Nat} {y:Array Value} {U:Bool} (ho:ops[i]? = some o) (hg:o.guard=none) (hr:(execOp a.eval o).run P w=.ok (.comm #[scase c v z'] true .send) w')
  (hc:w'.heap[c]? = some (.chan cap y false s r U)) (I:y.size < cap) (h:Wv P ops rest Q (a.put o.dst undef) (w'.setChan c cap (y.push v) false (s+1) r U)):Wv P ops (i :: rest) Q a w:=fun b k cs=>by
 obtain ⟨e,a',w2,q,r'⟩:=h b k cs;obtain ⟨es,hs⟩:=stepG_comm (b:=b) (k:=k) (cs:=cs) (rest:=rest) ho hg hr;have J:(b.at a (.inRegion ops (i :: rest) :: k)).finish undef=b.at (a.put o.dst undef) (.inRegion ops rest :: k):=by rw [Frame.finish_at,ho]; rfl
 have h1:=step_lone_send_room hs hc I;rw [J] at h1;exact ⟨e,a',w2,q,.of_steps (.one h1) r'⟩
theorem D.Uu {i:Nat} {rest:List Nat} {o:Oper} {z:Value} {w':World} {c cap s r:Nat} {y:Array Value} {U closed ok:Bool} (ho:ops[i]? = some o) (hg:o.guard=none) (hr:(execOp a.eval o).run P w=.ok (.comm #[rcase c z] true (.recv ok)) w')
  (hc:w'.heap[c]? = some (.chan cap y closed s r U)) (I:0 < y.size) (h:Wv P ops rest Q (a.put o.dst (got ok (y.getD 0 undef) true)) (w'.setChan c cap (y.extract 1 y.size) closed s (r+1) U)):Wv P ops (i :: rest) Q a w:=fun b k cs=>by
 obtain ⟨e,a',w2,q,r'⟩:=h b k cs;obtain ⟨es,hs⟩:=stepG_comm (b:=b) (k:=k) (cs:=cs) (rest:=rest) ho hg hr;have J:∀ v,(b.at a (.inRegion ops (i :: rest) :: k)).finish v=b.at (a.put o.dst v) (.inRegion ops rest :: k):=fun v=>by rw [Frame.finish_at,ho]; rfl
 have h1:=step_lone_recv_buf ok hs hc I;rw [J] at h1;exact ⟨e,a',w2,q,.of_steps (.one h1) r'⟩
theorem D.Uw {i:Nat} {rest:List Nat} {o:Oper} {z:Value} {w':World} {c cap s r:Nat} {J ok:Bool} (I:ops[i]? = some o) (U:o.guard=none) (hr:(execOp a.eval o).run P w=.ok (.comm #[rcase c z] true (.recv ok)) w')
  (hc:w'.heap[c]? = some (.chan cap #[] true s r J)) (h:Wv P ops rest Q (a.put o.dst (got ok z false)) w'):Wv P ops (i :: rest) Q a w:=fun b k cs=>by
 obtain ⟨e,a',w2,q,r'⟩:=h b k cs;obtain ⟨es,hs⟩:=stepG_comm (b:=b) (k:=k) (cs:=cs) (rest:=rest) I U hr;have y:∀ v,(b.at a (.inRegion ops (i :: rest) :: k)).finish v=b.at (a.put o.dst v) (.inRegion ops rest :: k):=fun v=>by rw [Frame.finish_at,I]; rfl
 have h1:=step_lone_recv_shut ok hs hc;rw [y] at h1;exact ⟨e,a',w2,q,.of_steps (.one h1) r'⟩
end
end
section
open Go.RowKit Go.Shelf
abbrev bT:TypeId:=184
theorem infoByte:(Tryz.prog.info? 5).map (fun i=>(i.zero,i.size,i.bytes))=some (some (.int .u8 0),1,1):=by kernel_rfl
theorem sizeBuilder:(Tryz.prog.info? bT).map (·.size)=some 2:=by kernel_rfl
theorem neB5:bT ≠ 5:=by decide
theorem liesBuilder:liesAt Tryz.prog Tryz.prog.depth bT (2 / Tryz.prog.cellsOf bT) 0 bT 1=true:=by kernel_rfl
theorem DK (b:Nat) (w:World) (h0:w.cell? ⟨b,0,none⟩=some (.pointer none)) (y:w.shape? b=some (bT,2)) (U:w.frozen? ⟨b,0,none⟩=false):
  Calls Tryz.prog 180 #[.pointer (some ⟨b,0,none⟩)] w fun e w'=>e=.returned (.tuple #[])∧w'=w.setCell ⟨b,0,none⟩ (.pointer (some ⟨b,0,none⟩)):=by
 obtain ⟨j,J,I⟩:=Option.map_eq_some_iff.1 sizeBuilder
 go_enter Tryz.func180,Tryz.ntmps180
 go_wp2;rw [Lib.run_to_unsafe w ⟨b,0,none⟩ Tryz.underlying182 Tryz.underlying307 J (by rw [I]; decide) y (Θ 1)];simp only [Result.andThen];rw [Oper.upon_value];go_wp2;rw [run_callFunc_extern Tryz.func233 (by kernel_rfl) (by kernel_rfl) (by kernel_rfl) (e:=Extern.AbiNoEscape.same) (by kernel_rfl)];rw [Lib.run_noEscape];simp only [Result.andThen];rw [Oper.upon_value];go_wp2;rw [Lib.run_from_unsafe w ⟨b,0,none⟩ Tryz.underlying307 Tryz.underlying182 J y liesBuilder];simp only [Result.andThen];rw [Oper.upon_value];go_wp2
 go_end0
 exact ⟨rfl,rfl⟩
theorem Es (b:Nat) (w:World) (h0:w.cell? ⟨b,0,none⟩=some (.pointer (some ⟨b,0,none⟩))):
  Calls Tryz.prog 180 #[.pointer (some ⟨b,0,none⟩)] w fun e w'=>e=.returned (.tuple #[])∧w'=w:=by
 obtain ⟨j,y,_⟩:=Option.map_eq_some_iff.1 sizeBuilder
 go_enter Tryz.func180,Tryz.ntmps180
 go_wp2;rw [Lib.run_neq_ptr_same w _ Tryz.underlying182 y];go_wp2
 go_end0
 exact ⟨rfl,rfl⟩
theorem BP (B b:Nat) (bs:List Value) (w:World) (h:Lib.IsBuilderF bT 5 B b bs w):
  Calls Tryz.prog 180 #[.pointer (some ⟨b,0,none⟩)] w fun e w'=>e=.returned (.tuple #[])∧(Lib.BuilderAtF bT 5 B b (.pointer (some ⟨b,0,none⟩)) bs w'∧Below B w w'∧Lib.OthersKept 5 (some b) w w'):=by
 rcases h with h | h
 ·refine (DK b w h.cell0 h.shape h.frozen0).mono ?_
  rintro e w' ⟨rfl,rfl⟩;exact ⟨rfl,h.used _,(Below.refl B w).setCell (p:=⟨b,0,none⟩) h.1 _,(Lib.OthersKept.refl _ _ w).setCell ⟨b,0,none⟩ rfl _⟩
 ·refine (Es b w h.cell0).mono ?_
  rintro e w' ⟨rfl,rfl⟩;exact ⟨rfl,h,Below.refl B _,Lib.OthersKept.refl _ _ _⟩
theorem KJ (B b:Nat) (bs:List Value) (c:Int) (w:World) (h:Lib.IsBuilderF bT 5 B b bs w) (hlen:bs.length+1≤140737488355328) (a8:B≤w.heap.size):
  Calls Tryz.prog 120 #[.pointer (some ⟨b,0,none⟩),.int .u8 c] w fun e w'=>e=.returned .nilIface∧(Lib.BuilderAtF bT 5 B b (.pointer (some ⟨b,0,none⟩)) (bs ++ [.int .u8 c]) w'∧Below B w w'∧Lib.OthersKept 5 (some b) w w'):=by
 obtain ⟨i0,hi,a2,a3,a4⟩:=info_parts infoByte
 go_enter Tryz.func120,Tryz.ntmps120
 go_wp2_with (go_at_call 180; refine (BP B b bs _ h).mono ?_)
 rintro e w1 ⟨rfl,h1,U,a5⟩;obtain ⟨hB,v,a0,I,a6⟩:=h1;have c0:w1.cell? ⟨b,0,none⟩=some (.pointer (some ⟨b,0,none⟩)):=by rw [Lib.cell_of_heap a0]; rfl
 have c1:w1.cell? ⟨b,1,none⟩=some v:=by rw [Lib.cell_of_heap a0]; rfl
 go_wp2_with (at_builtin; refine wpList_append_ownF _ rfl _ _ 22 rfl B 5 i0 (.int .u8 0) 1 1 Tryz.underlying22 hi a2 a3 a4 rfl (by decide) _ _ _ rfl (I.alloc _) ⟨w1.heap.size,0,none⟩ 1 1 [.int .u8 c] rfl rfl ?c1 ?c2 ?c3 ?c4 ?c5 ?_)
 case c1=>
  intro j u hj
  match j,hj with
  | 0,hj=>simp at hj; subst hj; simp [Addr.add]
 case c2=>intro u hu; simp at hu; subst hu; rfl
 case c3=>unfold maxLen; omega
 case c4=>omega
 case c5=>have:=U.size; simp; omega
 intro v' w2 J y _
 have a7:b < w1.heap.size:=by
  rcases Nat.lt_or_ge b w1.heap.size with h' | h'
  ·exact h'
  ·simp [Array.getElem?_eq_none h'] at a0
 have a1:w2.heap[b]? = some (.cells #[.pointer (some ⟨b,0,none⟩),v] bT (0,0)):=by
  rw [y.block b (by simp; omega) (fun e=>a6 e.symm),Lib.alloc_old w1 _ b a7];exact a0
 have d0:w2.cell? ⟨b,0,none⟩=some (.pointer (some ⟨b,0,none⟩)):=by rw [Lib.cell_of_heap a1]; rfl
 have d1:w2.cell? ⟨b,1,none⟩=some v:=by rw [Lib.cell_of_heap a1]; rfl
 have f1:w2.frozen? ⟨b,1,none⟩=false:=Lib.frozen_of_heap a1 1
 obtain ⟨g,cap,rfl⟩:∃ g cap,v'=.slice (some ⟨g,0,none⟩) (bs.length+1) cap:=by
  rcases J.2 with ⟨_,h0⟩ | ⟨g,cap,a9,fz,hv,_⟩
  ·omega
  ·exact ⟨g,cap,hv⟩
 go_wp2;go_ret;refine ⟨rfl,?_,?_,((a5.alloc _).grown y (Lib.ownsRowF_kind (I.alloc _))).setCell ⟨b,1,none⟩ rfl _⟩
 ·exact Lib.BuilderAtF.put (T:=bT) (e:=5) hB a1 (bs':=bs ++ [.int .u8 c]) (by simpa using J) neB5
 ·exact ((U.alloc (by have:=U.size; omega) _).grown y (by have:=U.size; simp; omega) (fun k hk=>(I.lt k hk).1)).setCell (p:=⟨b,1,none⟩) hB _
theorem Gl (B b:Nat) (bs:List Value) (s:ByteArray) (w:World) (h:Lib.IsBuilderF bT 5 B b bs w) (hlen:bs.length+s.size≤140737488355328) (a8:B≤w.heap.size):
  Calls Tryz.prog 119 #[.pointer (some ⟨b,0,none⟩),.string s] w fun e w'=>e=.returned (.tuple #[.int .i64 s.size,.nilIface])∧(Lib.BuilderAtF bT 5 B b (.pointer (some ⟨b,0,none⟩)) (bs ++ Lib.strCells s) w'∧Below B w w'∧Lib.OthersKept 5 (some b) w w'):=by
 obtain ⟨i0,hi,a2,a3,a4⟩:=info_parts infoByte
 go_enter Tryz.func119,Tryz.ntmps119
 go_wp2_with (go_at_call 180; refine (BP B b bs _ h).mono ?_)
 rintro e w1 ⟨rfl,h1,a1,a5⟩;obtain ⟨hB,v,U,I,a6⟩:=h1;have c0:w1.cell? ⟨b,0,none⟩=some (.pointer (some ⟨b,0,none⟩)):=by rw [Lib.cell_of_heap U]; rfl
 have c1:w1.cell? ⟨b,1,none⟩=some v:=by rw [Lib.cell_of_heap U]; rfl
 go_wp2_with (at_builtin; refine Lib.wpList_append_own_stringF _ rfl _ _ 22 9 rfl B 5 i0 Tryz.underlying22 Tryz.underlying9 hi a2 a3 a4 _ _ _ rfl I s rfl ?c3 ?c4 ?c5 ?_)
 case c3=>unfold maxLen; omega
 case c4=>omega
 case c5=>have:=a1.size; omega
 intro v' w2 J y _
 have a7:b < w1.heap.size:=by
  rcases Nat.lt_or_ge b w1.heap.size with h' | h'
  ·exact h'
  ·simp [Array.getElem?_eq_none h'] at U
 have a0:w2.heap[b]? = some (.cells #[.pointer (some ⟨b,0,none⟩),v] bT (0,0)):=by
  rw [y.block b a7 (fun e=>a6 e.symm)];exact U
 have d0:w2.cell? ⟨b,0,none⟩=some (.pointer (some ⟨b,0,none⟩)):=by rw [Lib.cell_of_heap a0]; rfl
 have d1:w2.cell? ⟨b,1,none⟩=some v:=by rw [Lib.cell_of_heap a0]; rfl
 have f1:w2.frozen? ⟨b,1,none⟩=false:=Lib.frozen_of_heap a0 1
 obtain ⟨ao,n',cap,rfl⟩:∃ ao n' cap,v'=.slice ao n' cap:=by
  rcases J.2 with ⟨hv,_⟩ | ⟨g,cap,a9,fz,hv,_⟩
  ·exact ⟨_,_,_,hv⟩
  ·exact ⟨_,_,_,hv⟩
 go_wp2;go_ret2;refine ⟨rfl,?_,?_,(a5.grown y (Lib.ownsRowF_kind I)).setCell ⟨b,1,none⟩ rfl _⟩
 ·exact Lib.BuilderAtF.put (T:=bT) (e:=5) hB a0 (bs':=bs ++ Lib.strCells s) (by simpa [Lib.strCells_length] using J) neB5
 ·exact (a1.grown y (by have:=a1.size; omega) (fun k hk=>(I.lt k hk).1)).setCell (p:=⟨b,1,none⟩) hB _
abbrev Wx (B b:Nat) (l:List UInt8) (w:World):Prop:=Lib.IsBuilderF bT 5 B b (Lib.byteCells l) w
structure Wrote (B b:Nat) (l:List UInt8) (w w':World):Prop where
 bld:Wx B b l w'
 below:Below B w w'
 kept:Lib.OthersKept 5 (some b) w w'
theorem Wrote.block {B b k:Nat} {l:List UInt8} {w w':World} (h:Wrote B b l w w') {c:Array Value} {e:TypeId} {fz:Nat × Nat} (y:w.heap[k]? = some (.cells c e fz)) (hb:k ≠ b) (he:e ≠ 5):w'.heap[k]? = some (.cells c e fz):=
 h.kept k _ y (fun x=>hb (by injection x)) (fun J I x=>he (by injection x))
theorem YP (s:ByteArray):s.data.toList.length=s.size:=Array.length_toList
theorem Wx.below {B b:Nat} {l:List UInt8} {w w':World} (h:Wx B b l w) (hb:Below w.heap.size w w'):Wx B b l w':=by
 have key:∀ p,Lib.BuilderAtF bT 5 B b p (Lib.byteCells l) w→Lib.BuilderAtF bT 5 B b p (Lib.byteCells l) w':=by
  rintro p ⟨hB,v,y,⟨h1,I⟩,J⟩;refine ⟨hB,v,by rw [hb.block b (ψ y)]; exact y,⟨h1,?_⟩,J⟩
  rcases I with I | ⟨g,cap,U,fz,hv,hg,hh,r⟩
  ·exact .inl I
  ·exact .inr ⟨g,cap,U,fz,hv,hg,by rw [hb.block g (ψ hh)]; exact hh,r⟩
 exact h.imp (key _) (key _)
theorem WW (w:World):Wx w.heap.size w.heap.size [] (w.alloc (.cells #[.pointer none,.slice none 0 0] bT)):=Lib.IsBuilderF.of (Lib.fresh_isBuilder bT 5 w)
theorem Ux (B b:Nat) (l:List UInt8) (c:UInt8) (n:Int) (hc:n=c.toNat) (w:World) (h:Wx B b l w) (hlen:l.length≤1073741824) (y:B≤w.heap.size):
  Calls Tryz.prog 120 #[.pointer (some ⟨b,0,none⟩),.int .u8 n] w fun e w'=>e=.returned .nilIface∧Wrote B b (l ++ [c]) w w':=by
 refine (KJ B b _ n w h (by rw [Lib.byteCells_length]; omega) y).mono fun e w' h=>?_
 obtain ⟨he,h1,I,J⟩:=h;refine ⟨he,⟨?_,I,J⟩⟩;show Lib.IsBuilderF _ _ _ _ _ _;rw [Lib.byteCells_append,show Lib.byteCells [c] = [Value.int .u8 n] from by rw [hc]; rfl];exact .inr h1
theorem XY (B b:Nat) (l:List UInt8) (s:ByteArray) (w:World) (h:Wx B b l w) (hlen:l.length≤1073741824) (U:s.size≤1073741824) (y:B≤w.heap.size):
  Calls Tryz.prog 119 #[.pointer (some ⟨b,0,none⟩),.string s] w fun e w'=>e=.returned (.tuple #[.int .i64 s.size,.nilIface])∧Wrote B b (l ++ s.data.toList) w w':=by
 refine (Gl B b _ s w h (by rw [Lib.byteCells_length]; omega) y).mono fun e w' h=>?_
 obtain ⟨he,h1,I,J⟩:=h;refine ⟨he,⟨?_,I,J⟩⟩;show Lib.IsBuilderF _ _ _ _ _ _;rw [Lib.byteCells_append];exact .inr h1
theorem YQ (B b:Nat) (l:List UInt8) (w:World) (h:Wx B b l w) (y:B≤w.heap.size):
  Calls Tryz.prog 121 #[.pointer (some ⟨b,0,none⟩)] w fun e w'=>e=.returned (.string ⟨l.toArray⟩)∧Wrote B b l w w':=by
 refine (Tryz.Builder_String_any_k B b l w h y).mono fun e w' h=>?_
 obtain ⟨he,h1,I,J⟩:=h;exact ⟨he,⟨h1,I,J⟩⟩
end
section
namespace D
def ql (ps:List Pt):Bool:=decide (ps.length≤4) && ps.all fun p=>bU p.atom
def fM (r:Ru):Bool:=ql r.body && bU r.head
end D
end
namespace D
open Go Go.RowKit
def Et (base e:Nat) (w:World) (v:Value) (n:Nat) (L:List Value) (o:Option Nat):Prop:=(∃ A cap,v=.slice A n cap)∧w.ownsRow base e 1 v n L∧(∀ b,v.ownBlock=some b→o=some b)
def Qd (e:Nat) (w:World) (v x:Value) (o:Option Nat):Prop:=∃ l,v=.slice (some ⟨l,0,none⟩) 1 1∧w.heap[l]? = some (.cells #[x] e (0,0))∧o=some l
def KL (base:Nat) (w:World) (o:Option Nat):Prop:=∀ b,o=some b→base≤b∧b < w.heap.size
def lS (o p:Option Nat):Prop:=∀ b,o=some b→p ≠ some b
theorem uo {w w':World} {base e size n:Nat} {v:Value} {L:List Value} (h:w.ownsRow base e size v n L) (I:∀ b,v.ownBlock=some b→w'.heap[b]? = w.heap[b]?):w'.ownsRow base e size v n L:=by
 refine ⟨h.1,h.2.imp id ?_⟩;rintro ⟨g,cap,y,hv,J,U,r⟩;exact ⟨g,cap,y,hv,J,by rw [I g (by rw [hv]; rfl)]; exact U,r⟩
theorem Et.keep {base e:Nat} {w w':World} {v:Value} {n:Nat} {L:List Value} {o:Option Nat} (h:Et base e w v n L o) (y:∀ b,o=some b→w'.heap[b]? = w.heap[b]?):Et base e w' v n L o:=
 ⟨h.1,uo h.2.1 fun b hb=>y b (h.2.2 b hb),h.2.2⟩
theorem Qd.keep {e:Nat} {w w':World} {v x:Value} {o:Option Nat} (h:Qd e w v x o) (y:∀ b,o=some b→w'.heap[b]? = w.heap[b]?):Qd e w' v x o:=by
 obtain ⟨l,h1,I,rfl⟩:=h;exact ⟨l,h1,by rw [y l rfl]; exact I,rfl⟩
theorem KL.keep {base:Nat} {w w':World} {o:Option Nat} (h:KL base w o) (y:w.heap.size≤w'.heap.size):KL base w' o:=fun b hb=>⟨(h b hb).1,κ (h b hb).2 y⟩
theorem lS.new {base:Nat} {w:World} {o:Option Nat} (h:KL base w o):lS o (some w.heap.size):=fun b hb e=>by have:=(h b hb).2; simp at e; omega
theorem lS.symm {o p:Option Nat} (h:lS o p):lS p o:=fun b hb e=>h b e hb
structure tN (base e n:Nat) (L:List Value) (x:Value) (be br bs bf:Bool) (ve vr vs vf:Value) (o1 o2:Option Nat) (w:World):Prop where
 e_:be=true→br=false→Et base e w ve 0 [] o1
 r_:br=true→bf=false→Et base e w vr n L o1
 s_:bs=true→bf=false→Qd e w vs x o2
 f_:bf=true→Et base e w vf (n+1) (L ++ [x]) o1
 i1:KL base w o1
 i2:KL base w o2
 d:lS o1 o2
 hr:br=true→be=true
 hf:bf=true→br=true∧bs=true
section
variable {base e n:Nat} {L:List Value} {x:Value} {be br bs bf:Bool} {ve vr vs vf:Value} {o1 o2:Option Nat} {w w':World}
theorem tN.start:tN base e n L x false false false false ve vr vs vf none none w:=
 ⟨(fun h=>by cases h),(fun h=>by cases h),(fun h=>by cases h),(fun h=>by cases h),((fun b h=>by cases h)),((fun b h=>by cases h)),((fun b h=>by cases h)),(fun h=>by cases h),(fun h=>by cases h)⟩
theorem tN.keep (h:tN base e n L x be br bs bf ve vr vs vf o1 o2 w) (y:w.heap.size≤w'.heap.size) (h1:∀ b,o1=some b→w'.heap[b]? = w.heap[b]?) (I:∀ b,o2=some b→w'.heap[b]? = w.heap[b]?):
  tN base e n L x be br bs bf ve vr vs vf o1 o2 w':=
 ⟨fun a b=>(h.e_ a b).keep h1,fun a b=>(h.r_ a b).keep h1,fun a b=>(h.s_ a b).keep I,fun a=>(h.f_ a).keep h1,h.i1.keep y,h.i2.keep y,h.d,h.hr,h.hf⟩
theorem tN.below (h:tN base e n L x be br bs bf ve vr vs vf o1 o2 w) (hb:Below w.heap.size w w'):tN base e n L x be br bs bf ve vr vs vf o1 o2 w':=
 h.keep hb.size (fun b y=>hb.block b (h.i1 b y).2) fun b I=>hb.block b (h.i2 b I).2
theorem tN.beside (h:tN base e n L x be br bs bf ve vr vs vf o1 o2 w) {o:Option Nat} (I:w.grownBy w' o) (J:w.heap.size≤w'.heap.size) (h1:lS o o1) (U:lS o o2):tN base e n L x be br bs bf ve vr vs vf o1 o2 w':=
 h.keep J (fun b hb=>I.block b (h.i1 b hb).2 fun y=>h1 b y.symm hb) fun b hb=>I.block b (h.i2 b hb).2 fun y=>U b y.symm hb
theorem tN.Uy (h:tN base e n L x false br bs bf ve vr vs vf o1 o2 w) (hb:base≤w.heap.size):tN base e n L x true br bs bf (.slice (some ⟨w.heap.size,0,none⟩) 0 0) vr vs vf (some w.heap.size) o2 (w.alloc (.cells #[] e)):=by
 have J:Below w.heap.size w (w.alloc (.cells #[] e)):=ζ
 have y:br=false:=by cases br with
  | false=>rfl
  | true=>exact absurd (h.hr rfl) (by simp)
 have I:bf=false:=by cases bf with
  | false=>rfl
  | true=>rw [y] at h; exact absurd (h.hf rfl).1 (by simp)
 subst y I;refine ⟨fun _ _=>⟨⟨_,_,rfl⟩,zO (ω w _) hb,fun b hb=>by simpa [Value.ownBlock] using hb⟩,(fun h=>by cases h),fun a b=>(h.s_ a b).keep fun b hb=>J.block b (h.i2 b hb).2,(fun h=>by cases h),fun b hb=>?_,h.i2.keep J.size,(lS.new h.i2).symm,fun _=>rfl,(fun h=>by cases h)⟩;simp at hb;subst hb;simp;exact hb
theorem tN.stepS (h:tN base e n L x be br false bf ve vr vs vf o1 o2 w) (hb:base≤w.heap.size):tN base e n L x be br true bf ve vr (.slice (some ⟨w.heap.size,0,none⟩) 1 1) vf o1 (some w.heap.size) (w.alloc (.cells #[x] e)):=by
 have I:Below w.heap.size w (w.alloc (.cells #[x] e)):=ζ;have J:=fun b hb=>I.block b (h.i1 b hb).2
 have y:bf=false:=by cases bf with
  | false=>rfl
  | true=>exact absurd (h.hf rfl).2 (by simp)
 subst y;refine ⟨fun a b=>(h.e_ a b).keep J,fun a b=>(h.r_ a b).keep J,fun _ _=>⟨_,rfl,ω w _,rfl⟩,(fun h=>by cases h),h.i1.keep I.size,fun b hb=>?_,lS.new h.i1,h.hr,(fun h=>by cases h)⟩;simp at hb;subst hb;simp;exact hb
theorem tN.gq (h:tN base e n L x true false bs bf ve vr vs vf o1 o2 w) (hb:base≤w.heap.size) {A:Option Addr} {cap:Nat} (y:w'.ownsRow base e 1 (.slice A n cap) n L) (hg:w.grownBy w' ve.ownBlock) (hs:w.heap.size≤w'.heap.size)
  (I:(Value.slice A n cap).ownBlock=ve.ownBlock∨(Value.slice A n cap).ownBlock=some w.heap.size) (hin:KL base w' (Value.slice A n cap).ownBlock):
  tN base e n L x true true bs bf ve (.slice A n cap) vs vf (Value.slice A n cap).ownBlock o2 w':=by
 have U:bf=false:=by cases bf with
  | false=>rfl
  | true=>exact absurd (h.hf rfl).1 (by simp)
 subst U;have hE:=h.e_ rfl rfl;have a0:∀ b,o2=some b→w'.heap[b]? = w.heap[b]?:=fun b hb=>hg.block b (h.i2 b hb).2 fun e'=>h.d b (hE.2.2 b e'.symm) hb
 refine ⟨(fun _ h=>by cases h),fun _ _=>⟨⟨_,_,rfl⟩,y,fun b hb=>hb⟩,fun a b=>(h.s_ a b).keep a0,(fun h=>by cases h),hin,h.i2.keep hs,fun b hb J=>?_,fun _=>rfl,(fun h=>by cases h)⟩
 rcases I with hl | hl
 ·rw [hl] at hb
  exact h.d b (hE.2.2 b hb) J
 ·rw [hl] at hb
  have:=(h.i2 b J).2;simp at hb;omega
theorem tN.Uz (h:tN base e n L x true true true false ve vr vs vf o1 o2 w) (hb:base≤w.heap.size) {A:Option Addr} {cap:Nat} (y:w'.ownsRow base e 1 (.slice A (n+1) cap) (n+1) (L ++ [x])) (hg:w.grownBy w' vr.ownBlock) (hs:w.heap.size≤w'.heap.size)
  (I:(Value.slice A (n+1) cap).ownBlock=vr.ownBlock∨(Value.slice A (n+1) cap).ownBlock=some w.heap.size) (hin:KL base w' (Value.slice A (n+1) cap).ownBlock):
  tN base e n L x true true true true ve vr vs (.slice A (n+1) cap) (Value.slice A (n+1) cap).ownBlock o2 w':=by
 have hE:=h.r_ rfl rfl;refine ⟨(fun _ h=>by cases h),(fun _ h=>by cases h),(fun _ h=>by cases h),fun _=>⟨⟨_,_,rfl⟩,y,fun b hb=>hb⟩,hin,h.i2.keep hs,fun b hb J=>?_,fun _=>rfl,fun _=>⟨rfl,rfl⟩⟩
 rcases I with U | U
 ·rw [U] at hb
  exact h.d b (hE.2.2 b hb) J
 ·rw [U] at hb
  have:=(h.i2 b J).2;simp at hb;omega
end
theorem jJ {base e size n:Nat} {w:World} {v:Value} {L:List Value} (h:w.ownsRow base e size v n L):KL base w v.ownBlock:=fun b hb=>by
 rcases h.2 with ⟨rfl,_⟩ | ⟨g,cap,y,rfl,I,J,_⟩
 ·simp [Value.ownBlock] at hb
 ·have:g=b:=by simpa [Value.ownBlock] using hb
  subst this;exact ⟨I,ψ J⟩
end D
namespace D
open Go.RowKit
def kU:List ByteArray→ByteArray→List ByteArray
 | [],s=>[s]
 | x :: xs,s=>if gK x s < 0 then x :: kU xs s else if gK x s=0 then x :: xs else s :: x :: xs
def nO:List ByteArray→ByteArray→Nat
 | [],_=>0
 | x :: xs,s=>if gK x s < 0 then nO xs s+1 else 0
def uq (xs:List ByteArray):Prop:=xs.Pairwise fun a b=>gK a b < 0
theorem UA:∀ (xs:List ByteArray) (s:ByteArray),nO xs s≤xs.length
 | [],_=>ν
 | x :: xs,s=>by
  unfold nO; have:=UA xs s
  split
  ·simpa using this
  ·simp
theorem UB:∀ (xs:List ByteArray) (s:ByteArray) (k:Nat) (h:k < xs.length),k < nO xs s→gK xs[k] s < 0
 | x :: xs,s,0,_,hk=>by
  unfold nO at hk
  split at hk
  ·assumption
  ·omega
 | x :: xs,s,k+1,h,hk=>by
  unfold nO at hk
  split at hk
  ·exact UB xs s k (by simpa using h) (by omega)
  ·omega
theorem OA:∀ (xs:List ByteArray) (s:ByteArray) (h:nO xs s < xs.length),¬ gK xs[nO xs s] s < 0
 | x :: xs,s,h=>by
  by_cases hc:gK x s < 0
  ·have e:nO (x :: xs) s=nO xs s+1:=by rw [nO,if_pos hc]
   have y:nO xs s < xs.length:=by rw [e] at h; simpa using h
   have:=OA xs s y;simp only [e,List.getElem_cons_succ];exact this
  ·have e:nO (x :: xs) s=0:=by rw [nO,if_neg hc]
   simp only [e,List.getElem_cons_zero];exact hc
theorem KN:∀ (xs:List ByteArray) (s:ByteArray) (h:nO xs s < xs.length),gK xs[nO xs s] s=0→kU xs s=xs
 | x :: xs,s,h,h0=>by
  unfold kU;by_cases hc:gK x s < 0
  ·have e:nO (x :: xs) s=nO xs s+1:=by rw [nO,if_pos hc]
   have y:nO xs s < xs.length:=by rw [e] at h; simpa using h
   simp only [e,List.getElem_cons_succ] at h0;rw [if_pos hc,KN xs s y h0]
  ·have e:nO (x :: xs) s=0:=by rw [nO,if_neg hc]
   simp only [e,List.getElem_cons_zero] at h0;rw [if_neg hc,if_pos h0]
theorem Eu:∀ (xs:List ByteArray) (s:ByteArray),(∀ h:nO xs s < xs.length,gK xs[nO xs s] s ≠ 0)→kU xs s=xs.take (nO xs s) ++ [s] ++ xs.drop (nO xs s)
 | [],s,_=>by simp [kU,nO]
 | x :: xs,s,h=>by
  unfold kU;by_cases hc:gK x s < 0
  ·have e:nO (x :: xs) s=nO xs s+1:=by rw [nO,if_pos hc]
   have ih:=Eu xs s (fun y=>by
    have:=h (by rw [e]; simpa using y);simp only [e,List.getElem_cons_succ] at this
    exact this)
   rw [if_pos hc,ih,e]; simp
  ·have e:nO (x :: xs) s=0:=by rw [nO,if_neg hc]
   have:=h (by rw [e]; simp);simp only [e,List.getElem_cons_zero] at this;rw [if_neg hc,if_neg this,e]; simp
theorem Ew:∀ (xs:List ByteArray) (s x:ByteArray),x ∈ kU xs s ↔ x ∈ xs∨x=s
 | [],s,x=>by simp [kU]
 | y :: xs,s,x=>by
  unfold kU
  split
  ·rw [ύ,Ew xs s x,ύ,or_assoc]
  ·split
   ·rename_i h
    have:=(iP.eq _ _).1 h;subst this;simp only [ύ];constructor
    ·exact .inl
    ·rintro (h | h)
     ·exact h
     ·exact .inl h
   ·simp only [ύ]
    constructor
    ·rintro (h | h | h)
     ·exact .inr h
     ·exact .inl (.inl h)
     ·exact .inl (.inr h)
    ·rintro ((h | h) | h)
     ·exact .inr (.inl h)
     ·exact .inr (.inr h)
     ·exact .inl h
theorem KO:∀ {xs:List ByteArray} (s:ByteArray),uq xs→uq (kU xs s)
 | [],s,_=>by unfold kU uq; exact List.pairwise_singleton _ _
 | x :: xs,s,h=>by
  unfold kU;have J:=List.pairwise_cons.1 h
  split
  ·rename_i hc
   exact List.pairwise_cons.2 ⟨fun y I=>((Ew xs s y).1 I).elim (J.1 y) (fun e=>e ▸ hc),KO s J.2⟩
  ·rename_i hc
   split
   ·exact h
   ·rename_i hn
    have U:gK s x < 0:=by have:=iP.anti x s; omega
    refine List.pairwise_cons.2 ⟨fun y I=>?_,h⟩
    rcases ύ.1 I with rfl | I
    ·exact U
    ·exact iP.qj U (by have:=J.1 y I; omega)
theorem UC (xs:List ByteArray) (s:ByteArray):(kU xs s).length≤xs.length+1:=by
 induction xs with
 | nil=>simp [kU]
 | cons x xs ih=>
  unfold kU
  split
  ·simp; exact ih
  ·split <;> simp
theorem xA {xs:List ByteArray} (h:uq xs):xs.Nodup:=h.imp fun {a b} y e=>by subst e; have:=iP.refl a; omega
theorem uw:uq []:=List.Pairwise.nil
def lJ (a:A) (out:List ByteArray):List ByteArray:=a.args.foldl (fun o t=>if t.var then kU o t.name else o) out
def fO (ps:List Pt) (out:List ByteArray):List ByteArray:=ps.foldl (fun o p=>lJ p.atom o) out
def gm (h:A) (ps:List Pt):Bool:=decide ((fO ps (lJ h [])).length=(fO (ps.filter fun p=>!p.no) []).length)
def aC (ps:List Pt):List ByteArray:=fO ps []
def kR (x:ByteArray) (y:List T):Prop:=∃ t ∈ y,t.var=true∧t.name=x
theorem Ey:∀ (I:List T) (out:List ByteArray) (x:ByteArray),x ∈ I.foldl (fun o t=>if t.var then kU o t.name else o) out ↔ x ∈ out∨kR x I
 | [],out,x=>by simp [kR]
 | t :: I,out,x=>by
  rw [List.foldl_cons,Ey I];unfold kR;cases hv:t.var
  ·rw [if_neg (by simp)]
   constructor
   ·rintro (h | ⟨u,h1,y⟩)
    ·exact .inl h
    ·exact .inr ⟨u,Δ _ h1,y⟩
   ·rintro (h | ⟨u,h1,y⟩)
    ·exact .inl h
    ·rcases ύ.1 h1 with rfl | h1
     ·rw [hv] at y; simp at y
     ·exact .inr ⟨u,h1,y⟩
  ·rw [if_pos rfl,Ew]
   constructor
   ·rintro ((h | h) | ⟨u,h1,y⟩)
    ·exact .inl h
    ·exact .inr ⟨t,Γ,hv,h.symm⟩
    ·exact .inr ⟨u,Δ _ h1,y⟩
   ·rintro (h | ⟨u,h1,y⟩)
    ·exact .inl (.inl h)
    ·rcases ύ.1 h1 with rfl | h1
     ·exact .inl (.inr y.2.symm)
     ·exact .inr ⟨u,h1,y⟩
theorem zU (a:A) (out:List ByteArray) (x:ByteArray):x ∈ lJ a out ↔ x ∈ out∨kR x a.args:=Ey _ _ _
theorem Ez:∀ (y:List T) {out:List ByteArray},uq out→uq (y.foldl (fun o t=>if t.var then kU o t.name else o) out)
 | [],_,h=>h
 | t :: y,out,h=>by
  rw [List.foldl_cons];refine Ez y ?_
  split
  ·exact KO _ h
  ·exact h
theorem Hr (a:A) {out:List ByteArray} (h:uq out):uq (lJ a out):=Ez _ h
theorem xB:∀ (y:List T) (out:List ByteArray),(y.foldl (fun o t=>if t.var then kU o t.name else o) out).length≤out.length+y.length
 | [],out=>by simp
 | t :: y,out=>by
  rw [List.foldl_cons];have h1:=xB y (if t.var then kU out t.name else out)
  have I:(if t.var then kU out t.name else out).length≤out.length+1:=by
   split
   ·exact UC _ _
   ·omega
  simp only [List.length_cons];omega
theorem Ht (a:A) (out:List ByteArray):(lJ a out).length≤out.length+a.args.length:=xB _ _
theorem iI:∀ (ps:List Pt) (out:List ByteArray) (x:ByteArray),x ∈ fO ps out ↔ x ∈ out∨∃ p ∈ ps,kR x p.atom.args
 | [],out,x=>by simp [fO]
 | p :: ps,out,x=>by
  have e:fO (p :: ps) out=fO ps (lJ p.atom out):=rfl;rw [e,iI ps,zU];constructor
  ·rintro ((h | h) | ⟨q,h1,y⟩)
   ·exact .inl h
   ·exact .inr ⟨p,Γ,h⟩
   ·exact .inr ⟨q,Δ _ h1,y⟩
  ·rintro (h | ⟨q,h1,y⟩)
   ·exact .inl (.inl h)
   ·rcases ύ.1 h1 with rfl | h1
    ·exact .inl (.inr y)
    ·exact .inr ⟨q,h1,y⟩
theorem ny:∀ (ps:List Pt) {out:List ByteArray},uq out→uq (fO ps out)
 | [],_,h=>h
 | p :: ps,out,h=>by
  have e:fO (p :: ps) out=fO ps (lJ p.atom out):=rfl;rw [e]; exact ny ps (Hr _ h)
theorem pI:∀ (ps:List Pt) (out:List ByteArray),(fO ps out).length≤out.length+je (fun p=>p.atom.args.length) ps
 | [],out=>by simp [fO]
 | p :: ps,out=>by
  have e:fO (p :: ps) out=fO ps (lJ p.atom out):=rfl;have h1:=pI ps (lJ p.atom out);have I:=Ht p.atom out;have y:je (fun p:Pt=>p.atom.args.length) (p :: ps)=p.atom.args.length+je (fun p=>p.atom.args.length) ps:=by simp [je]
  rw [e,y];omega
theorem KP (ps:List Pt) (k:Nat) (h:k < ps.length) (out:List ByteArray):fO (ps.take (k+1)) out=lJ ps[k].atom (fO (ps.take k) out):=by
 unfold fO; rw [ρ h,List.foldl_append]; rfl
theorem OB (a:A) (k:Nat) (h:k < a.args.length) (out:List ByteArray):
  (a.args.take (k+1)).foldl (fun o t=>if t.var then kU o t.name else o) out=(if a.args[k].var then kU ((a.args.take k).foldl (fun o t=>if t.var then kU o t.name else o) out) a.args[k].name else (a.args.take k).foldl (fun o t=>if t.var then kU o t.name else o) out):=by
 rw [ρ h,List.foldl_append]; rfl
theorem KQ (ps:List Pt) (k:Nat) (h:k < ps.length):(ps.take (k+1)).filter (fun p=>!p.no)=(ps.take k).filter (fun p=>!p.no) ++ (if ps[k].no then [] else [ps[k]]):=by
 rw [ρ h,List.filter_append]
 congr 1
 cases hn:ps[k].no <;> simp [hn]
theorem Qe:∀ {xs ys:List ByteArray},xs.Nodup→(∀ x ∈ xs,x ∈ ys)→ys.length≤xs.length→∀ y ∈ ys,y ∈ xs
 | [],ys,_,_,hl,y,hy=>by
  have:ys = []:=List.length_eq_zero_iff.1 (by simpa using hl);subst this; simp at hy
 | x :: xs,ys,hn,hs,hl,y,hy=>by
  have hx:=hs x Γ;obtain ⟨l,r,rfl⟩:=List.append_of_mem hx;have I:=List.nodup_cons.1 hn
  have ih:=Qe (xs:=xs) (ys:=l ++ r) I.2 (fun z U=>by
   have:=hs z (Δ _ U);have J:z ≠ x:=fun e=>I.1 (e ▸ U)
   rcases μ.1 this with h | h
   ·exact μ.2 (.inl h)
   ·rcases ύ.1 h with h | h
    ·exact absurd h J
    ·exact μ.2 (.inr h)) (by simp at hl ⊢; omega)
  by_cases e:y=x
  ·exact e ▸ Γ
  ·refine Δ _ (ih y ?_)
   rcases μ.1 hy with h | h
   ·exact μ.2 (.inl h)
   ·rcases ύ.1 h with h | h
    ·exact absurd h e
    ·exact μ.2 (.inr h)
theorem xC:∀ {xs ys:List ByteArray},xs.Nodup→(∀ x ∈ xs,x ∈ ys)→xs.length≤ys.length
 | [],ys,_,_=>ε
 | x :: xs,ys,hn,hs=>by
  have U:=hs x Γ;obtain ⟨l,r,rfl⟩:=List.append_of_mem U;have y:=List.nodup_cons.1 hn
  have ih:=xC (xs:=xs) (ys:=l ++ r) y.2 (fun z J=>by
   have:=hs z (Δ _ J);have I:z ≠ x:=fun e=>y.1 (e ▸ J)
   rcases μ.1 this with h | h
   ·exact μ.2 (.inl h)
   ·rcases ύ.1 h with h | h
    ·exact absurd h I
    ·exact μ.2 (.inr h))
  simp at ih ⊢; omega
def jf (ps:List Pt) (x:ByteArray):Bool:=ps.any fun p=>!p.no && p.atom.args.any fun t=>t.var && decide (gK t.name x=0)
def gX (ps:List Pt) (a:A):Bool:=a.args.all fun t=>!t.var || jf ps t.name
def uy (ps:List Pt):Bool:=!ps.all fun p=>gX ps p.atom
theorem pJ (ps:List Pt) (x:ByteArray):jf ps x=true ↔ x ∈ fO (ps.filter fun p=>!p.no) []:=by
 rw [iI];unfold jf kR;simp only [List.any_eq_true,ο,Bool.not_eq_true',decide_eq_true_eq,iP.eq,List.mem_filter,List.not_mem_nil,false_or];constructor
 ·rintro ⟨p,h1,y,t,I,J,U⟩
  exact ⟨p,⟨h1,y⟩,t,I,J,U⟩
 ·rintro ⟨p,⟨h1,y⟩,t,I,J,U⟩
  exact ⟨p,h1,y,t,I,J,U⟩
theorem rJ (ps:List Pt) (a:A):gX ps a=true ↔ ∀ x,kR x a.args→jf ps x=true:=by
 unfold gX kR;rw [ό];constructor
 ·rintro h x ⟨t,h1,y,rfl⟩
  have:=h t h1;rw [y] at this;simpa using this
 ·intro h t I
  cases hv:t.var
  ·rfl
  ·rw [h t.name ⟨t,I,hv,rfl⟩]; rfl
theorem Hu (h:A) (ps:List Pt):gm h ps=true ↔ (∀ x,kR x h.args→jf ps x=true)∧uy ps=false:=by
 unfold gm uy;rw [decide_eq_true_iff];have U:=xA (ny (ps.filter fun p=>!p.no) uw);have a0:=xA (ny ps (Hr h uw))
 have I:∀ x ∈ fO (ps.filter fun p=>!p.no) [],x ∈ fO ps (lJ h []):=fun x y=>by
  rw [iI] at y ⊢
  rcases y with y | ⟨p,hp,y⟩
  ·simp at y
  ·exact .inr ⟨p,(List.mem_filter.1 hp).1,y⟩
 simp only [Bool.not_eq_false',ό,rJ];constructor
 ·intro hl
  have J:=Qe U I (Nat.le_of_eq hl);refine ⟨fun x y=>(pJ ps x).2 (J x ((iI ..).2 (.inl ((zU ..).2 (.inr y))))),fun p hp x y=>(pJ ps x).2 (J x ((iI ..).2 (.inr ⟨p,hp,y⟩)))⟩
 ·rintro ⟨h1,h2⟩
  refine Nat.le_antisymm (xC a0 fun x y=>?_) (xC U I)
  rcases (iI ..).1 y with y | ⟨p,hp,y⟩
  ·rcases (zU ..).1 y with y | y
   ·simp at y
   ·exact (pJ ps x).1 (h1 x y)
  ·exact (pJ ps x).1 (h2 p hp x y)
end D
end Go.Proofs.YtkjinanbccloeaaGreatDoor
