/- Of the proof of FnExactDelta: EqA, PutP, nK, Chan, UA, BodyP, rX, Cnt. -/
import Derived.Test.YtiidmgchadagbaaGreatDoorM02
import Derived.Conc.LoneCalls
import Derived.Test.YtiidmgchadagbaaGreatDoorM01
set_option linter.unusedVariables false
set_option maxHeartbeats 2000000
set_option maxRecDepth 100000
namespace Go.Proofs.YtiidmgchadagbaaGreatDoor
open Go.RowKit D
attribute [local go_sem ↓] Go.wp_at_zero Go.wp_at_succ
theorem IL (t:T) (w:World):
  Calls Tryz.prog 105 #[.agg #[.bool t.var,.string t.name],.agg #[.bool t.var,.string t.name]] w (Yes w.heap.size w):=by
 obtain ⟨b,nm⟩:=t;cases b
 all_goals
  go_enter Tryz.func105,Tryz.ntmps105
  go_wp2;go_ret;exact ⟨rfl,((Below.refl _ _).alloc (Nat.le_refl _) _).alloc (by simp) _⟩
theorem Gj (ts:List T) (v1 v2:Value) (b1 b2:List Nat) (w:World) (h1:eY w [v1] ts b1) (h2:eY w [v2] ts b2):
  Calls Tryz.prog 67 #[v1,v2] w (Yes w.heap.size w):=by
 obtain ⟨Ad,cap,rfl,hl,hm⟩:=af h1;obtain ⟨Ad2,cap2,rfl,hl2,hm2⟩:=af h2;have hlm:=au (Nat.le_trans hl hm);clear hm hm2
 go_enter Tryz.func67,Tryz.ntmps67
 go_wp2
 go_loopw [5] (fun i wr=>∃ k:Nat,k≤ts.length∧i=.int .i64 k∧Below w.heap.size w wr) (fun i _=>ts.length - (intOf i).toNat)
 case atStart=>exact ⟨0,Nat.zero_le _,rfl,Below.refl _ _⟩
 case round=>
  obtain ⟨k,hk,rfl,hb⟩:=hrel;by_cases hlt:k < ts.length
  ·obtain ⟨b,o,rfl,_,c0,c1,hnm⟩:=dV (aH.below h1 hb) hlt
   obtain ⟨b',o',rfl,_,d0,d1,_⟩:=dV (aH.below h2 hb) hlt;clear h1 h2;have hlt':(k:Int) < (ts.length:Int):=by omega
   have hk0:(0:Int)≤(k:Int):=by omega
   go_wp2
   go_region_held3 (fun w'=>w'.cell? ⟨b,o+k * 2,none⟩=some (.bool ts[k].var)∧w'.cell? ⟨b,o+k * 2+1,none⟩=some (.string ts[k].name)∧w'.cell? ⟨b',o'+k * 2,none⟩=some (.bool ts[k].var)∧w'.cell? ⟨b',o'+k * 2+1,none⟩=some (.string ts[k].name)) (first | go_keep | exact ⟨cell_later hb' c0,cell_later hb' c1,cell_later hb' d0,cell_later hb' d1⟩)
    (first | (go_at_call 105; refine (IL _ _).mono ?_; rintro e w' ⟨rfl,hb'⟩))
   go_wp2;go_roundw
   case rel=>exact ⟨k+1,by omega,by go_num,hb.trans ((Below.drew (Below.refl _ _)).trans (hb'.mono hb.size))⟩
   case measure=>simp [intOf]; omega
  ·have he:k=ts.length:=by omega
   subst he;go_wp2;go_ret;exact ⟨rfl,hb⟩
theorem sH (a:A) (c0 c1 d0 d1:Value) (b1 b2:List Nat) (w:World) (h1:aU w [c0,c1] a b1) (h2:aU w [d0,d1] a b2):
  Calls Tryz.prog 37 #[.agg #[c0,c1],.agg #[d0,d1]] w (Yes w.heap.size w):=by
 obtain ⟨s1,hcs,hnm,ht1⟩:=h1;obtain ⟨s2,hcs2,_,ht2⟩:=h2;simp only [List.cons.injEq,and_true] at hcs hcs2;obtain ⟨rfl,rfl⟩:=hcs;obtain ⟨rfl,rfl⟩:=hcs2;have hq:=fun w' (hb:Below w.heap.size w w')=>Gj a.args c1 d1 b1 b2 w' (aH.below ht1 hb) (aH.below ht2 hb)
 clear ht1 ht2
 go_enter Tryz.func37,Tryz.ntmps37
 go_wp2_with (go_at_call 67; refine (hq _ (((Below.refl _ _).alloc (Nat.le_refl _) _).alloc (by simp) _)).mono ?_; rintro e w' ⟨rfl,hb'⟩)
 go_ret;exact ⟨rfl,(((Below.refl _ _).alloc (Nat.le_refl _) _).alloc (by simp) _).trans (hb'.mono (by simp; omega))⟩
end Go.Proofs.YtiidmgchadagbaaGreatDoor
namespace Go.Proofs.YtiidmgchadagbaaGreatDoor
open Go.RowKit D
namespace D
def lu (ts:List T):List UInt8:=ts.zipIdx.flatMap fun x=>(if x.2=0 then [] else [44]) ++ x.1.name.data.toList
def xg (a:A):List UInt8:=a.name.data.toList ++ [40] ++ lu a.args ++ [41]
theorem LX (ts:List T) (k:Nat) (h:k < ts.length):lu (ts.take (k+1))=lu (ts.take k) ++ ((if k=0 then [] else [44]) ++ ts[k].name.data.toList):=by
 unfold lu;rw [List.take_succ_eq_append_getElem h,List.zipIdx_append,List.flatMap_append];have:(ts.take k).length=k:=by simp; omega
 simp [this]
theorem Rt (ts:List T):(lu ts).length≤iT ts+ts.length:=by
 have:∀ (ts:List T) (n:Nat),((ts.zipIdx n).flatMap fun x=>(if x.2=0 then [] else [44]) ++ x.1.name.data.toList).length≤iT ts+ts.length:=by
  intro ts
  induction ts with
  | nil=>intro n; simp [iT]
  | cons t r ih=>
   intro n;have:=ih (n+1);simp only [List.zipIdx_cons,List.flatMap_cons,List.length_append,iT,List.map_cons,List.sum_cons,List.length_cons] at *;have hs:t.name.data.toList.length=t.name.size:=Array.length_toList
   split <;> simp at * <;> omega
 exact this ts 0
theorem zy (ts:List T) (k:Nat):iT (ts.take k)≤iT ts:=by
 have:=List.take_append_drop k ts
 have h:iT ts=iT (ts.take k)+iT (ts.drop k):=by
  conv=>lhs; rw [← this]
  unfold iT;rw [List.map_append,List.sum_append]
 omega
end D
end Go.Proofs.YtiidmgchadagbaaGreatDoor
namespace Go.Proofs.YtiidmgchadagbaaGreatDoor
open Go.RowKit Go.ChangeMaps Go.MapKept D
structure D.IQ (P:Program) (kt:TypeId) (W:World→Prop) (S:Value→Prop):Prop where
 check:∀ (w:World) (em:Bool) {v:Value},S v→(Instr.checkKey em 10000 kt v).run P w=.ok () w
 find:∀ {w:World},W w→∀ {k:Value},S k→∀ (es:List MapEntry),(∀ e ∈ es,S e.key)→
  ((Instr.findKey kt k es).run P w=.ok none w∧∀ e ∈ es,e.key ≠ k)∨∃ i e,(Instr.findKey kt k es).run P w=.ok (some (i,e.val)) w∧es[i]? = some e∧e.key=k
 same:∀ {v:Value},S v→Instr.sameBits 10000 v v=true
structure D.VQ (P:Program) (kt:TypeId) (W:World→Prop) (S:Value→Prop):Prop where
 now:∃ d,P.underlying kt=some d∧∀ a b,S a→S b→Instr.sameNow d a b=none
 eq:∀ {w:World} {a b:Value},W w→S a→S b→∃ r:Bool,(Op.equal kt a b).run P w=.ok r w∧(r=true ↔ a=b)
structure D.nK (S:Value→Prop) (b:Nat) (L:List (Value × Value)) (w:World):Prop where
 blk:∃ es clock,w.heap[b]? = some (.map es clock)∧es.toList.map (fun e=>(e.key,e.val))=L
 keys:∀ p ∈ L,S p.1
 once:L.Pairwise fun p q=>p.1 ≠ q.1
section
variable {P:Program} {kt:TypeId} {W:World→Prop} {S:Value→Prop}
theorem xk (hK:VQ P kt W S) {w:World} (hW:W w) {k:Value} (hk:S k):∀ (es:List MapEntry) (i0:Nat),(∀ e ∈ es,S e.key)→
  ((Instr.findAsking kt k es i0).run P w=.ok none w∧∀ e ∈ es,e.key ≠ k)∨∃ i e,(Instr.findAsking kt k es i0).run P w=.ok (some (i0+i,e.val)) w∧es[i]? = some e∧e.key=k
 | [],i0,_=>.inl ⟨rfl,fun e he=>by simp at he⟩
 | e :: es,i0,hs=>by
  obtain ⟨r,hr,hre⟩:=hK.eq hW hk (hs e (List.mem_cons_self ..))
  cases r with
  | true=>
   refine .inr ⟨0,e,?_,rfl,(hre.1 rfl).symm⟩;unfold Instr.findAsking;simp [go_sem,hr]
  | false=>
   have hne:e.key ≠ k:=fun h=>by have:=hre.2 h.symm; simp at this
   rcases xk hK hW hk es (i0+1) (fun x hx=>hs x (List.mem_cons_of_mem _ hx)) with ⟨h1,h2⟩ | ⟨i,e',h1,h2,h3⟩
   ·refine .inl ⟨?_,fun x hx=>?_⟩
    ·unfold Instr.findAsking
     simp [go_sem,hr,h1]
    ·rcases List.mem_cons.1 hx with rfl | hx
     ·exact hne
     ·exact h2 x hx
   ·refine .inr ⟨i+1,e',?_,by simpa using h2,h3⟩
    have:i0+1+i=i0+(i+1):=by omega
    rw [this] at h1;unfold Instr.findAsking;simp [go_sem,hr,h1]
theorem O8 (hK:VQ P kt W S) {w:World} (hW:W w) {k:Value} (hk:S k) (es:List MapEntry) (hs:∀ e ∈ es,S e.key):
  ((Instr.findKey kt k es).run P w=.ok none w∧∀ e ∈ es,e.key ≠ k)∨∃ i e,(Instr.findKey kt k es).run P w=.ok (some (i,e.val)) w∧es[i]? = some e∧e.key=k:=by
 obtain ⟨d,hd,hn⟩:=hK.now
 cases es with
 | nil=>exact .inl ⟨by simp [Instr.findKey,Instr.findNow,run_underlying hd,Result.andThen],fun e he=>by simp at he⟩
 | cons e es=>
  have h0:Instr.findNow d k (e :: es) 0=none:=by
   unfold Instr.findNow;rw [hn _ _ hk (hs e (List.mem_cons_self ..))]
  have hf:(Instr.findKey kt k (e :: es)).run P w=(Instr.findAsking kt k (e :: es)).run P w:=by simp [Instr.findKey,run_underlying hd,h0,Result.andThen]
  rw [hf]
  rcases xk hK hW hk (e :: es) 0 hs with h | ⟨i,e',h1,h2,h3⟩
  ·exact .inl h
  ·exact .inr ⟨i,e',by simpa using h1,h2,h3⟩
theorem lW (hK:IQ P kt W S) {w:World} (hW:W w) {k:Value} (hk:S k) (es:List MapEntry) (hs:∀ e ∈ es,S e.key):
 ((Instr.findKey kt k es).run P w=.ok none w∧∀ e ∈ es,e.key ≠ k)∨∃ i e,(Instr.findKey kt k es).run P w=.ok (some (i,e.val)) w∧es[i]? = some e∧e.key=k:=hK.find hW hk es hs
theorem D.UQ {L:List (Value × Value)} (h:L.Pairwise fun p q=>p.1 ≠ q.1) {i j:Nat} {p q:Value × Value} (hi:L[i]? = some p) (hj:L[j]? = some q) (e:p.1=q.1):i=j:=by
 obtain ⟨hi1,rfl⟩:=List.getElem?_eq_some_iff.1 hi;obtain ⟨hj1,rfl⟩:=List.getElem?_eq_some_iff.1 hj
 rcases Nat.lt_trichotomy i j with h1 | h1 | h1
 ·exact absurd e (List.pairwise_iff_getElem.1 h i j hi1 hj1 h1)
 ·exact h1
 ·exact absurd e.symm (List.pairwise_iff_getElem.1 h j i hj1 hi1 h1)
theorem D.nK.same {b:Nat} {L:List (Value × Value)} {w w':World} (h:nK S b L w) (e:w'.heap[b]? = w.heap[b]?):nK S b L w':=by
 obtain ⟨⟨es,c,h1,h2⟩,h3,h4⟩:=h;exact ⟨⟨es,c,e.trans h1,h2⟩,h3,h4⟩
theorem D.nK.below {b:Nat} {L:List (Value × Value)} {w w':World} {B:Nat} (h:nK S b L w) (hb:Below B w w') (hB:b < B):nK S b L w':=h.same (hb.block b hB)
theorem D.nK.made (w:World):nK S w.heap.size [] (w.alloc (.map #[] 0)):=
 ⟨⟨#[],0,(MapKept.heap_alloc w _).1,rfl⟩,fun p h=>by simp at h,List.Pairwise.nil⟩
section
variable {ops:Array Oper} {rest:List Oper} {o:Oper} {a:Act} {Q:Exit→Act→World→Prop}
theorem qN (hK:IQ P kt W S) {w:World} (hW:W w) (c:Bool) {t e:TypeId} (ht:P.underlying t=some (.map kt e))
  {b:Nat} {L:List (Value × Value)} (h:nK S b L w) {k v:Value} (hk:(k,v) ∈ L):(Instr.lookup t (.map (some b)) k c).run P w=.ok (if c then .tuple #[v,.bool true] else v) w:=by
 obtain ⟨⟨es,ck,hb,rfl⟩,h2,h3⟩:=h;have hS:S k:=h2 _ hk;have hSs:∀ e ∈ es.toList,S e.key:=fun e he=>h2 (e.key,e.val) (List.mem_map.2 ⟨e,he,rfl⟩)
 obtain ⟨e0,he0,hee⟩:=List.mem_map.1 hk;simp only [Prod.mk.injEq] at hee
 rcases lW hK hW hS es.toList hSs with ⟨h5,h6⟩ | ⟨i,e1,h5,h6,h7⟩
 ·exact absurd hee.1 (h6 e0 he0)
 ·obtain ⟨j,hj,ej⟩:=List.getElem_of_mem he0
  have hji:j=i:=UQ h3 (p:=(e0.key,e0.val)) (q:=(e1.key,e1.val)) (by simp [List.getElem?_eq_getElem hj,ej]) (by simp [h6]) (by simp [hee.1,h7])
  have hev:e1.val=v:=by
   rw [← hji,List.getElem?_eq_getElem hj,ej] at h6;rw [← hee.2,Option.some.inj h6]
  simp [Instr.lookup,run_underlying ht,MapKept.run_getObj_map hb,hK.check w _ hS,h5,hev,Result.andThen]
theorem D.lC {w:World} {b:Nat} {es:Array MapEntry} {c:Nat} (hb:w.heap[b]? = some (.map es c)) (o:Obj):w.grownBy (setBlock w b o) (some b):=
 ⟨rfl,rfl,rfl,by simp [setBlock],fun i _ hi=>heap_setBlock_other hb _ (fun e=>hi (by rw [e]))⟩
end
end
end Go.Proofs.YtiidmgchadagbaaGreatDoor
namespace Go.Proofs.YtiidmgchadagbaaGreatDoor
open Go.RowKit Go.Conc D
def D.Uz (P:Program) (ops:Array Oper) (is:List Nat) (Q:Exit→Act→World→Prop) (a:Act) (w:World):Prop:=
 ∀ (b:Frame) (k:List Item) (cs:List Frame),∃ e a' w',Q e a' w'∧Arrives P (lone (b.at a (.inRegion ops is :: k)) cs w) b k cs e a' w'
section
variable {P:Program} {ops:Array Oper} {Q:Exit→Act→World→Prop} {a:Act} {w:World}
theorem D.vV {id:Nat} (h:Uz P ops (List.range ops.size) Q a w):(Code.region id ops false).wp P Q a w:=
 fun b k cs=>let ⟨e,a',w',q,r⟩:=h b k cs; ⟨e,a',w',q,.of_steps (.one step_region) r⟩
theorem D.Gl {is:List Nat} (h:wpOps P ops Q is a w):Uz P ops is Q a w:=fun b k cs=>wp_ops _ a w h b k cs
theorem D.uJ {i:Nat} {rest:List Nat} {o:Oper} {v:Value} {w':World} (ho:ops[i]? = some o) (hg:o.guard=none) (hr:(execOp a.eval o).run P w=.ok (.value v) w') (h:Uz P ops rest Q (a.put o.dst v) w'):Uz P ops (i :: rest) Q a w:=fun b k cs=>by
 obtain ⟨e,a',w2,q,r⟩:=h b k cs;have hw:Region.wanted o (yielded ops a.tmps)=true:=by unfold Region.wanted; rw [hg]
 have hgs:=stepG_op (P:=P) (b:=b) (k:=k) (cs:=cs) (w:=w) (rest:=rest) ho hw;have hfin:(b.at a (.inRegion ops (i :: rest) :: k)).finish v=b.at (a.put o.dst v) (.inRegion ops rest :: k):=by rw [Frame.finish_at,ho]; rfl
 refine ⟨e,a',w2,q,.of_steps (.one (step_lone_go ?_)) r⟩;rw [hgs,← hfin];simp [stepG.apply,hr]
theorem D.stepG_comm {b:Frame} {k:List Item} {cs:List Frame} {i:Nat} {rest:List Nat} {o:Oper} {cases:Array CommCase} {blocking:Bool} {shape:CommShape} {w':World} (ho:ops[i]? = some o) (hg:o.guard=none)
  (hr:(execOp a.eval o).run P w=.ok (.comm cases blocking shape) w'):∃ es,stepG P true (G (b.at a (.inRegion ops (i :: rest) :: k)) cs) w=.comm (G (b.at a (.inRegion ops (i :: rest) :: k)) cs) cases blocking shape w' es:=by
 have hw:Region.wanted o (yielded ops a.tmps)=true:=by unfold Region.wanted; rw [hg]
 have hgs:=stepG_op (P:=P) (b:=b) (k:=k) (cs:=cs) (w:=w) (rest:=rest) ho hw;simp only [stepG.apply,if_true] at hgs;generalize he:(execOp a.eval o).runT P w #[]=re at hgs;have h1:re.1=.ok (.comm cases blocking shape) w':=by rw [← he,← hr]; exact Sem.runT_fst ..
 obtain ⟨r,es⟩:=re;dsimp only at h1;subst h1;simp at hgs;exact ⟨_,hgs⟩
theorem D.Rw {i:Nat} {rest:List Nat} {o:Oper} {v z':Value} {w':World} {c cap s r:Nat} {buf:Array Value} {tm:Bool} (ho:ops[i]? = some o) (hg:o.guard=none) (hr:(execOp a.eval o).run P w=.ok (.comm #[scase c v z'] true .send) w')
  (hc:w'.heap[c]? = some (.chan cap buf false s r tm)) (hroom:buf.size < cap) (h:Uz P ops rest Q (a.put o.dst undef) (w'.setChan c cap (buf.push v) false (s+1) r tm)):Uz P ops (i :: rest) Q a w:=fun b k cs=>by
 obtain ⟨e,a',w2,q,r'⟩:=h b k cs;obtain ⟨es,hs⟩:=stepG_comm (b:=b) (k:=k) (cs:=cs) (rest:=rest) ho hg hr;have hfin:(b.at a (.inRegion ops (i :: rest) :: k)).finish undef=b.at (a.put o.dst undef) (.inRegion ops rest :: k):=by rw [Frame.finish_at,ho]; rfl
 have h1:=step_lone_send_room hs hc hroom;rw [hfin] at h1;exact ⟨e,a',w2,q,.of_steps (.one h1) r'⟩
theorem D.Rx {i:Nat} {rest:List Nat} {o:Oper} {z:Value} {w':World} {c cap s r:Nat} {buf:Array Value} {tm closed ok:Bool} (ho:ops[i]? = some o) (hg:o.guard=none) (hr:(execOp a.eval o).run P w=.ok (.comm #[rcase c z] true (.recv ok)) w')
  (hc:w'.heap[c]? = some (.chan cap buf closed s r tm)) (hsome:0 < buf.size) (h:Uz P ops rest Q (a.put o.dst (got ok (buf.getD 0 undef) true)) (w'.setChan c cap (buf.extract 1 buf.size) closed s (r+1) tm)):Uz P ops (i :: rest) Q a w:=fun b k cs=>by
 obtain ⟨e,a',w2,q,r'⟩:=h b k cs;obtain ⟨es,hs⟩:=stepG_comm (b:=b) (k:=k) (cs:=cs) (rest:=rest) ho hg hr;have hfin:∀ v,(b.at a (.inRegion ops (i :: rest) :: k)).finish v=b.at (a.put o.dst v) (.inRegion ops rest :: k):=fun v=>by rw [Frame.finish_at,ho]; rfl
 have h1:=step_lone_recv_buf ok hs hc hsome;rw [hfin] at h1;exact ⟨e,a',w2,q,.of_steps (.one h1) r'⟩
theorem D.Ry {i:Nat} {rest:List Nat} {o:Oper} {z:Value} {w':World} {c cap s r:Nat} {tm ok:Bool} (ho:ops[i]? = some o) (hg:o.guard=none) (hr:(execOp a.eval o).run P w=.ok (.comm #[rcase c z] true (.recv ok)) w')
  (hc:w'.heap[c]? = some (.chan cap #[] true s r tm)) (h:Uz P ops rest Q (a.put o.dst (got ok z false)) w'):Uz P ops (i :: rest) Q a w:=fun b k cs=>by
 obtain ⟨e,a',w2,q,r'⟩:=h b k cs;obtain ⟨es,hs⟩:=stepG_comm (b:=b) (k:=k) (cs:=cs) (rest:=rest) ho hg hr;have hfin:∀ v,(b.at a (.inRegion ops (i :: rest) :: k)).finish v=b.at (a.put o.dst v) (.inRegion ops rest :: k):=fun v=>by rw [Frame.finish_at,ho]; rfl
 have h1:=step_lone_recv_shut ok hs hc;rw [hfin] at h1;exact ⟨e,a',w2,q,.of_steps (.one h1) r'⟩
end
end Go.Proofs.YtiidmgchadagbaaGreatDoor
namespace Go.Proofs.YtiidmgchadagbaaGreatDoor
open Go.RowKit Go.Shelf
abbrev bT:TypeId:=215
theorem infoByte:(Tryz.prog.info? 5).map (fun i=>(i.zero,i.size,i.bytes))=some (some (.int .u8 0),1,1):=by kernel_rfl
theorem sizeBuilder:(Tryz.prog.info? bT).map (·.size)=some 2:=by kernel_rfl
theorem neB5:bT ≠ 5:=by decide
theorem liesBuilder:liesAt Tryz.prog Tryz.prog.depth bT (2 / Tryz.prog.cellsOf bT) 0 bT 1=true:=by kernel_rfl
theorem zU (b:Nat) (w:World) (h0:w.cell? ⟨b,0,none⟩=some (.pointer none)) (hsh:w.shape? b=some (bT,2)) (hfz:w.frozen? ⟨b,0,none⟩=false):
  Calls Tryz.prog 180 #[.pointer (some ⟨b,0,none⟩)] w fun e w'=>e=.returned (.tuple #[])∧w'=w.setCell ⟨b,0,none⟩ (.pointer (some ⟨b,0,none⟩)):=by
 obtain ⟨j,hj,hjs⟩:=Option.map_eq_some_iff.1 sizeBuilder
 go_enter Tryz.func180,Tryz.ntmps180
 go_wp2;rw [Lib.run_to_unsafe w ⟨b,0,none⟩ Tryz.underlying213 Tryz.underlying269 hj (by rw [hjs]; decide) hsh (Nat.zero_lt_succ 1)];simp only [Result.andThen];rw [Oper.upon_value];go_wp2;rw [run_callFunc_extern Tryz.func202 (by kernel_rfl) (by kernel_rfl) (by kernel_rfl) (e:=Extern.AbiNoEscape.same) (by kernel_rfl)];rw [Lib.run_noEscape];simp only [Result.andThen];rw [Oper.upon_value];go_wp2;rw [Lib.run_from_unsafe w ⟨b,0,none⟩ Tryz.underlying269 Tryz.underlying213 hj hsh liesBuilder];simp only [Result.andThen];rw [Oper.upon_value];go_wp2
 go_end0
 exact ⟨rfl,rfl⟩
theorem BA (b:Nat) (w:World) (h0:w.cell? ⟨b,0,none⟩=some (.pointer (some ⟨b,0,none⟩))):
  Calls Tryz.prog 180 #[.pointer (some ⟨b,0,none⟩)] w fun e w'=>e=.returned (.tuple #[])∧w'=w:=by
 obtain ⟨j,hj,_⟩:=Option.map_eq_some_iff.1 sizeBuilder
 go_enter Tryz.func180,Tryz.ntmps180
 go_wp2;rw [Lib.run_neq_ptr_same w _ Tryz.underlying213 hj];go_wp2
 go_end0
 exact ⟨rfl,rfl⟩
theorem zA (B b:Nat) (bs:List Value) (w:World) (h:Lib.IsBuilderF bT 5 B b bs w):
  Calls Tryz.prog 180 #[.pointer (some ⟨b,0,none⟩)] w fun e w'=>e=.returned (.tuple #[])∧(Lib.BuilderAtF bT 5 B b (.pointer (some ⟨b,0,none⟩)) bs w'∧Below B w w'∧Lib.OthersKept 5 (some b) w w'):=by
 rcases h with h | h
 ·refine (zU b w h.cell0 h.shape h.frozen0).mono ?_
  rintro e w' ⟨rfl,rfl⟩;exact ⟨rfl,h.used _,(Below.refl B w).setCell (p:=⟨b,0,none⟩) h.1 _,(Lib.OthersKept.refl _ _ w).setCell ⟨b,0,none⟩ rfl _⟩
 ·refine (BA b w h.cell0).mono ?_
  rintro e w' ⟨rfl,rfl⟩;exact ⟨rfl,h,Below.refl B _,Lib.OthersKept.refl _ _ _⟩
theorem IU (B b:Nat) (bs:List Value) (c:Int) (w:World) (h:Lib.IsBuilderF bT 5 B b bs w) (hlen:bs.length+1≤140737488355328) (hBw:B≤w.heap.size):
  Calls Tryz.prog 146 #[.pointer (some ⟨b,0,none⟩),.int .u8 c] w fun e w'=>e=.returned .nilIface∧(Lib.BuilderAtF bT 5 B b (.pointer (some ⟨b,0,none⟩)) (bs ++ [.int .u8 c]) w'∧Below B w w'∧Lib.OthersKept 5 (some b) w w'):=by
 obtain ⟨i0,hi,hz0,hz1,hz2⟩:=info_parts infoByte
 go_enter Tryz.func146,Tryz.ntmps146
 go_wp2_with (go_at_call 180; refine (zA B b bs _ h).mono ?_)
 rintro e w1 ⟨rfl,h1,hb1,hk1⟩;obtain ⟨hB,v,hbk,hown,hne⟩:=h1;have c0:w1.cell? ⟨b,0,none⟩=some (.pointer (some ⟨b,0,none⟩)):=by rw [Lib.cell_of_heap hbk]; rfl
 have c1:w1.cell? ⟨b,1,none⟩=some v:=by rw [Lib.cell_of_heap hbk]; rfl
 go_wp2_with (at_builtin; refine wpList_append_ownF _ rfl _ _ 107 rfl B 5 i0 (.int .u8 0) 1 1 Tryz.underlying107 hi hz0 hz1 hz2 rfl (by decide) _ _ _ rfl (hown.alloc _) ⟨w1.heap.size,0,none⟩ 1 1 [.int .u8 c] rfl rfl ?c1 ?c2 ?c3 ?c4 ?c5 ?_)
 case c1=>
  intro j u hj
  match j,hj with
  | 0,hj=>simp at hj; subst hj; simp [Addr.add]
 case c2=>intro u hu; simp at hu; subst hu; rfl
 case c3=>unfold maxLen; omega
 case c4=>omega
 case c5=>have:=hb1.size; simp; omega
 intro v' w2 hown' hgrow _
 have hlt:b < w1.heap.size:=by
  rcases Nat.lt_or_ge b w1.heap.size with h' | h'
  ·exact h'
  ·simp [Array.getElem?_eq_none h'] at hbk
 have hb2:w2.heap[b]? = some (.cells #[.pointer (some ⟨b,0,none⟩),v] bT (0,0)):=by
  rw [hgrow.block b (by simp; omega) (fun e=>hne e.symm),Lib.alloc_old w1 _ b hlt];exact hbk
 have d0:w2.cell? ⟨b,0,none⟩=some (.pointer (some ⟨b,0,none⟩)):=by rw [Lib.cell_of_heap hb2]; rfl
 have d1:w2.cell? ⟨b,1,none⟩=some v:=by rw [Lib.cell_of_heap hb2]; rfl
 have f1:w2.frozen? ⟨b,1,none⟩=false:=Lib.frozen_of_heap hb2 1
 obtain ⟨g,cap,rfl⟩:∃ g cap,v'=.slice (some ⟨g,0,none⟩) (bs.length+1) cap:=by
  rcases hown'.2 with ⟨_,h0⟩ | ⟨g,cap,cur,fz,hv,_⟩
  ·omega
  ·exact ⟨g,cap,hv⟩
 go_wp2;go_ret;refine ⟨rfl,?_,?_,((hk1.alloc _).grown hgrow (Lib.ownsRowF_kind (hown.alloc _))).setCell ⟨b,1,none⟩ rfl _⟩
 ·exact Lib.BuilderAtF.put (T:=bT) (e:=5) hB hb2 (bs':=bs ++ [.int .u8 c]) (by simpa using hown') neB5
 ·exact ((hb1.alloc (by have:=hb1.size; omega) _).grown hgrow (by have:=hb1.size; simp; omega) (fun k hk=>(hown.lt k hk).1)).setCell (p:=⟨b,1,none⟩) hB _
theorem DV (B b:Nat) (bs:List Value) (s:ByteArray) (w:World) (h:Lib.IsBuilderF bT 5 B b bs w) (hlen:bs.length+s.size≤140737488355328) (hBw:B≤w.heap.size):
  Calls Tryz.prog 145 #[.pointer (some ⟨b,0,none⟩),.string s] w fun e w'=>e=.returned (.tuple #[.int .i64 s.size,.nilIface])∧(Lib.BuilderAtF bT 5 B b (.pointer (some ⟨b,0,none⟩)) (bs ++ Lib.strCells s) w'∧Below B w w'∧Lib.OthersKept 5 (some b) w w'):=by
 obtain ⟨i0,hi,hz0,hz1,hz2⟩:=info_parts infoByte
 go_enter Tryz.func145,Tryz.ntmps145
 go_wp2_with (go_at_call 180; refine (zA B b bs _ h).mono ?_)
 rintro e w1 ⟨rfl,h1,hb1,hk1⟩;obtain ⟨hB,v,hbk,hown,hne⟩:=h1;have c0:w1.cell? ⟨b,0,none⟩=some (.pointer (some ⟨b,0,none⟩)):=by rw [Lib.cell_of_heap hbk]; rfl
 have c1:w1.cell? ⟨b,1,none⟩=some v:=by rw [Lib.cell_of_heap hbk]; rfl
 go_wp2_with (at_builtin; refine Lib.wpList_append_own_stringF _ rfl _ _ 107 9 rfl B 5 i0 Tryz.underlying107 Tryz.underlying9 hi hz0 hz1 hz2 _ _ _ rfl hown s rfl ?c3 ?c4 ?c5 ?_)
 case c3=>unfold maxLen; omega
 case c4=>omega
 case c5=>have:=hb1.size; omega
 intro v' w2 hown' hgrow _
 have hlt:b < w1.heap.size:=by
  rcases Nat.lt_or_ge b w1.heap.size with h' | h'
  ·exact h'
  ·simp [Array.getElem?_eq_none h'] at hbk
 have hb2:w2.heap[b]? = some (.cells #[.pointer (some ⟨b,0,none⟩),v] bT (0,0)):=by
  rw [hgrow.block b hlt (fun e=>hne e.symm)];exact hbk
 have d0:w2.cell? ⟨b,0,none⟩=some (.pointer (some ⟨b,0,none⟩)):=by rw [Lib.cell_of_heap hb2]; rfl
 have d1:w2.cell? ⟨b,1,none⟩=some v:=by rw [Lib.cell_of_heap hb2]; rfl
 have f1:w2.frozen? ⟨b,1,none⟩=false:=Lib.frozen_of_heap hb2 1
 obtain ⟨ao,n',cap,rfl⟩:∃ ao n' cap,v'=.slice ao n' cap:=by
  rcases hown'.2 with ⟨hv,_⟩ | ⟨g,cap,cur,fz,hv,_⟩
  ·exact ⟨_,_,_,hv⟩
  ·exact ⟨_,_,_,hv⟩
 go_wp2;go_ret2;refine ⟨rfl,?_,?_,(hk1.grown hgrow (Lib.ownsRowF_kind hown)).setCell ⟨b,1,none⟩ rfl _⟩
 ·exact Lib.BuilderAtF.put (T:=bT) (e:=5) hB hb2 (bs':=bs ++ Lib.strCells s) (by simpa [Lib.strCells_length] using hown') neB5
 ·exact (hb1.grown hgrow (by have:=hb1.size; omega) (fun k hk=>(hown.lt k hk).1)).setCell (p:=⟨b,1,none⟩) hB _
abbrev UA (B b:Nat) (l:List UInt8) (w:World):Prop:=Lib.IsBuilderF bT 5 B b (Lib.byteCells l) w
structure Wrote (B b:Nat) (l:List UInt8) (w w':World):Prop where
 bld:UA B b l w'
 below:Below B w w'
 kept:Lib.OthersKept 5 (some b) w w'
theorem Wrote.block {B b k:Nat} {l:List UInt8} {w w':World} (h:Wrote B b l w w') {c:Array Value} {e:TypeId} {fz:Nat × Nat} (hk:w.heap[k]? = some (.cells c e fz)) (hb:k ≠ b) (he:e ≠ 5):w'.heap[k]? = some (.cells c e fz):=
 h.kept k _ hk (fun x=>hb (by injection x)) (fun c' fz' x=>he (by injection x))
theorem WR (s:ByteArray):s.data.toList.length=s.size:=Array.length_toList
theorem UA.below {B b:Nat} {l:List UInt8} {w w':World} (h:UA B b l w) (hb:Below w.heap.size w w'):UA B b l w':=by
 have key:∀ p,Lib.BuilderAtF bT 5 B b p (Lib.byteCells l) w→Lib.BuilderAtF bT 5 B b p (Lib.byteCells l) w':=by
  rintro p ⟨hB,v,hbk,⟨h1,h2⟩,hne⟩;refine ⟨hB,v,by rw [hb.block b (lt_of_block hbk)]; exact hbk,⟨h1,?_⟩,hne⟩
  rcases h2 with h2 | ⟨g,cap,cur,fz,hv,hg,hh,r⟩
  ·exact .inl h2
  ·exact .inr ⟨g,cap,cur,fz,hv,hg,by rw [hb.block g (lt_of_block hh)]; exact hh,r⟩
 exact h.imp (key _) (key _)
theorem UR (w:World):UA w.heap.size w.heap.size [] (w.alloc (.cells #[.pointer none,.slice none 0 0] bT)):=Lib.IsBuilderF.of (Lib.fresh_isBuilder bT 5 w)
theorem Rz (B b:Nat) (l:List UInt8) (c:UInt8) (n:Int) (hc:n=c.toNat) (w:World) (h:UA B b l w) (hlen:l.length≤1073741824) (hBw:B≤w.heap.size):
  Calls Tryz.prog 146 #[.pointer (some ⟨b,0,none⟩),.int .u8 n] w fun e w'=>e=.returned .nilIface∧Wrote B b (l ++ [c]) w w':=by
 refine (IU B b _ n w h (by rw [Lib.byteCells_length]; omega) hBw).mono fun e w' h=>?_
 obtain ⟨he,h1,h2,h3⟩:=h;refine ⟨he,⟨?_,h2,h3⟩⟩;show Lib.IsBuilderF _ _ _ _ _ _;rw [Lib.byteCells_append,show Lib.byteCells [c] = [Value.int .u8 n] from by rw [hc]; rfl];exact .inr h1
theorem VR (B b:Nat) (l:List UInt8) (s:ByteArray) (w:World) (h:UA B b l w) (hlen:l.length≤1073741824) (hs:s.size≤1073741824) (hBw:B≤w.heap.size):
  Calls Tryz.prog 145 #[.pointer (some ⟨b,0,none⟩),.string s] w fun e w'=>e=.returned (.tuple #[.int .i64 s.size,.nilIface])∧Wrote B b (l ++ s.data.toList) w w':=by
 refine (DV B b _ s w h (by rw [Lib.byteCells_length]; omega) hBw).mono fun e w' h=>?_
 obtain ⟨he,h1,h2,h3⟩:=h;refine ⟨he,⟨?_,h2,h3⟩⟩;show Lib.IsBuilderF _ _ _ _ _ _;rw [Lib.byteCells_append];exact .inr h1
theorem WT (B b:Nat) (l:List UInt8) (w:World) (h:UA B b l w) (hBw:B≤w.heap.size):
  Calls Tryz.prog 147 #[.pointer (some ⟨b,0,none⟩)] w fun e w'=>e=.returned (.string ⟨l.toArray⟩)∧Wrote B b l w w':=by
 refine (Tryz.Builder_String_any_k B b l w h hBw).mono fun e w' h=>?_
 obtain ⟨he,h1,h2,h3⟩:=h;exact ⟨he,⟨h1,h2,h3⟩⟩
end Go.Proofs.YtiidmgchadagbaaGreatDoor
namespace Go.Proofs.YtiidmgchadagbaaGreatDoor
namespace D
def oW (ps:List Pt):Bool:=decide (ps.length≤4) && ps.all fun p=>aZ p.atom
def fC (r:Ru):Bool:=oW r.body && aZ r.head
end D
end Go.Proofs.YtiidmgchadagbaaGreatDoor
namespace Go.Proofs.YtiidmgchadagbaaGreatDoor.D
open Go Go.RowKit
def BF (base e:Nat) (w:World) (v:Value) (n:Nat) (L:List Value) (o:Option Nat):Prop:=(∃ A cap,v=.slice A n cap)∧w.ownsRow base e 1 v n L∧(∀ b,v.ownBlock=some b→o=some b)
def Oi (e:Nat) (w:World) (v x:Value) (o:Option Nat):Prop:=∃ l,v=.slice (some ⟨l,0,none⟩) 1 1∧w.heap[l]? = some (.cells #[x] e (0,0))∧o=some l
def IV (base:Nat) (w:World) (o:Option Nat):Prop:=∀ b,o=some b→base≤b∧b < w.heap.size
def kY (o p:Option Nat):Prop:=∀ b,o=some b→p ≠ some b
theorem sJ {w w':World} {base e size n:Nat} {v:Value} {L:List Value} (h:w.ownsRow base e size v n L) (hk:∀ b,v.ownBlock=some b→w'.heap[b]? = w.heap[b]?):w'.ownsRow base e size v n L:=by
 refine ⟨h.1,h.2.imp id ?_⟩;rintro ⟨g,cap,cur,hv,hg,hh,r⟩;exact ⟨g,cap,cur,hv,hg,by rw [hk g (by rw [hv]; rfl)]; exact hh,r⟩
theorem BF.keep {base e:Nat} {w w':World} {v:Value} {n:Nat} {L:List Value} {o:Option Nat} (h:BF base e w v n L o) (hk:∀ b,o=some b→w'.heap[b]? = w.heap[b]?):BF base e w' v n L o:=
 ⟨h.1,sJ h.2.1 fun b hb=>hk b (h.2.2 b hb),h.2.2⟩
theorem Oi.keep {e:Nat} {w w':World} {v x:Value} {o:Option Nat} (h:Oi e w v x o) (hk:∀ b,o=some b→w'.heap[b]? = w.heap[b]?):Oi e w' v x o:=by
 obtain ⟨l,h1,h2,rfl⟩:=h;exact ⟨l,h1,by rw [hk l rfl]; exact h2,rfl⟩
theorem IV.keep {base:Nat} {w w':World} {o:Option Nat} (h:IV base w o) (hs:w.heap.size≤w'.heap.size):IV base w' o:=fun b hb=>⟨(h b hb).1,Nat.lt_of_lt_of_le (h b hb).2 hs⟩
theorem kY.new {base:Nat} {w:World} {o:Option Nat} (h:IV base w o):kY o (some w.heap.size):=fun b hb e=>by have:=(h b hb).2; simp at e; omega
theorem kY.symm {o p:Option Nat} (h:kY o p):kY p o:=fun b hb e=>h b e hb
structure rX (base e n:Nat) (L:List Value) (x:Value) (be br bs bf:Bool) (ve vr vs vf:Value) (o1 o2:Option Nat) (w:World):Prop where
 e_:be=true→br=false→BF base e w ve 0 [] o1
 r_:br=true→bf=false→BF base e w vr n L o1
 s_:bs=true→bf=false→Oi e w vs x o2
 f_:bf=true→BF base e w vf (n+1) (L ++ [x]) o1
 i1:IV base w o1
 i2:IV base w o2
 d:kY o1 o2
 hr:br=true→be=true
 hf:bf=true→br=true∧bs=true
section
variable {base e n:Nat} {L:List Value} {x:Value} {be br bs bf:Bool} {ve vr vs vf:Value} {o1 o2:Option Nat} {w w':World}
theorem rX.start:rX base e n L x false false false false ve vr vs vf none none w:=
 ⟨(fun h=>by cases h),(fun h=>by cases h),(fun h=>by cases h),(fun h=>by cases h),((fun b h=>by cases h)),((fun b h=>by cases h)),((fun b h=>by cases h)),(fun h=>by cases h),(fun h=>by cases h)⟩
theorem rX.keep (h:rX base e n L x be br bs bf ve vr vs vf o1 o2 w) (hs:w.heap.size≤w'.heap.size) (h1:∀ b,o1=some b→w'.heap[b]? = w.heap[b]?) (h2:∀ b,o2=some b→w'.heap[b]? = w.heap[b]?):
  rX base e n L x be br bs bf ve vr vs vf o1 o2 w':=
 ⟨fun a b=>(h.e_ a b).keep h1,fun a b=>(h.r_ a b).keep h1,fun a b=>(h.s_ a b).keep h2,fun a=>(h.f_ a).keep h1,h.i1.keep hs,h.i2.keep hs,h.d,h.hr,h.hf⟩
theorem rX.below (h:rX base e n L x be br bs bf ve vr vs vf o1 o2 w) (hb:Below w.heap.size w w'):rX base e n L x be br bs bf ve vr vs vf o1 o2 w':=
 h.keep hb.size (fun b hb1=>hb.block b (h.i1 b hb1).2) fun b hb2=>hb.block b (h.i2 b hb2).2
theorem rX.beside (h:rX base e n L x be br bs bf ve vr vs vf o1 o2 w) {o:Option Nat} (hg:w.grownBy w' o) (hs:w.heap.size≤w'.heap.size) (h1:kY o o1) (h2:kY o o2):rX base e n L x be br bs bf ve vr vs vf o1 o2 w':=
 h.keep hs (fun b hb=>hg.block b (h.i1 b hb).2 fun e'=>h1 b e'.symm hb) fun b hb=>hg.block b (h.i2 b hb).2 fun e'=>h2 b e'.symm hb
theorem rX.RD (h:rX base e n L x false br bs bf ve vr vs vf o1 o2 w) (hb:base≤w.heap.size):rX base e n L x true br bs bf (.slice (some ⟨w.heap.size,0,none⟩) 0 0) vr vs vf (some w.heap.size) o2 (w.alloc (.cells #[] e)):=by
 have hA:Below w.heap.size w (w.alloc (.cells #[] e)):=(Below.refl _ _).alloc (Nat.le_refl _) _
 have hbr:br=false:=by cases br with
  | false=>rfl
  | true=>exact absurd (h.hr rfl) (by simp)
 have hbf:bf=false:=by cases bf with
  | false=>rfl
  | true=>rw [hbr] at h; exact absurd (h.hf rfl).1 (by simp)
 subst hbr hbf;refine ⟨fun _ _=>⟨⟨_,_,rfl⟩,yJ (heap_alloc_new w _) hb,fun b hb=>by simpa [Value.ownBlock] using hb⟩,(fun h=>by cases h),fun a b=>(h.s_ a b).keep fun b hb=>hA.block b (h.i2 b hb).2,(fun h=>by cases h),fun b hb=>?_,h.i2.keep hA.size,(kY.new h.i2).symm,fun _=>rfl,(fun h=>by cases h)⟩;simp at hb;subst hb;simp;exact hb
theorem rX.stepS (h:rX base e n L x be br false bf ve vr vs vf o1 o2 w) (hb:base≤w.heap.size):rX base e n L x be br true bf ve vr (.slice (some ⟨w.heap.size,0,none⟩) 1 1) vf o1 (some w.heap.size) (w.alloc (.cells #[x] e)):=by
 have hA:Below w.heap.size w (w.alloc (.cells #[x] e)):=(Below.refl _ _).alloc (Nat.le_refl _) _;have hk:=fun b hb=>hA.block b (h.i1 b hb).2
 have hbf:bf=false:=by cases bf with
  | false=>rfl
  | true=>exact absurd (h.hf rfl).2 (by simp)
 subst hbf;refine ⟨fun a b=>(h.e_ a b).keep hk,fun a b=>(h.r_ a b).keep hk,fun _ _=>⟨_,rfl,heap_alloc_new w _,rfl⟩,(fun h=>by cases h),h.i1.keep hA.size,fun b hb=>?_,kY.new h.i1,h.hr,(fun h=>by cases h)⟩;simp at hb;subst hb;simp;exact hb
theorem rX.fG (h:rX base e n L x true false bs bf ve vr vs vf o1 o2 w) (hb:base≤w.heap.size) {A:Option Addr} {cap:Nat} (hown:w'.ownsRow base e 1 (.slice A n cap) n L) (hg:w.grownBy w' ve.ownBlock) (hs:w.heap.size≤w'.heap.size)
  (hloc:(Value.slice A n cap).ownBlock=ve.ownBlock∨(Value.slice A n cap).ownBlock=some w.heap.size) (hin:IV base w' (Value.slice A n cap).ownBlock):
  rX base e n L x true true bs bf ve (.slice A n cap) vs vf (Value.slice A n cap).ownBlock o2 w':=by
 have hbf:bf=false:=by cases bf with
  | false=>rfl
  | true=>exact absurd (h.hf rfl).1 (by simp)
 subst hbf;have hE:=h.e_ rfl rfl;have hk2:∀ b,o2=some b→w'.heap[b]? = w.heap[b]?:=fun b hb=>hg.block b (h.i2 b hb).2 fun e'=>h.d b (hE.2.2 b e'.symm) hb
 refine ⟨(fun _ h=>by cases h),fun _ _=>⟨⟨_,_,rfl⟩,hown,fun b hb=>hb⟩,fun a b=>(h.s_ a b).keep hk2,(fun h=>by cases h),hin,h.i2.keep hs,fun b hb hb2=>?_,fun _=>rfl,(fun h=>by cases h)⟩
 rcases hloc with hl | hl
 ·rw [hl] at hb
  exact h.d b (hE.2.2 b hb) hb2
 ·rw [hl] at hb
  have:=(h.i2 b hb2).2;simp at hb;omega
theorem rX.RF (h:rX base e n L x true true true false ve vr vs vf o1 o2 w) (hb:base≤w.heap.size) {A:Option Addr} {cap:Nat} (hown:w'.ownsRow base e 1 (.slice A (n+1) cap) (n+1) (L ++ [x])) (hg:w.grownBy w' vr.ownBlock) (hs:w.heap.size≤w'.heap.size)
  (hloc:(Value.slice A (n+1) cap).ownBlock=vr.ownBlock∨(Value.slice A (n+1) cap).ownBlock=some w.heap.size) (hin:IV base w' (Value.slice A (n+1) cap).ownBlock):
  rX base e n L x true true true true ve vr vs (.slice A (n+1) cap) (Value.slice A (n+1) cap).ownBlock o2 w':=by
 have hE:=h.r_ rfl rfl;refine ⟨(fun _ h=>by cases h),(fun _ h=>by cases h),(fun _ h=>by cases h),fun _=>⟨⟨_,_,rfl⟩,hown,fun b hb=>hb⟩,hin,h.i2.keep hs,fun b hb hb2=>?_,fun _=>rfl,fun _=>⟨rfl,rfl⟩⟩
 rcases hloc with hl | hl
 ·rw [hl] at hb
  exact h.d b (hE.2.2 b hb) hb2
 ·rw [hl] at hb
  have:=(h.i2 b hb2).2;simp at hb;omega
end
theorem jq {base e size n:Nat} {w:World} {v:Value} {L:List Value} (h:w.ownsRow base e size v n L):IV base w v.ownBlock:=fun b hb=>by
 rcases h.2 with ⟨rfl,_⟩ | ⟨g,cap,cur,rfl,hg,hh,_⟩
 ·simp [Value.ownBlock] at hb
 ·have:g=b:=by simpa [Value.ownBlock] using hb
  subst this;exact ⟨hg,lt_of_block hh⟩
end Go.Proofs.YtiidmgchadagbaaGreatDoor.D
namespace Go.Proofs.YtiidmgchadagbaaGreatDoor.D
open Go.RowKit
theorem RG (xs:List Pt):bI qM xs≤3 * oO xs:=by
 unfold oO
 induction xs with
 | nil=>simp [bI]
 | cons x xs ih=>
  have h1:qM x≤3+3 * ny x:=by unfold qM ny jm; omega
  simp only [bI,List.map_cons,List.sum_cons,List.length_cons] at *;omega
end Go.Proofs.YtiidmgchadagbaaGreatDoor.D
