/- Of the proof of FnEvalOnly: FsA, PutP, gm, Chan, U0, BodyP, qG. -/
import Derived.Test.YtkjinanbccloeaaGreatDoorB02
import Derived.Conc.LoneCalls
import Derived.Test.YtkjinanbccloeaaGreatDoorB01
set_option linter.unusedVariables false
set_option maxHeartbeats 2000000
set_option maxRecDepth 100000
namespace Go.Proofs.YtkjinanbccloeaaGreatDoor
section
open Go.RowKit D
attribute [local go_sem ↓] Go.wp_at_zero Go.wp_at_succ
def D.RP (P:Prop) (w:World) (e:Ending) (w':World):Prop:=∃ r:Bool,e=.returned (.bool r)∧(r=true ↔ P)∧Below w.heap.size w w'
theorem D.bytes_eq {a b:ByteArray}:(a.toList == b.toList)=true ↔ a=b:=by
 rw [beq_iff_eq,ByteArray.toList_eq,ByteArray.toList_eq];constructor
 ·intro h; cases a; cases b; simp only [ByteArray.mk.injEq]; exact Array.toList_inj.1 h
 ·rintro rfl; rfl
theorem D.I8 {a b:ByteArray}:(a.toList == b.toList)=false ↔ a ≠ b:=by
 rw [← Bool.not_eq_true,bytes_eq]
theorem D.Vk {t u:T}:t=u ↔ t.var=u.var∧t.name=u.name:=by cases t; cases u; simp
theorem D.Vl {a b:A}:a=b ↔ a.name=b.name∧a.args=b.args:=by cases a; cases b; simp
theorem BO (a b:A) (c0 c1 d0 d1:Value) (b1 b2:List Nat) (w:World) (h:aG w [c0,c1] a b1) (U:aG w [d0,d1] b b2):
  Calls Tryz.prog 57 #[.agg #[c0,c1],.agg #[d0,d1]] w (RP (a=b) w):=by
 have t1:=dm h;have t2:=dm U;obtain ⟨Ad,cap,rfl,rfl⟩:=aY h;obtain ⟨Ae,y,rfl,rfl⟩:=aY U;obtain ⟨_,_,_,hl,hm⟩:=ak t1;have a0:Below w.heap.size w ((w.alloc (.cells #[.string a.name,.slice Ad a.args.length cap] 33)).alloc (.cells #[.string b.name,.slice Ae b.args.length y] 33)):=(ζ).alloc (by simp) _;have a6:=aA (τ hl hm);clear h U hl hm;cases hn:(a.name.toList == b.name.toList)
 ·have HE:Hid (¬ a=b):=η (fun e=>I8.1 hn (by rw [e]))
  clear t1 t2
  go_enter Tryz.func57,Tryz.ntmps57
  go_wp2;go_ret;exact ⟨false,rfl,by simpa using HE.out,a0⟩
 ·by_cases hl:a.args.length=b.args.length
  ·have HN:=η (bytes_eq.1 hn)
   have x1:((w.alloc (.cells #[.string a.name,.slice Ad a.args.length cap] 33)).alloc (.cells #[.string b.name,.slice Ae b.args.length y] 33)).cell? ⟨w.heap.size,1,none⟩=some (.slice Ad a.args.length cap):=by go_simp
   have y1:((w.alloc (.cells #[.string a.name,.slice Ad a.args.length cap] 33)).alloc (.cells #[.string b.name,.slice Ae b.args.length y] 33)).cell? ⟨w.heap.size+1,1,none⟩=some (.slice Ae b.args.length y):=by go_simp
   have hq:((a.args.length:Int) == (b.args.length:Int))=true:=by simp [hl]
   have HL:=η hl;clear hl;have a1:=η (ι a0 (ι x1 y1));clear a0 x1 y1
   go_enter Tryz.func57,Tryz.ntmps57
   go_wp2
   go_loopw [5] (fun i wr=>∃ k:Nat,k≤a.args.length∧i=.int .i64 k∧(∀ j (h1:j < a.args.length) (U:j < b.args.length),j < k→a.args[j]=b.args[j])∧Below w.heap.size w wr∧wr.cell? ⟨w.heap.size,1,none⟩=some (.slice Ad a.args.length cap)∧wr.cell? ⟨w.heap.size+1,1,none⟩=some (.slice Ae b.args.length y)) (fun i _=>a.args.length - (intOf i).toNat)
   case atStart=>exact ⟨0,ε,rfl,fun j _ _ h=>by omega,a1.out.1,a1.out.2.1,a1.out.2.2⟩
   case round=>
    obtain ⟨k,hk,rfl,a2,hb,x1,y1⟩:=hrel;have HA:=η a2;clear a2 a1;by_cases a3:k < a.args.length
    ·have I:k < b.args.length:=by have:=HL.out; omega
     obtain ⟨bb,o,rfl,_,e0,e1,_⟩:=dY (aN.below t1 hb) a3;obtain ⟨bc,o',rfl,_,g0,g1,_⟩:=dY (aN.below t2 hb) I;have a7:(0:Int)≤(k:Int):=by omega
     have a8:(k:Int) < (a.args.length:Int):=by omega
     have a9:(k:Int) < (b.args.length:Int):=by omega
     have a4:=η (ι a3 I)
     have HU:Hid (a.args[k]=b.args[k]→∀ j (h1:j < a.args.length) (U:j < b.args.length),j < k+1→a.args[j]=b.args[j]):=η (fun e j h1 U hj=>by
      by_cases a5:j=k
      ·subst a5; exact e
      ·exact HA.out j h1 U (by omega))
     have HV:Hid (a.args[k] ≠ b.args[k]→¬ a=b):=η (fun J e=>J (by subst e; rfl));have HT:Hid (a.args[k]=b.args[k] ↔ a.args[k].var=b.args[k].var∧a.args[k].name=b.args[k].name):=η Vk;generalize a.args[k]=t at *;generalize b.args[k]=u at *;clear t1 t2 a3 I;cases hv:(t.var == u.var)
     ·have J:t ≠ u:=fun e=>by subst e; simp at hv
      have HW:=η (HV.out J)
      cases hz:(t.name.toList == u.name.toList) <;>
      ·go_wp2
       go_quiet (fail)
       go_wp2;go_ret;exact ⟨false,rfl,by simpa using HW.out,by first | exact hb | exact below_drewN hb _⟩
     ·cases hz:(t.name.toList == u.name.toList)
      ·have J:t ≠ u:=fun e=>by subst e; exact (I8.1 hz) rfl
       have HW:=η (HV.out J);go_wp2
       go_quiet (fail)
       go_wp2;go_ret;exact ⟨false,rfl,by simpa using HW.out,by first | exact hb | exact below_drewN hb _⟩
      ·have HW:=η (HU.out (HT.out.2 ⟨by simpa using hv,bytes_eq.1 hz⟩))
       go_wp2
       go_quiet (fail)
       go_wp2;go_roundw
       case rel=>exact ⟨k+1,a4.out.1,by go_num,HW.out,by first | exact hb | exact below_drewN hb _,by first | exact x1 | (go_simp; done),by first | exact y1 | (go_simp; done)⟩
       case measure=>have:=a4.out.1; simp [intOf]; omega
    ·have he:k=a.args.length:=by omega
     have HW:Hid (a=b):=η (Vl.2 ⟨HN.out,List.ext_getElem HL.out fun j h1 U=>HA.out j h1 U (by omega)⟩);subst he;clear t1 t2;go_wp2;go_ret;exact ⟨true,rfl,by simpa using HW.out,hb⟩
  ·have hq:((a.args.length:Int) == (b.args.length:Int))=false:=beq_eq_false_iff_ne.2 (by omega)
   have HE:Hid (¬ a=b):=η (fun e=>hl (by rw [e]));clear t1 t2 hl
   go_enter Tryz.func57,Tryz.ntmps57
   go_wp2;go_ret;exact ⟨false,rfl,by simpa using HE.out,a0⟩
end
section
open Go.RowKit D
namespace D
def kN (y:List T):List UInt8:=y.zipIdx.flatMap fun x=>(if x.2=0 then [] else [44]) ++ x.1.name.data.toList
def uz (a:A):List UInt8:=a.name.data.toList ++ [40] ++ kN a.args ++ [41]
theorem MI (y:List T) (k:Nat) (h:k < y.length):kN (y.take (k+1))=kN (y.take k) ++ ((if k=0 then [] else [44]) ++ y[k].name.data.toList):=by
 unfold kN;rw [ρ h,List.zipIdx_append,List.flatMap_append];have:(y.take k).length=k:=by simp; omega
 simp [this]
theorem RQ (y:List T):(kN y).length≤jm y+y.length:=by
 have:∀ (y:List T) (n:Nat),((y.zipIdx n).flatMap fun x=>(if x.2=0 then [] else [44]) ++ x.1.name.data.toList).length≤jm y+y.length:=by
  intro y
  induction y with
  | nil=>intro n; simp [jm]
  | cons t r ih=>
   intro n;have:=ih (n+1);simp only [List.zipIdx_cons,List.flatMap_cons,χ,jm,List.map_cons,List.sum_cons,List.length_cons] at *;have I:t.name.data.toList.length=t.name.size:=Array.length_toList
   split <;> simp at * <;> omega
 exact this y 0
theorem yQ (y:List T) (k:Nat):jm (y.take k)≤jm y:=by
 have:=List.take_append_drop k y
 have h:jm y=jm (y.take k)+jm (y.drop k):=by
  conv=>lhs; rw [← this]
  unfold jm;rw [List.map_append,List.sum_append]
 omega
end D
end
section
open Go.RowKit Go.ChangeMaps Go.MapKept D
structure D.GN (P:Program) (kt:TypeId) (W:World→Prop) (S:Value→Prop):Prop where
 check:∀ (w:World) (em:Bool) {v:Value},S v→(Instr.checkKey em 10000 kt v).run P w=.ok () w
 find:∀ {w:World},W w→∀ {k:Value},S k→∀ (es:List MapEntry),(∀ e ∈ es,S e.key)→
  ((Instr.findKey kt k es).run P w=.ok none w∧∀ e ∈ es,e.key ≠ k)∨∃ i e,(Instr.findKey kt k es).run P w=.ok (some (i,e.val)) w∧es[i]? = some e∧e.key=k
 same:∀ {v:Value},S v→Instr.sameBits 10000 v v=true
structure D.Wu (P:Program) (kt:TypeId) (W:World→Prop) (S:Value→Prop):Prop where
 now:∃ d,P.underlying kt=some d∧∀ a b,S a→S b→Instr.sameNow d a b=none
 eq:∀ {w:World} {a b:Value},W w→S a→S b→∃ r:Bool,(Op.equal kt a b).run P w=.ok r w∧(r=true ↔ a=b)
structure D.gm (S:Value→Prop) (b:Nat) (L:List (Value × Value)) (w:World):Prop where
 blk:∃ es clock,w.heap[b]? = some (.map es clock)∧es.toList.map (fun e=>(e.key,e.val))=L
 keys:∀ p ∈ L,S p.1
 once:L.Pairwise fun p q=>p.1 ≠ q.1
section
variable {P:Program} {kt:TypeId} {W:World→Prop} {S:Value→Prop}
theorem vO (hK:Wu P kt W S) {w:World} (hW:W w) {k:Value} (hk:S k):∀ (es:List MapEntry) (y:Nat),(∀ e ∈ es,S e.key)→
  ((Instr.findAsking kt k es y).run P w=.ok none w∧∀ e ∈ es,e.key ≠ k)∨∃ i e,(Instr.findAsking kt k es y).run P w=.ok (some (y+i,e.val)) w∧es[i]? = some e∧e.key=k
 | [],y,_=>.inl ⟨rfl,fun e he=>by simp at he⟩
 | e :: es,y,hs=>by
  obtain ⟨r,hr,I⟩:=hK.eq hW hk (hs e Γ)
  cases r with
  | true=>
   refine .inr ⟨0,e,?_,rfl,(I.1 rfl).symm⟩;unfold Instr.findAsking;simp [go_sem,hr]
  | false=>
   have U:e.key ≠ k:=fun h=>by have:=I.2 h.symm; simp at this
   rcases vO hK hW hk es (y+1) (fun x J=>hs x (Δ _ J)) with ⟨h1,h2⟩ | ⟨i,e',h1,h2,h3⟩
   ·refine .inl ⟨?_,fun x J=>?_⟩
    ·unfold Instr.findAsking
     simp [go_sem,hr,h1]
    ·rcases List.mem_cons.1 J with rfl | J
     ·exact U
     ·exact h2 x J
   ·refine .inr ⟨i+1,e',?_,by simpa using h2,h3⟩
    have:y+1+i=y+(i+1):=by omega
    rw [this] at h1;unfold Instr.findAsking;simp [go_sem,hr,h1]
theorem O8 (hK:Wu P kt W S) {w:World} (U:W w) {k:Value} (y:S k) (es:List MapEntry) (I:∀ e ∈ es,S e.key):
  ((Instr.findKey kt k es).run P w=.ok none w∧∀ e ∈ es,e.key ≠ k)∨∃ i e,(Instr.findKey kt k es).run P w=.ok (some (i,e.val)) w∧es[i]? = some e∧e.key=k:=by
 obtain ⟨d,J,hn⟩:=hK.now
 cases es with
 | nil=>exact .inl ⟨by simp [Instr.findKey,Instr.findNow,run_underlying J,Result.andThen],fun e he=>by simp at he⟩
 | cons e es=>
  have h0:Instr.findNow d k (e :: es) 0=none:=by
   unfold Instr.findNow;rw [hn _ _ y (I e Γ)]
  have hf:(Instr.findKey kt k (e :: es)).run P w=(Instr.findAsking kt k (e :: es)).run P w:=by simp [Instr.findKey,run_underlying J,h0,Result.andThen]
  rw [hf]
  rcases vO hK U y (e :: es) 0 I with h | ⟨i,e',h1,h2,h3⟩
  ·exact .inl h
  ·exact .inr ⟨i,e',by simpa using h1,h2,h3⟩
theorem kC (hK:GN P kt W S) {w:World} (y:W w) {k:Value} (I:S k) (es:List MapEntry) (J:∀ e ∈ es,S e.key):
 ((Instr.findKey kt k es).run P w=.ok none w∧∀ e ∈ es,e.key ≠ k)∨∃ i e,(Instr.findKey kt k es).run P w=.ok (some (i,e.val)) w∧es[i]? = some e∧e.key=k:=hK.find y I es J
theorem D.Oo {L:List (Value × Value)} (h:L.Pairwise fun p q=>p.1 ≠ q.1) {i j:Nat} {p q:Value × Value} (J:L[i]? = some p) (U:L[j]? = some q) (e:p.1=q.1):i=j:=by
 obtain ⟨y,rfl⟩:=List.getElem?_eq_some_iff.1 J;obtain ⟨I,rfl⟩:=List.getElem?_eq_some_iff.1 U
 rcases Nat.lt_trichotomy i j with h1 | h1 | h1
 ·exact absurd e (List.pairwise_iff_getElem.1 h i j y I h1)
 ·exact h1
 ·exact absurd e.symm (List.pairwise_iff_getElem.1 h j i I y h1)
theorem D.gm.same {b:Nat} {L:List (Value × Value)} {w w':World} (h:gm S b L w) (e:w'.heap[b]? = w.heap[b]?):gm S b L w':=by
 obtain ⟨⟨es,c,h1,y⟩,I,J⟩:=h;exact ⟨⟨es,c,e.trans h1,y⟩,I,J⟩
theorem D.gm.lt {b:Nat} {L:List (Value × Value)} {w:World} (h:gm S b L w):b < w.heap.size:=by
 obtain ⟨⟨es,c,h1,y⟩,I,J⟩:=h;exact (Array.getElem?_eq_some_iff.1 h1).1
theorem D.gm.below {b:Nat} {L:List (Value × Value)} {w w':World} {B:Nat} (h:gm S b L w) (y:Below B w w') (hB:b < B):gm S b L w':=h.same (y.block b hB)
theorem D.gm.grown {b:Nat} {L:List (Value × Value)} {w w':World} {row:Option Nat} (h:gm S b L w) (I:w.grownBy w' row) (y:some b ≠ row):gm S b L w':=
 h.same (I.block b h.lt y)
theorem D.gm.made (w:World):gm S w.heap.size [] (w.alloc (.map #[] 0)):=
 ⟨⟨#[],0,(MapKept.heap_alloc w _).1,rfl⟩,fun p h=>by simp at h,List.Pairwise.nil⟩
section
variable {ops:Array Oper} {rest:List Oper} {o:Oper} {a:Act} {Q:Exit→Act→World→Prop}
theorem kP (hK:GN P kt W S) {w:World} (hW:W w) (c:Bool) {t e:TypeId} (ht:P.underlying t=some (.map kt e))
  {b:Nat} {L:List (Value × Value)} (h:gm S b L w) {k v:Value} (hk:(k,v) ∈ L):(Instr.lookup t (.map (some b)) k c).run P w=.ok (if c then .tuple #[v,.bool true] else v) w:=by
 obtain ⟨⟨es,ck,hb,rfl⟩,h2,h3⟩:=h;have hS:S k:=h2 _ hk;have U:∀ e ∈ es.toList,S e.key:=fun e he=>h2 (e.key,e.val) (List.mem_map.2 ⟨e,he,rfl⟩)
 obtain ⟨e0,I,y⟩:=List.mem_map.1 hk;simp only [Prod.mk.injEq] at y
 rcases kC hK hW hS es.toList U with ⟨h5,J⟩ | ⟨i,e1,h5,J,h7⟩
 ·exact absurd y.1 (J e0 I)
 ·obtain ⟨j,hj,ej⟩:=List.getElem_of_mem I
  have a0:j=i:=Oo h3 (p:=(e0.key,e0.val)) (q:=(e1.key,e1.val)) (by simp [Ψ hj,ej]) (by simp [J]) (by simp [y.1,h7])
  have a1:e1.val=v:=by
   rw [← a0,Ψ hj,ej] at J;rw [← y.2,Option.some.inj J]
  simp [Instr.lookup,run_underlying ht,MapKept.run_getObj_map hb,hK.check w _ hS,h5,a1,Result.andThen]
theorem D.jF {w:World} {b:Nat} {es:Array MapEntry} {c:Nat} (y:w.heap[b]? = some (.map es c)) (o:Obj):w.grownBy (setBlock w b o) (some b):=
 ⟨rfl,rfl,rfl,by simp [setBlock],fun i _ I=>heap_setBlock_other y _ (fun e=>I (by rw [e]))⟩
theorem D.RS {α:Type} {A B:List α} {p:α}:(A ++ p :: B)[A.length]? = some p:=by simp
end
end
end
section
open Go.RowKit Go.Conc D
def D.UZ (P:Program) (ops:Array Oper) (is:List Nat) (Q:Exit→Act→World→Prop) (a:Act) (w:World):Prop:=
 ∀ (b:Frame) (k:List Item) (cs:List Frame),∃ e y w',Q e y w'∧Arrives P (lone (b.at a (.inRegion ops is :: k)) cs w) b k cs e y w'
section
variable {P:Program} {ops:Array Oper} {Q:Exit→Act→World→Prop} {a:Act} {w:World}
theorem D.uD {id:Nat} (h:UZ P ops (List.range ops.size) Q a w):(Code.region id ops false).wp P Q a w:=
 fun b k cs=>let ⟨e,a',w',q,r⟩:=h b k cs; ⟨e,a',w',q,.of_steps (.one step_region) r⟩
theorem D.GR {is:List Nat} (h:wpOps P ops Q is a w):UZ P ops is Q a w:=fun b k cs=>wp_ops _ a w h b k cs
theorem D.sG {i:Nat} {rest:List Nat} {o:Oper} {v:Value} {w':World} (J:ops[i]? = some o) (U:o.guard=none) (hr:(execOp a.eval o).run P w=.ok (.value v) w') (h:UZ P ops rest Q (a.put o.dst v) w'):UZ P ops (i :: rest) Q a w:=fun b k cs=>by
 obtain ⟨e,a',w2,q,r⟩:=h b k cs;have hw:Region.wanted o (yielded ops a.tmps)=true:=by unfold Region.wanted; rw [U]
 have I:=stepG_op (P:=P) (b:=b) (k:=k) (cs:=cs) (w:=w) (rest:=rest) J hw;have y:(b.at a (.inRegion ops (i :: rest) :: k)).finish v=b.at (a.put o.dst v) (.inRegion ops rest :: k):=by rw [Frame.finish_at,J]; rfl
 refine ⟨e,a',w2,q,.of_steps (.one (step_lone_go ?_)) r⟩;rw [I,← y];simp [stepG.apply,hr]
theorem D.stepG_comm {b:Frame} {k:List Item} {cs:List Frame} {i:Nat} {rest:List Nat} {o:Oper} {cases:Array CommCase} {y:Bool} {shape:CommShape} {w':World} (J:ops[i]? = some o) (U:o.guard=none)
  (hr:(execOp a.eval o).run P w=.ok (.comm cases y shape) w'):∃ es,stepG P true (G (b.at a (.inRegion ops (i :: rest) :: k)) cs) w=.comm (G (b.at a (.inRegion ops (i :: rest) :: k)) cs) cases y shape w' es:=by
 have hw:Region.wanted o (yielded ops a.tmps)=true:=by unfold Region.wanted; rw [U]
 have I:=stepG_op (P:=P) (b:=b) (k:=k) (cs:=cs) (w:=w) (rest:=rest) J hw;simp only [stepG.apply,if_true] at I;generalize he:(execOp a.eval o).runT P w #[]=re at I;have h1:re.1=.ok (.comm cases y shape) w':=by rw [← he,← hr]; exact Sem.runT_fst ..
 obtain ⟨r,es⟩:=re;dsimp only at h1;subst h1;simp at I;exact ⟨_,I⟩
theorem D.RU {i:Nat} {rest:List Nat} {o:Oper} {v z':Value} {w':World} {c cap s r:Nat} {y:Array Value} {tm:Bool} (U:ops[i]? = some o) (hg:o.guard=none) (hr:(execOp a.eval o).run P w=.ok (.comm #[scase c v z'] true .send) w')
  (hc:w'.heap[c]? = some (.chan cap y false s r tm)) (I:y.size < cap) (h:UZ P ops rest Q (a.put o.dst undef) (w'.setChan c cap (y.push v) false (s+1) r tm)):UZ P ops (i :: rest) Q a w:=fun b k cs=>by
 obtain ⟨e,a',w2,q,r'⟩:=h b k cs;obtain ⟨es,hs⟩:=stepG_comm (b:=b) (k:=k) (cs:=cs) (rest:=rest) U hg hr;have J:(b.at a (.inRegion ops (i :: rest) :: k)).finish undef=b.at (a.put o.dst undef) (.inRegion ops rest :: k):=by rw [Frame.finish_at,U]; rfl
 have h1:=step_lone_send_room hs hc I;rw [J] at h1;exact ⟨e,a',w2,q,.of_steps (.one h1) r'⟩
theorem D.RV {i:Nat} {rest:List Nat} {o:Oper} {z:Value} {w':World} {c cap s r:Nat} {y:Array Value} {tm closed ok:Bool} (U:ops[i]? = some o) (hg:o.guard=none) (hr:(execOp a.eval o).run P w=.ok (.comm #[rcase c z] true (.recv ok)) w')
  (hc:w'.heap[c]? = some (.chan cap y closed s r tm)) (I:0 < y.size) (h:UZ P ops rest Q (a.put o.dst (got ok (y.getD 0 undef) true)) (w'.setChan c cap (y.extract 1 y.size) closed s (r+1) tm)):UZ P ops (i :: rest) Q a w:=fun b k cs=>by
 obtain ⟨e,a',w2,q,r'⟩:=h b k cs;obtain ⟨es,hs⟩:=stepG_comm (b:=b) (k:=k) (cs:=cs) (rest:=rest) U hg hr;have J:∀ v,(b.at a (.inRegion ops (i :: rest) :: k)).finish v=b.at (a.put o.dst v) (.inRegion ops rest :: k):=fun v=>by rw [Frame.finish_at,U]; rfl
 have h1:=step_lone_recv_buf ok hs hc I;rw [J] at h1;exact ⟨e,a',w2,q,.of_steps (.one h1) r'⟩
theorem D.RX {i:Nat} {rest:List Nat} {o:Oper} {z:Value} {w':World} {c cap s r:Nat} {tm ok:Bool} (I:ops[i]? = some o) (J:o.guard=none) (hr:(execOp a.eval o).run P w=.ok (.comm #[rcase c z] true (.recv ok)) w')
  (hc:w'.heap[c]? = some (.chan cap #[] true s r tm)) (h:UZ P ops rest Q (a.put o.dst (got ok z false)) w'):UZ P ops (i :: rest) Q a w:=fun b k cs=>by
 obtain ⟨e,U,w2,q,r'⟩:=h b k cs;obtain ⟨es,hs⟩:=stepG_comm (b:=b) (k:=k) (cs:=cs) (rest:=rest) I J hr;have y:∀ v,(b.at a (.inRegion ops (i :: rest) :: k)).finish v=b.at (a.put o.dst v) (.inRegion ops rest :: k):=fun v=>by rw [Frame.finish_at,I]; rfl
 have h1:=step_lone_recv_shut ok hs hc;rw [y] at h1;exact ⟨e,U,w2,q,.of_steps (.one h1) r'⟩
end
end
section
open Go.RowKit Go.Shelf
abbrev bT:TypeId:=184
theorem infoByte:(Tryz.prog.info? 5).map (fun i=>(i.zero,i.size,i.bytes))=some (some (.int .u8 0),1,1):=by kernel_rfl
theorem sizeBuilder:(Tryz.prog.info? bT).map (·.size)=some 2:=by kernel_rfl
theorem neB5:bT ≠ 5:=by decide
theorem liesBuilder:liesAt Tryz.prog Tryz.prog.depth bT (2 / Tryz.prog.cellsOf bT) 0 bT 1=true:=by kernel_rfl
theorem zF (b:Nat) (w:World) (h0:w.cell? ⟨b,0,none⟩=some (.pointer none)) (y:w.shape? b=some (bT,2)) (U:w.frozen? ⟨b,0,none⟩=false):
  Calls Tryz.prog 180 #[.pointer (some ⟨b,0,none⟩)] w fun e w'=>e=.returned (.tuple #[])∧w'=w.setCell ⟨b,0,none⟩ (.pointer (some ⟨b,0,none⟩)):=by
 obtain ⟨j,J,I⟩:=Option.map_eq_some_iff.1 sizeBuilder
 go_enter Tryz.func180,Tryz.ntmps180
 go_wp2;rw [Lib.run_to_unsafe w ⟨b,0,none⟩ Tryz.underlying182 Tryz.underlying307 J (by rw [I]; decide) y (Θ 1)];simp only [Result.andThen];rw [Oper.upon_value];go_wp2;rw [run_callFunc_extern Tryz.func233 (by kernel_rfl) (by kernel_rfl) (by kernel_rfl) (e:=Extern.AbiNoEscape.same) (by kernel_rfl)];rw [Lib.run_noEscape];simp only [Result.andThen];rw [Oper.upon_value];go_wp2;rw [Lib.run_from_unsafe w ⟨b,0,none⟩ Tryz.underlying307 Tryz.underlying182 J y liesBuilder];simp only [Result.andThen];rw [Oper.upon_value];go_wp2
 go_end0
 exact ⟨rfl,rfl⟩
theorem BP (b:Nat) (w:World) (h0:w.cell? ⟨b,0,none⟩=some (.pointer (some ⟨b,0,none⟩))):
  Calls Tryz.prog 180 #[.pointer (some ⟨b,0,none⟩)] w fun e w'=>e=.returned (.tuple #[])∧w'=w:=by
 obtain ⟨j,y,_⟩:=Option.map_eq_some_iff.1 sizeBuilder
 go_enter Tryz.func180,Tryz.ntmps180
 go_wp2;rw [Lib.run_neq_ptr_same w _ Tryz.underlying182 y];go_wp2
 go_end0
 exact ⟨rfl,rfl⟩
theorem yR (B b:Nat) (bs:List Value) (w:World) (h:Lib.IsBuilderF bT 5 B b bs w):
  Calls Tryz.prog 180 #[.pointer (some ⟨b,0,none⟩)] w fun e w'=>e=.returned (.tuple #[])∧(Lib.BuilderAtF bT 5 B b (.pointer (some ⟨b,0,none⟩)) bs w'∧Below B w w'∧Lib.OthersKept 5 (some b) w w'):=by
 rcases h with h | h
 ·refine (zF b w h.cell0 h.shape h.frozen0).mono ?_
  rintro e w' ⟨rfl,rfl⟩;exact ⟨rfl,h.used _,(Below.refl B w).setCell (p:=⟨b,0,none⟩) h.1 _,(Lib.OthersKept.refl _ _ w).setCell ⟨b,0,none⟩ rfl _⟩
 ·refine (BP b w h.cell0).mono ?_
  rintro e w' ⟨rfl,rfl⟩;exact ⟨rfl,h,Below.refl B _,Lib.OthersKept.refl _ _ _⟩
theorem I9 (B b:Nat) (bs:List Value) (c:Int) (w:World) (h:Lib.IsBuilderF bT 5 B b bs w) (hlen:bs.length+1≤140737488355328) (a8:B≤w.heap.size):
  Calls Tryz.prog 120 #[.pointer (some ⟨b,0,none⟩),.int .u8 c] w fun e w'=>e=.returned .nilIface∧(Lib.BuilderAtF bT 5 B b (.pointer (some ⟨b,0,none⟩)) (bs ++ [.int .u8 c]) w'∧Below B w w'∧Lib.OthersKept 5 (some b) w w'):=by
 obtain ⟨i0,hi,a2,a3,a4⟩:=info_parts infoByte
 go_enter Tryz.func120,Tryz.ntmps120
 go_wp2_with (go_at_call 180; refine (yR B b bs _ h).mono ?_)
 rintro e w1 ⟨rfl,h1,U,a5⟩;obtain ⟨hB,v,a0,I,a6⟩:=h1;have c0:w1.cell? ⟨b,0,none⟩=some (.pointer (some ⟨b,0,none⟩)):=by rw [Lib.cell_of_heap a0]; rfl
 have c1:w1.cell? ⟨b,1,none⟩=some v:=by rw [Lib.cell_of_heap a0]; rfl
 go_wp2_with (at_builtin; refine wpList_append_ownF _ rfl _ _ 22 rfl B 5 i0 (.int .u8 0) 1 1 Tryz.underlying22 hi a2 a3 a4 rfl (by decide) _ _ _ rfl (I.alloc _) ⟨w1.heap.size,0,none⟩ 1 1 [.int .u8 c] rfl rfl ?c1 ?c2 ?c3 ?c4 ?c5 ?_)
 case c1=>
  intro j u hj
  match j,hj with
  | 0,hj=>simp at hj; subst hj; simp [Addr.add]
 case c2=>intro u hu; simp at hu; subst hu; rfl
 case c3=>unfold maxLen; omega
 case c4=>omega
 case c5=>have:=U.size; simp; omega
 intro v' w2 J y _
 have a7:b < w1.heap.size:=by
  rcases Nat.lt_or_ge b w1.heap.size with h' | h'
  ·exact h'
  ·simp [Array.getElem?_eq_none h'] at a0
 have a1:w2.heap[b]? = some (.cells #[.pointer (some ⟨b,0,none⟩),v] bT (0,0)):=by
  rw [y.block b (by simp; omega) (fun e=>a6 e.symm),Lib.alloc_old w1 _ b a7];exact a0
 have d0:w2.cell? ⟨b,0,none⟩=some (.pointer (some ⟨b,0,none⟩)):=by rw [Lib.cell_of_heap a1]; rfl
 have d1:w2.cell? ⟨b,1,none⟩=some v:=by rw [Lib.cell_of_heap a1]; rfl
 have f1:w2.frozen? ⟨b,1,none⟩=false:=Lib.frozen_of_heap a1 1
 obtain ⟨g,cap,rfl⟩:∃ g cap,v'=.slice (some ⟨g,0,none⟩) (bs.length+1) cap:=by
  rcases J.2 with ⟨_,h0⟩ | ⟨g,cap,a9,fz,hv,_⟩
  ·omega
  ·exact ⟨g,cap,hv⟩
 go_wp2;go_ret;refine ⟨rfl,?_,?_,((a5.alloc _).grown y (Lib.ownsRowF_kind (I.alloc _))).setCell ⟨b,1,none⟩ rfl _⟩
 ·exact Lib.BuilderAtF.put (T:=bT) (e:=5) hB a1 (bs':=bs ++ [.int .u8 c]) (by simpa using J) neB5
 ·exact ((U.alloc (by have:=U.size; omega) _).grown y (by have:=U.size; simp; omega) (fun k hk=>(I.lt k hk).1)).setCell (p:=⟨b,1,none⟩) hB _
theorem Es (B b:Nat) (bs:List Value) (s:ByteArray) (w:World) (h:Lib.IsBuilderF bT 5 B b bs w) (hlen:bs.length+s.size≤140737488355328) (a8:B≤w.heap.size):
  Calls Tryz.prog 119 #[.pointer (some ⟨b,0,none⟩),.string s] w fun e w'=>e=.returned (.tuple #[.int .i64 s.size,.nilIface])∧(Lib.BuilderAtF bT 5 B b (.pointer (some ⟨b,0,none⟩)) (bs ++ Lib.strCells s) w'∧Below B w w'∧Lib.OthersKept 5 (some b) w w'):=by
 obtain ⟨i0,hi,a2,a3,a4⟩:=info_parts infoByte
 go_enter Tryz.func119,Tryz.ntmps119
 go_wp2_with (go_at_call 180; refine (yR B b bs _ h).mono ?_)
 rintro e w1 ⟨rfl,h1,a1,a5⟩;obtain ⟨hB,v,U,I,a6⟩:=h1;have c0:w1.cell? ⟨b,0,none⟩=some (.pointer (some ⟨b,0,none⟩)):=by rw [Lib.cell_of_heap U]; rfl
 have c1:w1.cell? ⟨b,1,none⟩=some v:=by rw [Lib.cell_of_heap U]; rfl
 go_wp2_with (at_builtin; refine Lib.wpList_append_own_stringF _ rfl _ _ 22 9 rfl B 5 i0 Tryz.underlying22 Tryz.underlying9 hi a2 a3 a4 _ _ _ rfl I s rfl ?c3 ?c4 ?c5 ?_)
 case c3=>unfold maxLen; omega
 case c4=>omega
 case c5=>have:=a1.size; omega
 intro v' w2 J y _
 have a7:b < w1.heap.size:=by
  rcases Nat.lt_or_ge b w1.heap.size with h' | h'
  ·exact h'
  ·simp [Array.getElem?_eq_none h'] at U
 have a0:w2.heap[b]? = some (.cells #[.pointer (some ⟨b,0,none⟩),v] bT (0,0)):=by
  rw [y.block b a7 (fun e=>a6 e.symm)];exact U
 have d0:w2.cell? ⟨b,0,none⟩=some (.pointer (some ⟨b,0,none⟩)):=by rw [Lib.cell_of_heap a0]; rfl
 have d1:w2.cell? ⟨b,1,none⟩=some v:=by rw [Lib.cell_of_heap a0]; rfl
 have f1:w2.frozen? ⟨b,1,none⟩=false:=Lib.frozen_of_heap a0 1
 obtain ⟨ao,n',cap,rfl⟩:∃ ao n' cap,v'=.slice ao n' cap:=by
  rcases J.2 with ⟨hv,_⟩ | ⟨g,cap,a9,fz,hv,_⟩
  ·exact ⟨_,_,_,hv⟩
  ·exact ⟨_,_,_,hv⟩
 go_wp2;go_ret2;refine ⟨rfl,?_,?_,(a5.grown y (Lib.ownsRowF_kind I)).setCell ⟨b,1,none⟩ rfl _⟩
 ·exact Lib.BuilderAtF.put (T:=bT) (e:=5) hB a0 (bs':=bs ++ Lib.strCells s) (by simpa [Lib.strCells_length] using J) neB5
 ·exact (a1.grown y (by have:=a1.size; omega) (fun k hk=>(I.lt k hk).1)).setCell (p:=⟨b,1,none⟩) hB _
abbrev U0 (B b:Nat) (l:List UInt8) (w:World):Prop:=Lib.IsBuilderF bT 5 B b (Lib.byteCells l) w
structure Wrote (B b:Nat) (l:List UInt8) (w w':World):Prop where
 bld:U0 B b l w'
 below:Below B w w'
 kept:Lib.OthersKept 5 (some b) w w'
theorem Wrote.block {B b k:Nat} {l:List UInt8} {w w':World} (h:Wrote B b l w w') {c:Array Value} {e:TypeId} {fz:Nat × Nat} (y:w.heap[k]? = some (.cells c e fz)) (I:k ≠ b) (he:e ≠ 5):w'.heap[k]? = some (.cells c e fz):=
 h.kept k _ y (fun x=>I (by injection x)) (fun U J x=>he (by injection x))
theorem Xw (s:ByteArray):s.data.toList.length=s.size:=Array.length_toList
theorem U0.below {B b:Nat} {l:List UInt8} {w w':World} (h:U0 B b l w) (hb:Below w.heap.size w w'):U0 B b l w':=by
 have y:∀ p,Lib.BuilderAtF bT 5 B b p (Lib.byteCells l) w→Lib.BuilderAtF bT 5 B b p (Lib.byteCells l) w':=by
  rintro p ⟨hB,v,I,⟨h1,J⟩,U⟩;refine ⟨hB,v,by rw [hb.block b (ψ I)]; exact I,⟨h1,?_⟩,U⟩
  rcases J with J | ⟨g,cap,a0,fz,hv,hg,hh,r⟩
  ·exact .inl J
  ·exact .inr ⟨g,cap,a0,fz,hv,hg,by rw [hb.block g (ψ hh)]; exact hh,r⟩
 exact h.imp (y _) (y _)
theorem Vm (w:World):U0 w.heap.size w.heap.size [] (w.alloc (.cells #[.pointer none,.slice none 0 0] bT)):=Lib.IsBuilderF.of (Lib.fresh_isBuilder bT 5 w)
theorem RY (B b:Nat) (l:List UInt8) (c:UInt8) (n:Int) (hc:n=c.toNat) (w:World) (h:U0 B b l w) (hlen:l.length≤1073741824) (y:B≤w.heap.size):
  Calls Tryz.prog 120 #[.pointer (some ⟨b,0,none⟩),.int .u8 n] w fun e w'=>e=.returned .nilIface∧Wrote B b (l ++ [c]) w w':=by
 refine (I9 B b _ n w h (by rw [Lib.byteCells_length]; omega) y).mono fun e w' h=>?_
 obtain ⟨he,h1,I,J⟩:=h;refine ⟨he,⟨?_,I,J⟩⟩;show Lib.IsBuilderF _ _ _ _ _ _;rw [Lib.byteCells_append,show Lib.byteCells [c] = [Value.int .u8 n] from by rw [hc]; rfl];exact .inr h1
theorem Wv (B b:Nat) (l:List UInt8) (s:ByteArray) (w:World) (h:U0 B b l w) (hlen:l.length≤1073741824) (U:s.size≤1073741824) (y:B≤w.heap.size):
  Calls Tryz.prog 119 #[.pointer (some ⟨b,0,none⟩),.string s] w fun e w'=>e=.returned (.tuple #[.int .i64 s.size,.nilIface])∧Wrote B b (l ++ s.data.toList) w w':=by
 refine (Es B b _ s w h (by rw [Lib.byteCells_length]; omega) y).mono fun e w' h=>?_
 obtain ⟨he,h1,I,J⟩:=h;refine ⟨he,⟨?_,I,J⟩⟩;show Lib.IsBuilderF _ _ _ _ _ _;rw [Lib.byteCells_append];exact .inr h1
theorem Xx (B b:Nat) (l:List UInt8) (w:World) (h:U0 B b l w) (y:B≤w.heap.size):
  Calls Tryz.prog 121 #[.pointer (some ⟨b,0,none⟩)] w fun e w'=>e=.returned (.string ⟨l.toArray⟩)∧Wrote B b l w w':=by
 refine (Tryz.Builder_String_any_k B b l w h y).mono fun e w' h=>?_
 obtain ⟨he,h1,I,J⟩:=h;exact ⟨he,⟨h1,I,J⟩⟩
end
section
namespace D
def mD (ps:List Pt):Bool:=decide (ps.length≤4) && ps.all fun p=>aX p.atom
def dN (r:Ru):Bool:=mD r.body && aX r.head
end D
end
namespace D
open Go Go.RowKit
def BQ (base e:Nat) (w:World) (v:Value) (n:Nat) (L:List Value) (o:Option Nat):Prop:=(∃ A cap,v=.slice A n cap)∧w.ownsRow base e 1 v n L∧(∀ b,v.ownBlock=some b→o=some b)
def Oq (e:Nat) (w:World) (v x:Value) (o:Option Nat):Prop:=∃ l,v=.slice (some ⟨l,0,none⟩) 1 1∧w.heap[l]? = some (.cells #[x] e (0,0))∧o=some l
def Ja (base:Nat) (w:World) (o:Option Nat):Prop:=∀ b,o=some b→base≤b∧b < w.heap.size
def kJ (o p:Option Nat):Prop:=∀ b,o=some b→p ≠ some b
theorem qK {w w':World} {base e size n:Nat} {v:Value} {L:List Value} (h:w.ownsRow base e size v n L) (I:∀ b,v.ownBlock=some b→w'.heap[b]? = w.heap[b]?):w'.ownsRow base e size v n L:=by
 refine ⟨h.1,h.2.imp id ?_⟩;rintro ⟨g,cap,y,hv,J,U,r⟩;exact ⟨g,cap,y,hv,J,by rw [I g (by rw [hv]; rfl)]; exact U,r⟩
theorem BQ.keep {base e:Nat} {w w':World} {v:Value} {n:Nat} {L:List Value} {o:Option Nat} (h:BQ base e w v n L o) (y:∀ b,o=some b→w'.heap[b]? = w.heap[b]?):BQ base e w' v n L o:=
 ⟨h.1,qK h.2.1 fun b I=>y b (h.2.2 b I),h.2.2⟩
theorem Oq.keep {e:Nat} {w w':World} {v x:Value} {o:Option Nat} (h:Oq e w v x o) (y:∀ b,o=some b→w'.heap[b]? = w.heap[b]?):Oq e w' v x o:=by
 obtain ⟨l,h1,I,rfl⟩:=h;exact ⟨l,h1,by rw [y l rfl]; exact I,rfl⟩
theorem Ja.keep {base:Nat} {w w':World} {o:Option Nat} (h:Ja base w o) (I:w.heap.size≤w'.heap.size):Ja base w' o:=fun b y=>⟨(h b y).1,κ (h b y).2 I⟩
theorem kJ.new {base:Nat} {w:World} {o:Option Nat} (h:Ja base w o):kJ o (some w.heap.size):=fun b y e=>by have:=(h b y).2; simp at e; omega
theorem kJ.symm {o p:Option Nat} (h:kJ o p):kJ p o:=fun b y e=>h b e y
structure qG (base e n:Nat) (L:List Value) (x:Value) (be br bs bf:Bool) (ve vr vs vf:Value) (o1 o2:Option Nat) (w:World):Prop where
 e_:be=true→br=false→BQ base e w ve 0 [] o1
 r_:br=true→bf=false→BQ base e w vr n L o1
 s_:bs=true→bf=false→Oq e w vs x o2
 f_:bf=true→BQ base e w vf (n+1) (L ++ [x]) o1
 i1:Ja base w o1
 i2:Ja base w o2
 d:kJ o1 o2
 hr:br=true→be=true
 hf:bf=true→br=true∧bs=true
section
variable {base e n:Nat} {L:List Value} {x:Value} {be br bs bf:Bool} {ve vr vs vf:Value} {o1 o2:Option Nat} {w w':World}
theorem qG.start:qG base e n L x false false false false ve vr vs vf none none w:=
 ⟨(fun h=>by cases h),(fun h=>by cases h),(fun h=>by cases h),(fun h=>by cases h),((fun b h=>by cases h)),((fun b h=>by cases h)),((fun b h=>by cases h)),(fun h=>by cases h),(fun h=>by cases h)⟩
theorem qG.keep (h:qG base e n L x be br bs bf ve vr vs vf o1 o2 w) (y:w.heap.size≤w'.heap.size) (h1:∀ b,o1=some b→w'.heap[b]? = w.heap[b]?) (I:∀ b,o2=some b→w'.heap[b]? = w.heap[b]?):
  qG base e n L x be br bs bf ve vr vs vf o1 o2 w':=
 ⟨fun a b=>(h.e_ a b).keep h1,fun a b=>(h.r_ a b).keep h1,fun a b=>(h.s_ a b).keep I,fun a=>(h.f_ a).keep h1,h.i1.keep y,h.i2.keep y,h.d,h.hr,h.hf⟩
theorem qG.below (h:qG base e n L x be br bs bf ve vr vs vf o1 o2 w) (y:Below w.heap.size w w'):qG base e n L x be br bs bf ve vr vs vf o1 o2 w':=
 h.keep y.size (fun b I=>y.block b (h.i1 b I).2) fun b J=>y.block b (h.i2 b J).2
theorem qG.beside (h:qG base e n L x be br bs bf ve vr vs vf o1 o2 w) {o:Option Nat} (J:w.grownBy w' o) (U:w.heap.size≤w'.heap.size) (h1:kJ o o1) (h2:kJ o o2):qG base e n L x be br bs bf ve vr vs vf o1 o2 w':=
 h.keep U (fun b y=>J.block b (h.i1 b y).2 fun I=>h1 b I.symm y) fun b y=>J.block b (h.i2 b y).2 fun I=>h2 b I.symm y
theorem qG.RZ (h:qG base e n L x false br bs bf ve vr vs vf o1 o2 w) (y:base≤w.heap.size):qG base e n L x true br bs bf (.slice (some ⟨w.heap.size,0,none⟩) 0 0) vr vs vf (some w.heap.size) o2 (w.alloc (.cells #[] e)):=by
 have U:Below w.heap.size w (w.alloc (.cells #[] e)):=ζ
 have I:br=false:=by cases br with
  | false=>rfl
  | true=>exact absurd (h.hr rfl) (by simp)
 have J:bf=false:=by cases bf with
  | false=>rfl
  | true=>rw [I] at h; exact absurd (h.hf rfl).1 (by simp)
 subst I J;refine ⟨fun _ _=>⟨⟨_,_,rfl⟩,xO (ω w _) y,fun b y=>by simpa [Value.ownBlock] using y⟩,(fun h=>by cases h),fun a b=>(h.s_ a b).keep fun b y=>U.block b (h.i2 b y).2,(fun h=>by cases h),fun b y=>?_,h.i2.keep U.size,(kJ.new h.i2).symm,fun _=>rfl,(fun h=>by cases h)⟩;simp at y;subst y;simp;exact y
theorem qG.stepS (h:qG base e n L x be br false bf ve vr vs vf o1 o2 w) (y:base≤w.heap.size):qG base e n L x be br true bf ve vr (.slice (some ⟨w.heap.size,0,none⟩) 1 1) vf o1 (some w.heap.size) (w.alloc (.cells #[x] e)):=by
 have J:Below w.heap.size w (w.alloc (.cells #[x] e)):=ζ;have U:=fun b y=>J.block b (h.i1 b y).2
 have I:bf=false:=by cases bf with
  | false=>rfl
  | true=>exact absurd (h.hf rfl).2 (by simp)
 subst I;refine ⟨fun a b=>(h.e_ a b).keep U,fun a b=>(h.r_ a b).keep U,fun _ _=>⟨_,rfl,ω w _,rfl⟩,(fun h=>by cases h),h.i1.keep J.size,fun b y=>?_,kJ.new h.i1,h.hr,(fun h=>by cases h)⟩;simp at y;subst y;simp;exact y
theorem qG.dK (h:qG base e n L x true false bs bf ve vr vs vf o1 o2 w) (y:base≤w.heap.size) {A:Option Addr} {cap:Nat} (I:w'.ownsRow base e 1 (.slice A n cap) n L) (hg:w.grownBy w' ve.ownBlock) (hs:w.heap.size≤w'.heap.size)
  (J:(Value.slice A n cap).ownBlock=ve.ownBlock∨(Value.slice A n cap).ownBlock=some w.heap.size) (hin:Ja base w' (Value.slice A n cap).ownBlock):
  qG base e n L x true true bs bf ve (.slice A n cap) vs vf (Value.slice A n cap).ownBlock o2 w':=by
 have a0:bf=false:=by cases bf with
  | false=>rfl
  | true=>exact absurd (h.hf rfl).1 (by simp)
 subst a0;have hE:=h.e_ rfl rfl;have a1:∀ b,o2=some b→w'.heap[b]? = w.heap[b]?:=fun b y=>hg.block b (h.i2 b y).2 fun e'=>h.d b (hE.2.2 b e'.symm) y
 refine ⟨(fun _ h=>by cases h),fun _ _=>⟨⟨_,_,rfl⟩,I,fun b y=>y⟩,fun a b=>(h.s_ a b).keep a1,(fun h=>by cases h),hin,h.i2.keep hs,fun b y U=>?_,fun _=>rfl,(fun h=>by cases h)⟩
 rcases J with hl | hl
 ·rw [hl] at y
  exact h.d b (hE.2.2 b y) U
 ·rw [hl] at y
  have:=(h.i2 b U).2;simp at y;omega
theorem qG.Si (h:qG base e n L x true true true false ve vr vs vf o1 o2 w) (y:base≤w.heap.size) {A:Option Addr} {cap:Nat} (I:w'.ownsRow base e 1 (.slice A (n+1) cap) (n+1) (L ++ [x])) (hg:w.grownBy w' vr.ownBlock) (hs:w.heap.size≤w'.heap.size)
  (J:(Value.slice A (n+1) cap).ownBlock=vr.ownBlock∨(Value.slice A (n+1) cap).ownBlock=some w.heap.size) (hin:Ja base w' (Value.slice A (n+1) cap).ownBlock):
  qG base e n L x true true true true ve vr vs (.slice A (n+1) cap) (Value.slice A (n+1) cap).ownBlock o2 w':=by
 have hE:=h.r_ rfl rfl;refine ⟨(fun _ h=>by cases h),(fun _ h=>by cases h),(fun _ h=>by cases h),fun _=>⟨⟨_,_,rfl⟩,I,fun b y=>y⟩,hin,h.i2.keep hs,fun b y U=>?_,fun _=>rfl,fun _=>⟨rfl,rfl⟩⟩
 rcases J with hl | hl
 ·rw [hl] at y
  exact h.d b (hE.2.2 b y) U
 ·rw [hl] at y
  have:=(h.i2 b U).2;simp at y;omega
end
theorem je {base e size n:Nat} {w:World} {v:Value} {L:List Value} (h:w.ownsRow base e size v n L):Ja base w v.ownBlock:=fun b y=>by
 rcases h.2 with ⟨rfl,_⟩ | ⟨g,cap,I,rfl,J,U,_⟩
 ·simp [Value.ownBlock] at y
 ·have:g=b:=by simpa [Value.ownBlock] using y
  subst this;exact ⟨J,ψ U⟩
end D
end Go.Proofs.YtkjinanbccloeaaGreatDoor
