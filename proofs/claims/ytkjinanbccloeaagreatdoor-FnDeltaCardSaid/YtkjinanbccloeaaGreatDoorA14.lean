/- Of the proof of FnDelta: AtTxP, QryP, IntK, ChP, Body, FillS. -/
import Derived.Test.YtkjinanbccloeaaGreatDoorA13
set_option linter.unusedVariables false
set_option maxHeartbeats 4000000
set_option maxRecDepth 100000
namespace Go.Proofs.YtkjinanbccloeaaGreatDoor
namespace D
open Go.RowKit Go.Lib
theorem Wp {c:UInt8} (h:low c=true):big c=false:=by
 cases hb:big c
 ·rfl
 ·exfalso
  have h1:=(Cc c).1 hb;have:low c=false:=(xw c).2 (by omega);rw [this] at h; cases h
theorem Us {s:ByteArray} (h:iW s=true):sG s=false:=by
 unfold iW oW at h;simp only [ο] at h;unfold sG
 cases hs:s.data.toList with
 | nil=>simp [big]
 | cons x xs=>
  have:=List.all_eq_true.1 h.1.2 x (by rw [hs]; exact Γ);simp [Wp this]
theorem KO {t:T} (h:jl t=true):zu t.name=t:=by
 unfold zu;unfold jl at h;obtain ⟨v,s⟩:=t;cases v
 ·have:=Us (s:=s) (by simpa using h)
  show (⟨sG s,s⟩:T)=⟨false,s⟩;rw [this]
 ·have h1:xA s=true:=by simpa using h
  unfold xA at h1;simp only [ο] at h1;show (⟨sG s,s⟩:T)=⟨true,s⟩;rw [h1.1.2]
theorem uY {t:T} (h:jl t=true):(44:UInt8) ∉ t.name.data.toList∧t.name.data.toList ≠ []∧t.name.data.toList.length≤8:=by
 have hz:t.name.data.toList.length=t.name.size:=Array.length_toList;unfold jl at h
 split at h
 ·unfold xA at h
  simp only [ο,decide_eq_true_eq] at h;have h1:=h.1.2;unfold sG at h1;simp only [ο,decide_eq_true_eq] at h1;refine ⟨?_,by intro e; rw [e] at hz; simp at hz; omega,by omega⟩;intro hm
  cases hs:t.name.data.toList with
  | nil=>rw [hs] at hm; simp at hm
  | cons x xs=>
   rw [hs] at hm h1 h
   rcases List.mem_cons.1 hm with e | hm
   ·have y:=h1.2
    rw [← e] at y;exact absurd (show big 44=true from y) (by decide)
   ·exact (Ie _ (List.all_eq_true.1 h.2 _ hm)).2.2.1 rfl
 ·unfold iW at h
  simp only [ο,decide_eq_true_eq] at h;refine ⟨?_,by intro e; rw [e] at hz; simp at hz; omega,by omega⟩;intro hm;exact (Ie _ (List.all_eq_true.1 h.1.2 _ hm)).2.2.1 rfl
theorem PD {a:A} (h:aZ a=true):Du a.name.data.toList (lT a.args)=a:=by
 unfold aZ at h;simp only [ο] at h;have y:=List.all_eq_true.1 h.2
 have e:a.args=(a.args.map fun t=>t.name.data.toList).map fun w=>zu (toB w):=by
  rw [List.map_map]
  conv=>lhs; rw [← List.map_id a.args]
  refine List.map_congr_left fun t I=>?_
  show t=zu (toB t.name.data.toList);rw [Oc,KO (y t I)]
 have J:lT a.args=joinL 44 (a.args.map fun t=>t.name.data.toList):=by
  conv=>lhs; rw [e]
  rw [Dv]
 unfold Du;obtain ⟨nm,args⟩:=a;dsimp only at *;rw [Oc]
 cases args with
 | nil=>rw [J]; rfl
 | cons t r=>
  have U:joinL 44 ((t :: r).map fun t=>t.name.data.toList) ≠ []:=by
   have I:=(uY (y t Γ)).2.1
   cases r with
   | nil=>exact I
   | cons u r=>exact List.append_ne_nil_of_left_ne_nil I _
  rw [if_neg (by rw [J]; exact U),J,AQ]
  ·rw [← e]
  ·simp
  ·intro p hp
   obtain ⟨u,hu,rfl⟩:=List.mem_map.1 hp;exact (uY (y u hu)).1
theorem join_le:∀ (ps:List (List UInt8)),(∀ p ∈ ps,p.length≤8)→(joinL 44 ps).length≤9 * ps.length
 | [],_=>by simp [joinL]
 | [p],h=>by have:=h p Γ; simp [joinL]; omega
 | p :: q :: r,h=>by
  have h1:=h p Γ;have I:=join_le (q :: r) fun x y=>h x (Δ _ y)
  show (p ++ 44 :: joinL 44 (q :: r)).length≤_;rw [χ,List.length_cons];simp only [List.length_cons] at *;omega
theorem Wq {a:A} (h:aZ a=true):(lT a.args).length≤27:=by
 have h0:=h;unfold aZ at h;simp only [ο,decide_eq_true_eq] at h;have y:=List.all_eq_true.1 h.2;have:=PD h0
 have e:a.args=(a.args.map fun t=>t.name.data.toList).map fun w=>zu (toB w):=by
  rw [List.map_map]
  conv=>lhs; rw [← List.map_id a.args]
  refine List.map_congr_left fun t I=>?_
  show t=zu (toB t.name.data.toList);rw [Oc,KO (y t I)]
 rw [e,Dv]
 have:=join_le (a.args.map fun t=>t.name.data.toList) fun p J=>by
  obtain ⟨u,U,rfl⟩:=List.mem_map.1 J;exact (uY (y u U)).2.2
 rw [List.length_map] at this;omega
theorem KP {s:ByteArray} (h:iW s=true):s.data.toList.length≤8∧1≤s.data.toList.length:=by
 have hz:s.data.toList.length=s.size:=Array.length_toList;unfold iW at h;simp only [ο,decide_eq_true_eq] at h;omega
theorem Gi {a:A} (h:aZ a=true):(xJ a).length≤37:=by
 have h1:=Wq h;unfold aZ at h;simp only [ο] at h;have y:=KP h.1.1;unfold xJ;simp only [χ,List.length_singleton];omega
theorem Gj {a:A} (h:aZ a=true):Ye (xJ a)=(a,true):=by
 have hl:=Gi h
 have hc:cut (xJ a) [40]=(a.name.data.toList,lT a.args ++ [41],true):=by
  have hn:(40:UInt8) ∉ a.name.data.toList:=by
   unfold aZ at h;simp only [ο] at h;exact Uj h.1.1
  rcases XA (xJ a) 40 with ⟨h1,_⟩ | ⟨x,y,h1,J,U⟩
  ·exact absurd (by unfold xJ; simp) h1
  ·have e:a.name.data.toList ++ 40 :: (lT a.args ++ [41])=x ++ 40 :: y:=by rw [← h1]; unfold xJ; simp
   have I:=qY (lT a.args ++ [41]) hn;rw [e,qY y J] at I
   injection I with e1 _
   rw [U];subst e1;rw [List.append_cancel_left_eq] at e
   injection e with _ e
   rw [e]
 unfold Ye;rw [if_neg (by omega),hc];show (if true=true∧(lT a.args ++ [41]).getLast? = some 41 then _ else _)=_;rw [if_pos ⟨rfl,by simp⟩];show (if aZ (Du a.name.data.toList (lT a.args ++ [41]).dropLast)=true then _ else _)=_;rw [List.dropLast_concat,PD h,if_pos h]
end D
section
open Go.RowKit D
def D.kD (vars:List ByteArray) (t:T):Int:=if t.var then ((vars.idxOf t.name:Nat):Int) else -1
def D.kE (t:T):ByteArray:=if t.var then ⟨#[]⟩ else t.name
def D.DR (vars:List ByteArray):Rel T:=fun _ cs t bs=>cs = [.int .i64 (kD vars t),.string (kE t)]∧(kE t).size≤maxLen∧bs = []
theorem D.gV (vars:List ByteArray):Good (DR vars):=⟨fun h _=>h,fun h b hb=>by rw [h.2.2] at hb; simp at hb⟩
theorem D.DT (vars:List ByteArray):BN 2 (DR vars):=fun h=>by obtain ⟨rfl,_⟩:=h; simp [Value.oneCell']
def D.kQ (vars:List ByteArray):Rel (List T):=iO 2 (DR vars)
theorem D.dm (vars:List ByteArray):Good (kQ vars):=iK (gV vars) (by omega)
def D.EL (vars:List ByteArray):Rel A:=fun w cs a bs=>∃ v,cs = [.string a.name,v]∧a.name.size≤maxLen∧kQ vars w [v] a.args bs
theorem D.iL (vars:List ByteArray):Good (EL vars):=
 ⟨fun h J=>by obtain ⟨v,h1,I,y⟩:=h; exact ⟨v,h1,I,(dm vars).keep y J⟩,fun h=>by obtain ⟨v,h1,I,y⟩:=h; exact (dm vars).lt y⟩
theorem D.Gl (vars:List ByteArray):BN 2 (EL vars):=fun h=>by
 obtain ⟨v,rfl,_,y⟩:=h;obtain ⟨I,cap,rfl,_⟩:=aj y;simp [Value.oneCell']
def D.uf (vars:List ByteArray):Rel (List A):=iO 2 (EL vars)
theorem D.dW (vars:List ByteArray):Good (uf vars):=iK (iL vars) (by omega)
def D.iq (body:List Pt):List A:=(body.filter fun p=>!p.no).map (·.atom)
def D.dZ (body:List Pt):List A:=(body.filter fun p=>p.no).map (·.atom)
def D.Yp:Rel (List Pt):=fun w cs body bs=>∃ y I J U b2 b3,cs = [y,I,J]∧bs=U ++ b2 ++ b3∧uf (aC body) w [y] (iq body) U∧uf (aC body) w [I] (dZ body) b2∧jK w [J] (aC body) b3
theorem D.yt {vars:List ByteArray} {w:World} {J:Option Addr} {len cap:Nat} {I:List T} {bs:List Nat} {k:Nat} (h:kQ vars w [.slice J len cap] I bs) (U:k < I.length):
  ∃ b o,J=some ⟨b,o,none⟩∧b ∈ bs∧w.cell? ⟨b,o+k * 2,none⟩=some (.int .i64 (kD vars I[k]))∧w.cell? ⟨b,o+k * 2+1,none⟩=some (.string (kE I[k]))∧(kE I[k]).size≤maxLen:=by
 obtain ⟨b,o,cs,bk,rfl,hb,a0,y,⟨rfl,hs,_⟩,_⟩:=jw h U;exact ⟨b,o,rfl,hb,by simpa using y 0 _ rfl,by have:=y 1 _ rfl; simpa [Nat.add_assoc] using this,hs⟩
theorem D.yu {vars:List ByteArray} {w:World} {Ad:Option Addr} {len cap:Nat} {xs:List A} {bs:List Nat} {k:Nat} (h:uf vars w [.slice Ad len cap] xs bs) (hk:k < xs.length):
  ∃ b o I J U,Ad=some ⟨b,o,none⟩∧b ∈ bs∧w.cell? ⟨b,o+k * 2,none⟩=some (.string xs[k].name)∧w.cell? ⟨b,o+k * 2+1,none⟩=some (.slice I xs[k].args.length J)∧
   EL vars w [.string xs[k].name,.slice I xs[k].args.length J] xs[k] U∧∀ c ∈ U,c ∈ bs:=by
 obtain ⟨b,o,cs,U,rfl,hb,a0,y,⟨v,rfl,hs,h3⟩,hin⟩:=jw h hk;obtain ⟨I,J,rfl,_⟩:=aj h3;exact ⟨b,o,I,J,U,rfl,hb,by simpa using y 0 _ rfl,by have:=y 1 _ rfl; simpa [Nat.add_assoc] using this,⟨_,rfl,hs,h3⟩,hin⟩
structure D.yw {α:Type} (n:Nat) (R:Rel α) (e tb:TypeId) (w:World) (hz hb B:Nat) (nm:ByteArray) (v:Value) (L:List Value) (xs:List α) (wr:World):Prop where
 r0:wr.heap[hz]? = some (.cells #[.string ⟨#[]⟩,.slice none 0 0] tb (0,0))
 r1:wr.heap[hb]? = some (.cells #[.string nm,v] tb (0,0))
 h0:w.heap.size≤hz
 h1:hz < hb
 hB:hb < B
 coll:aY n R B e wr v L xs []
 bel:Below w.heap.size w wr
 qi:B≤wr.heap.size
section
variable {α:Type} {n:Nat} {R:Rel α} {e tb:TypeId} {w:World} {hz hb B:Nat} {nm:ByteArray} {v:Value} {L:List Value} {xs:List α} {wr:World}
theorem D.yw.later {w':World} (g:Good R) (h:yw n R e tb w hz hb B nm v L xs wr) (y:Below wr.heap.size wr w'):yw n R e tb w hz hb B nm v L xs w':=
 ⟨(y.block _ (ψ h.r0)).trans h.r0,(y.block _ (ψ h.r1)).trans h.r1,h.h0,h.h1,h.hB,h.coll.below g y,h.bel.trans (y.mono h.bel.size),τ h.qi y.size⟩
theorem D.yw.lit {cs:List Value} {x:α} (g:Good R) (o:BN n R) (h:yw n R e tb w hz hb B nm v L xs wr) (I:∀ w,R w cs x []):
  aY n R B e (wr.alloc (.cells cs.toArray e)) v L xs []∧aT n R (wr.alloc (.cells cs.toArray e)) cs [x] []∧Lies (wr.alloc (.cells cs.toArray e)) (some ⟨wr.heap.size,0,none⟩) cs∧
   Below B wr (wr.alloc (.cells cs.toArray e))∧B≤(wr.alloc (.cells cs.toArray e)).heap.size:=by
 have y:Below wr.heap.size wr (wr.alloc (.cells cs.toArray e)):=ζ;exact ⟨(h.later g y).coll,aT.dH o (I _),by have:=aS (ω wr (.cells cs.toArray e)); simpa using this,ϑ.alloc h.qi _,τ h.qi y.size⟩
theorem D.yw.app {y:World} {U:Value} {L3:List Value} {I:List α} (g:Good R) (h:yw n R e tb w hz hb B nm v L xs wr) (hC:aY n R B e y U L3 I []) (J:Below B wr y):
  y.cell? ⟨hb,1,none⟩=some v∧y.frozen? ⟨hb,1,none⟩=false∧yw n R e tb w hz hb B nm U L3 I (y.setCell ⟨hb,1,none⟩ U)∧∀ c,c < B→c ≠ hb→(y.setCell ⟨hb,1,none⟩ U).heap[c]? = wr.heap[c]?:=by
 have b0:=(J.block hz (Nat.lt_trans h.h1 h.hB)).trans h.r0;have b1:=(J.block hb h.hB).trans h.r1;refine ⟨ai b1,ax b1,⟨(π _ _ _ _ (by have:=h.h1; show hz ≠ hb; omega)).trans b0,uT b1,h.h0,h.h1,h.hB,hC.lS g (aO hC.own h.hB) (by simp),(h.bel.trans (J.mono (by have:=h.h0; have:=h.h1; have:=h.hB; omega))).setCell (by have:=h.h0; have:=h.h1; show w.heap.size≤hb; omega) _,?_⟩,fun c hc a0=>by rw [π _ _ _ _ a0]; exact J.block c hc⟩;have:=J.size; have:=h.qi; simp [World.setCell]; omega
theorem D.yw.done (g:Good R) (h:yw n R e tb w hz hb B nm v L xs wr):
  ∃ W,W=(wr.setCell ⟨hz,0,none⟩ (.string nm)).setCell ⟨hz,1,none⟩ v∧Below w.heap.size w W∧W.heap[hz]? = some (.cells #[.string nm,v] tb (0,0))∧∃ I,iO n R W [v] xs I∧New B W I:=by
 obtain ⟨I,hs,J⟩:=h.coll.new (New.nil _ _);have a3:=h.h1;have a2:=h.hB;have U:=h.h0
 have keep:∀ b,b ≠ hz→((wr.setCell ⟨hz,0,none⟩ (.string nm)).setCell ⟨hz,1,none⟩ v).heap[b]? = wr.heap[b]?:=fun b y=>by
  rw [π _ _ _ _ y,π _ _ _ _ y]
 have k9:∀ b ∈ I,b ≠ hz:=fun b y e=>by have:=(J.own b y).1; omega
 refine ⟨_,rfl,(h.bel.setCell (p:=⟨hz,0,none⟩) U _).setCell (p:=⟨hz,1,none⟩) U _,?_,I,?_,?_⟩
 ·have:=bW (o:=1) (u:=v) (bW (o:=0) (u:=.string nm) h.r0)
  simpa using this
 ·obtain ⟨Ad,cap,h1,h2,h3,h4,h5⟩:=hs
  refine ⟨Ad,cap,h1,h2,h3,h4,fun a0=>?_⟩;obtain ⟨b,o,q1,F,G,q2,q3⟩:=h5 a0;refine ⟨b,o,q1,F,G,q2,fun k x hx=>?_⟩;obtain ⟨p1,p2,p3⟩:=q3 k x hx;have a1:b ∈ I:=by rw [q2]; exact Γ
  refine ⟨p1,fun j u hj=>by rw [World.cell?_of_block (w:=wr) (keep b (k9 b a1))]; exact p2 j u hj,g.keep p3 fun c hc=>keep c (k9 c ?_)⟩;rw [q2];exact Δ _ (List.mem_flatMap.2 ⟨k,List.mem_range.2 (List.getElem?_eq_some_iff.1 hx).1,hc⟩)
 ·exact J.keep fun b y=>keep b (k9 b y)
end
theorem CB:(Tryz.prog.info? 3).map (fun i=>(i.zero,i.size,i.bytes))=some (some (.int .i64 0),1,8):=by kernel_rfl
def D.yx:Rel Nat:=fun _ cs x bs=>cs = [.int .i64 x]∧bs = []
def D.jM:Rel (List Nat):=iO 1 yx
theorem D.jc:Good yx:=⟨fun h _=>h,fun h b hb=>by rw [h.2] at hb; simp at hb⟩
theorem D.dM:Good jM:=iK jc (by omega)
theorem D.ug {w:World} {g:Nat} {out:List Nat} (h:w.heap[g]? = some (.cells (EG out) 3 (0,0))) (hl:out.length≤maxLen):∃ bs,jM w [.slice (some ⟨g,0,none⟩) out.length out.length] out bs∧bs.Nodup∧∀ b ∈ bs,b=g:=by
 by_cases J:out = []
 ·subst J
  exact ⟨[],⟨_,_,rfl,ν,ε,fun _=>rfl,fun h=>absurd rfl h⟩,List.nodup_nil,fun b hb=>by simp at hb⟩
 ·refine ⟨g :: (List.range out.length).flatMap fun _=>[],⟨_,_,rfl,ν,hl,fun h=>absurd h J,fun _=>⟨g,0,rfl,fun k=>[.int .i64 (iV out k:Nat)],fun _=>[],rfl,fun k x U=>⟨rfl,fun j v y=>?_,?_,rfl⟩⟩⟩,by rw [show (List.range out.length).flatMap (fun _=>([]:List Nat)) = [] from List.flatMap_eq_nil_iff.2 fun _ _=>rfl]; simp,fun b hb=>by simpa using hb⟩
  ·have I:k < out.length:=(List.getElem?_eq_some_iff.1 U).1
   match j,y with
   | 0,y=>
    simp only [List.getElem?_cons_zero,Option.some.injEq] at y;rw [ai h,← y];have:=DJ I;simpa using this
   | j+1,y=>simp at y
  ·have:iV out k=x:=by unfold iV; rw [List.getD_eq_getElem?_getD,U]; rfl
   simp only [this]
theorem D.qC {w:World} {I:Option Addr} {len cap:Nat} {xs:List Nat} {bs:List Nat} {k:Nat} (h:jM w [.slice I len cap] xs bs) (J:k < xs.length):
  ∃ b o,I=some ⟨b,o,none⟩∧b ∈ bs∧w.cell? ⟨b,o+k,none⟩=some (.int .i64 (xs[k]:Nat)):=by
 obtain ⟨b,o,cs,bk,rfl,hb,U,y,⟨rfl,_⟩,_⟩:=jw h J;exact ⟨b,o,rfl,hb,by simpa using y 0 _ rfl⟩
def D.PE (w:World) (y:Nat):Prop:=∀ o u,w.cell? ⟨y,o,none⟩=some u→∃ A l c,u=.slice A l c
theorem D.yA {α:Type} {n:Nat} {R:Rel α} {w:World} {J:Nat} (ha:PE w J) (h1:∀ cs x bs,R w cs x bs→∃ u,cs[0]? = some u∧∀ A l c,u ≠ .slice A l c) (h2:∀ cs x bs,R w cs x bs→J ∉ bs)
  {v:Value} {xs:List α} {bs:List Nat} (h:iO n R w [v] xs bs):J ∉ bs:=by
 intro hb;obtain ⟨Ad,cap,a6,hl,hm,g0,g1⟩:=h;by_cases I:xs = []
 ·rw [g0 I] at hb; simp at hb
 ·obtain ⟨b,o,rfl,F,G,rfl,hF⟩:=g1 I
  rcases List.mem_cons.1 hb with rfl | hb
  ·match xs,I with
   | y :: r,_=>
    obtain ⟨a1,a2,U⟩:=hF 0 y rfl;obtain ⟨u,hu,a0⟩:=h1 _ _ _ U;obtain ⟨A,l,c,e⟩:=ha _ _ (a2 0 u hu);exact a0 A l c e
  ·obtain ⟨k,hk,a4⟩:=List.mem_flatMap.1 hb
   have a5:=List.mem_range.1 hk;obtain ⟨a1,a2,U⟩:=hF k xs[k] (Ψ a5);exact h2 _ _ _ U a4
theorem D.KQ {w:World} {y:Nat} (ha:PE w y) {v:Value} {I:List T} {bs:List Nat} (h:gm w [v] I bs):y ∉ bs:=
 yA ha (fun cs x bs h=>by obtain ⟨rfl,_⟩:=h; exact ⟨_,rfl,fun _ _ _=>by simp⟩) (fun cs x bs h=>by obtain ⟨_,_,rfl⟩:=h; simp) h
theorem D.Bh {w:World} {y:Nat} (ha:PE w y) {v:Value} {xs:List A} {bs:List Nat} (h:aB w [v] xs bs):y ∉ bs:=
 yA ha (fun cs x bs h=>by obtain ⟨s,rfl,_⟩:=h; exact ⟨_,rfl,fun _ _ _=>by simp⟩) (fun cs x bs h=>by obtain ⟨s,_,_,I⟩:=h; exact KQ ha I) h
theorem D.eX {w w':World} {b:Nat} {cs:Array Value} {t:TypeId} (hb:Below w.heap.size w w') (h:w.heap[b]? = some (.cells cs t (0,0))):w'.heap[b]? = some (.cells cs t (0,0)):=(hb.block b (ψ h)).trans h
theorem D.dB {w:World} {b o:Nat} {cs:Array Value} {t:TypeId} (h:w.heap[b]? = some (.cells cs t (0,0))):w.cell? ⟨b,o,none⟩=cs[o]?:=by simp [World.cell?,h]
theorem D.bJ {w:World} {b o:Nat} {cs:Array Value} {t:TypeId} (h:w.heap[b]? = some (.cells cs t (0,0))):w.frozen? ⟨b,o,none⟩=false:=by simp [World.frozen?,h]
theorem D.KR {w:World} {I:Nat} {A B:Option Addr} {l c J U:Nat} {t:TypeId} (h:w.heap[I]? = some (.cells #[.slice A l c,.slice B J U] t (0,0))):PE w I:=fun o u y=>by
 rw [dB h] at y
 match o with
 | 0=>exact ⟨A,l,c,by simpa using y.symm⟩
 | 1=>exact ⟨B,J,U,by simpa using y.symm⟩
 | o+2=>simp at y
theorem D.fK {w:World} {y:Nat} {t:TypeId} (hb:w.heap[y]? = some (.cells #[.slice none 0 0,.slice none 0 0] t (0,0))) {I J:Value} {c:Ch} {U b2:List Nat} (h1:aB w [I] c.comes U) (h2:aB w [J] c.goes b2):
  fQ ((w.setCell ⟨y,0,none⟩ I).setCell ⟨y,1,none⟩ J) [I,J] c (U ++ b2):=by
 have k1:=Bh (KR hb) h1;have k2:=Bh (KR hb) h2;refine ⟨I,J,U,b2,rfl,rfl,ak.keep h1 fun b hm=>?_,ak.keep h2 fun b hm=>?_⟩
 ·have:b ≠ y:=fun e=>k1 (e ▸ hm)
  rw [π _ _ _ _ this,π _ _ _ _ this]
 ·have:b ≠ y:=fun e=>k2 (e ▸ hm)
  rw [π _ _ _ _ this,π _ _ _ _ this]
theorem D.Ut {w:World} {b:Nat} {o:Option Obj} (h:w.heap[b]? = o):w.drew.heap[b]? = o:=h
theorem D.New.Yf {B:Nat} {w:World} {bs:List Nat} (h:New B w bs) (p:Addr) (u:Value):New B (w.setCell p u) bs:=⟨h.nodup,fun b hb=>⟨(h.own b hb).1,X9.setCell (h.Yv b hb) p u⟩⟩
theorem D.PG (w:World) (o:Obj):(w.alloc o).heap[w.heap.size]? = some o:=ω w o
theorem D.Ws (w:World) (I y:Obj):((w.alloc I).alloc y).heap[w.heap.size+1]? = some y:=by
 have:=ω (w.alloc I) y;simpa using this
def D.XI (c:Ch) (B:Nat) (w:World) (e:Ending) (w':World):Prop:=Below B w w'∧∃ cs bs,e=.returned (.agg cs)∧fQ w' cs.toList c bs∧New B w' bs
def D.DU (xs:List A):Prop:=xs.length≤1000000∧∀ x ∈ xs,x.args.length≤16777216
def D.qE (xs ys:List A):Ch:=if (aU xs && aU ys)=true then ⟨bZ ys xs,bZ xs ys⟩ else ⟨[],[]⟩
theorem D.jQ {xs:List A} (h:aU xs=true):DU xs:=
 ⟨τ (gZ h) (by omega),fun x y=>τ (FH (jE h x y)) (by omega)⟩
theorem D.KT {xs:List A} (h:DU xs) (ys:List A):DU (bZ xs ys):=
 ⟨τ (List.length_filter_le _ _) h.1,fun x y=>h.2 x (sS y)⟩
end
section
open Go.RowKit D
attribute [local go_sem ↓] Go.wp_at_zero Go.wp_at_succ
theorem OA (ps:List Pt) (v:Value) (bs:List Nat) (w:World) (h:iY w [v] ps bs):
  Calls Tryz.prog 186 #[v] w fun e w'=>e=.returned (.bool (pG ps))∧Below w.heap.size w w':=by
 obtain ⟨Ad,cap,rfl,hl,hm⟩:=aj h;have a3:=aA (τ hl hm);clear hm;unfold pG;by_cases h4:ps.length≤4
 ·go_enter Tryz.func186,Tryz.ntmps186
  go_wp2
  go_loopw [10] (fun i wr=>∃ k:Nat,k≤ps.length∧i=.int .i64 k∧(ps.take k).all (fun p=>aZ p.atom)=true∧Below w.heap.size w wr) (fun i _=>ps.length - (intOf i).toNat)
  case atStart=>exact ⟨0,ε,rfl,rfl,ϑ⟩
  case round=>
   obtain ⟨k,hk,rfl,y,hb⟩:=hrel;have HA:=η y;clear y;by_cases I:k < ps.length
   ·obtain ⟨b0,o,Ae,ce,bk,rfl,_,d0,d1,d2,U,_⟩:=jd (dJ.below h hb) I
    have hA:=(Below.refl wr.heap.size wr).alloc ν (.cells #[.bool ps[k].no,.string ps[k].atom.name,.slice Ae ps[k].atom.args.length ce] 42);have a0:=au.below (jy U) hA;clear h U
    go_wp2_with fail
    refine (tX ps[k].atom _ _ bk _ a0).mono ?_;rintro e w' ⟨rfl,a1⟩;have B':=(hb.trans (hA.mono hb.size)).trans (a1.mono (by have:=hA.size; have:=hb.size; omega));clear a0 hA;by_cases J:aZ ps[k].atom=true
    ·have a2:(!aZ ps[k].atom)=false:=by simp [J]
     have HX:=η J;clear J;go_wp2;go_roundw
     case rel=>exact ⟨k+1,by omega,by go_num,by rw [jo ps k I,HA.out]; exact HX.out,B'⟩
     case measure=>simp [intOf]; omega
    ·have a2:(!aZ ps[k].atom)=true:=by simpa using J
     have HX:=η J;clear J;go_wp2;go_ret;exact ⟨aG (by rw [uN ps k I (by simpa using HX.out)]; simp),B'⟩
   ·have he:=η (show k=ps.length by omega)
    go_wp2;go_ret;exact ⟨aG (by have:=HA.out; rw [he.out,ϕ ν] at this; rw [this]; simp; omega),hb⟩
 ·go_enter Tryz.func186,Tryz.ntmps186
  go_wp2;go_ret;exact ⟨aG (by simp; omega),ϑ⟩
theorem QN:(Tryz.prog.info? 91).map (fun i=>(i.zero,i.size,i.bytes))=some (some (.agg #[.bool false,.string ⟨#[]⟩]),2,24):=by kernel_rfl
theorem D.Wu {b:Bd} {n:ByteArray} {w:World} {cs:List Value} {bs:List Nat} (h:jB w cs b bs):(jv b n).size≤maxLen:=by
 obtain ⟨J,U,b1,b2,rfl,rfl,h1,I⟩:=h;have hz:=wP I;unfold jv
 have:∀ (b:Bd) (v:ByteArray),gq b n=some v→v ∈ b.map (·.2):=by
  intro b
  induction b with
  | nil=>intro v h; cases h
  | cons p b ih=>
   intro v h;rw [gq] at h;by_cases y:p.1=n
   ·rw [if_pos y] at h
    cases h;exact Γ
   ·rw [if_neg y] at h
    exact Δ _ (ih v h)
 cases hg:gq b n with
 | none=>exact ε
 | some v=>exact hz v (this b v hg)
structure D.DV (w:World) (x:A) (Ad:Option Addr) (cap:Nat) (c0 c1 v:Value) (L:List Value) (ts:List T) (wr:World):Prop where
 a_:wr.heap[w.heap.size]? = some (.cells #[.string x.name,.slice Ad x.args.length cap] 33 (0,0))
 b_:wr.heap[w.heap.size+1]? = some (.cells #[c0,c1] 234 (0,0))
 r_:wr.heap[w.heap.size+2]? = some (.cells #[.string ⟨#[]⟩,.slice none 0 0] 33 (0,0))
 o_:wr.heap[w.heap.size+3]? = some (.cells #[.string x.name,v] 33 (0,0))
 c_:aY 2 jV (w.heap.size+4) 91 wr v L ts []
 bel:Below w.heap.size w wr
theorem D.DV.below {w:World} {x:A} {y:Option Addr} {cap:Nat} {c0 c1 v:Value} {L:List Value} {I:List T} {wr w':World} (h:DV w x y cap c0 c1 v L I wr) (hb:Below wr.heap.size wr w'):DV w x y cap c0 c1 v L I w':=
 ⟨by rw [hb.block _ (ψ h.a_)]; exact h.a_,by rw [hb.block _ (ψ h.b_)]; exact h.b_,by rw [hb.block _ (ψ h.r_)]; exact h.r_,by rw [hb.block _ (ψ h.o_)]; exact h.o_,h.c_.below bD hb,h.bel.trans (hb.mono h.bel.size)⟩
theorem D.DV.set {w:World} {x:A} {J:Option Addr} {cap:Nat} {c0 c1 v:Value} {L:List Value} {U:List T} {wr:World} (h:DV w x J cap c0 c1 v L U wr) (M o:Nat) (u:Value) (hM:w.heap.size+4≤M) (I:v.ownBlock ≠ some M):DV w x J cap c0 c1 v L U (wr.setCell ⟨M,o,none⟩ u):=by
 have y:∀ k,k ≠ M→(wr.setCell ⟨M,o,none⟩ u).heap[k]? = wr.heap[k]?:=fun k y=>π _ _ _ _ y
 refine ⟨by rw [y _ (by omega)]; exact h.a_,by rw [y _ (by omega)]; exact h.b_,by rw [y _ (by omega)]; exact h.r_,by rw [y _ (by omega)]; exact h.o_,?_,h.bel.setCell (by show w.heap.size≤M; omega) u⟩;exact ⟨sW h.c_.own fun b hb=>y b fun e=>I (e ▸ hb),h.c_.row.keep bD fun b hb=>(by cases hb),h.c_.far⟩
theorem D.DV.app {w:World} {x:A} {Ad:Option Addr} {cap:Nat} {c0 c1 v J:Value} {L L4:List Value} {ts U:List T} {wr y:World} (h:DV w x Ad cap c0 c1 v L ts wr) (hC:aY 2 jV (w.heap.size+4) 91 y J L4 U []) (I:Below (w.heap.size+4) wr y):
  y.cell? ⟨w.heap.size+3,1,none⟩=some v∧y.frozen? ⟨w.heap.size+3,1,none⟩=false∧DV w x Ad cap c0 c1 J L4 U (y.setCell ⟨w.heap.size+3,1,none⟩ J):=by
 have b0:=(I.block w.heap.size (by omega)).trans h.a_;have b1:=(I.block (w.heap.size+1) (by omega)).trans h.b_;have b2:=(I.block (w.heap.size+2) (by omega)).trans h.r_;have b3:=(I.block (w.heap.size+3) (by omega)).trans h.o_;have hs:∀ k,k ≠ w.heap.size+3→(y.setCell ⟨w.heap.size+3,1,none⟩ J).heap[k]? = y.heap[k]?:=fun k I=>π _ _ _ _ I
 refine ⟨ai b3,ax b3,⟨(hs _ (by omega)).trans b0,(hs _ (by omega)).trans b1,(hs _ (by omega)).trans b2,uT b3,hC.lS bD (aO hC.own (by omega)) (by simp),?_⟩⟩;exact (h.bel.trans (I.mono (by omega))).setCell (by show w.heap.size≤w.heap.size+3; omega) J
theorem KU (x:A) (b:Bd) (a0 a1 c0 c1:Value) (ba bs:List Nat) (w:World) (ha:aJ w [a0,a1] x ba) (h:jB w [c0,c1] b bs) (hx:x.args.length≤1000000):
  Calls Tryz.prog 172 #[.agg #[a0,a1],.agg #[c0,c1]] w fun e w'=>Below w.heap.size w w'∧∃ d0 d1 bs',e=.returned (.agg #[d0,d1])∧aJ w' [d0,d1] (cu x b) bs'∧∀ c ∈ bs',w.heap.size≤c:=by
 obtain ⟨s,a4,aw,ht⟩:=ha;simp only [List.cons.injEq,and_true] at a4;obtain ⟨rfl,rfl⟩:=a4;obtain ⟨Ad,cap,rfl,hl,hm⟩:=aj ht;obtain ⟨A1,p1,A2,p2,a4⟩:=mQ h;simp only [List.cons.injEq,and_true] at a4;obtain ⟨rfl,rfl⟩:=a4;obtain ⟨i0,hi,az,aD,aE⟩:=info_parts QN;clear hm;have H:=η h;have HT:=η ht;have aL:=η fun n=>Wu (n:=n) h
 have ab:DV w x Ad cap (.slice A1 b.length p1) (.slice A2 b.length p2) (.slice none 0 0) [] [] ((((w.alloc (.cells #[.string x.name,.slice Ad x.args.length cap] 33)).alloc (.cells #[.slice A1 b.length p1,.slice A2 b.length p2] 234)).alloc (.cells #[.string ⟨#[]⟩,.slice none 0 0] 33)).alloc (.cells #[.string x.name,.slice none 0 0] 33)):=by
  refine ⟨?_,?_,?_,?_,aY.nil _,(((ζ).alloc (by simp) _).alloc (by simp; omega) _).alloc (by simp; omega) _⟩
  ·rw [Below.heap_alloc _ _ _ (by simp; omega),Below.heap_alloc _ _ _ (by simp; omega),Below.heap_alloc _ _ _ (by simp)]
   exact ω w _
  ·rw [Below.heap_alloc _ _ _ (by first | (simp; done) | (simp; omega)),Below.heap_alloc _ _ _ (by first | (simp; done) | (simp; omega))]
   simpa using ω (w.alloc (.cells #[.string x.name,.slice Ad x.args.length cap] 33)) (.cells #[.slice A1 b.length p1,.slice A2 b.length p2] 234)
  ·rw [Below.heap_alloc _ _ _ (by simp)]
   simpa using ω ((w.alloc (.cells #[.string x.name,.slice Ad x.args.length cap] 33)).alloc (.cells #[.slice A1 b.length p1,.slice A2 b.length p2] 234)) (.cells #[.string ⟨#[]⟩,.slice none 0 0] 33)
  ·simpa using ω (((w.alloc (.cells #[.string x.name,.slice Ad x.args.length cap] 33)).alloc (.cells #[.slice A1 b.length p1,.slice A2 b.length p2] 234)).alloc (.cells #[.string ⟨#[]⟩,.slice none 0 0] 33)) (.cells #[.string x.name,.slice none 0 0] 33)
 have ac:=η ab;clear h ht ab
 go_enter Tryz.func172,Tryz.ntmps172
 go_wp2_with fail
 generalize (((w.alloc (.cells #[.string x.name,.slice Ad x.args.length cap] 33)).alloc (.cells #[.slice A1 b.length p1,.slice A2 b.length p2] 234)).alloc (.cells #[.string ⟨#[]⟩,.slice none 0 0] 33)).alloc (.cells #[.string x.name,.slice none 0 0] 33)=w0 at *
 go_loopw [6,7] (fun i _ wr=>∃ (k:Nat) (Av:Option Addr) (cv:Nat) (L:List Value),k≤x.args.length∧i=.int .i64 k∧Hid (DV w x Ad cap (.slice A1 b.length p1) (.slice A2 b.length p2) (.slice Av k cv) L ((x.args.take k).map (dK b)) wr)) (fun i _ _=>x.args.length - (intOf i).toNat)
 case atStart=>exact ⟨0,none,0,[],ε,rfl,ac⟩
 case round=>
  obtain ⟨k,Av,cv,L,hk,rfl,U⟩:=hrel;clear ac;by_cases a5:k < x.args.length
  ·obtain ⟨d,o,rfl,_,e0,e1,ae⟩:=fF (aP.below HT.out U.out.bel) a5
   have bh:(0:Int)≤(k:Int):=by omega
   have aM:(k:Int) < (x.args.length:Int):=by omega
   have aR:Hid ((x.args.take (k+1)).map (dK b)=(x.args.take k).map (dK b) ++ [dK b x.args[k]]):=η (by rw [ρ a5,List.map_append]; rfl);have b1:Hid (((x.args.take k).map (dK b)).length=k):=η (by simp; omega);have af:=η a5;have y1:wr.cell? ⟨w.heap.size,1,none⟩=some (.slice (some ⟨d,o,none⟩) x.args.length cap):=ai U.out.a_;have z0:wr.cell? ⟨w.heap.size+1,0,none⟩=some (.slice A1 b.length p1):=ai U.out.b_;have z1:wr.cell? ⟨w.heap.size+1,1,none⟩=some (.slice A2 b.length p2):=ai U.out.b_;have b3:w.heap.size+4≤wr.heap.size:=by have:=ψ U.out.o_; omega
   have n0:w.heap.size < wr.heap.size:=by omega
   have n1:w.heap.size+1 < wr.heap.size:=by omega
   have n3:w.heap.size+1+1+1 < wr.heap.size:=by omega
   have nd:d < wr.heap.size:=lt_of_cell e0;generalize x.args[k]=t at *;clear a5 hk;obtain ⟨tv,I⟩:=t;dsimp only at *;have hA:Below wr.heap.size wr (wr.alloc (.cells #[.bool false,.string I] 91)):=ζ;have hX:=ω wr (.cells #[.bool false,.string I] 91);have a9:=U.out.below hA;have ag:∀ M,wr.heap.size≤M→(Value.slice Av k cv).ownBlock ≠ some M:=fun M hM e=>by have:=(jF U.out.c_.own M e).2; omega
   cases tv
   case' true=>
    have q:=fun w' (hb:Below wr.heap.size wr w')=>get_any b I _ _ bs w' (dh.below H.out (U.out.bel.trans (hb.mono U.out.bel.size)))
    go_wp2_with fail
    have a2:∀ y,Below (World.drew (wr.alloc (.cells #[.bool false,.string I] 91))).heap.size (World.drew (wr.alloc (.cells #[.bool false,.string I] 91))) y→Below wr.heap.size wr y:=fun y J=>hA.drew.trans (J.mono hA.size)
    have a6:∀ y,Below (World.drew (wr.alloc (.cells #[.bool false,.string I] 91))).heap.size (World.drew (wr.alloc (.cells #[.bool false,.string I] 91))) y→y.heap[wr.heap.size]? = some (.cells #[.bool false,.string I] 91 (0,0)):=fun y J=>(J.block _ (by show wr.heap.size < (World.alloc wr _).heap.size; simp)).trans hX
    have hK:∀ y,Below (World.drew (wr.alloc (.cells #[.bool false,.string I] 91))).heap.size (World.drew (wr.alloc (.cells #[.bool false,.string I] 91))) y→y.cell? ⟨w.heap.size,1,none⟩=some (.slice (some ⟨d,o,none⟩) x.args.length cap)∧y.cell? ⟨w.heap.size+1,0,none⟩=some (.slice A1 b.length p1)∧y.cell? ⟨w.heap.size+1,1,none⟩=some (.slice A2 b.length p2)∧y.cell? ⟨d,o+k * 2+1,none⟩=some (.string I)∧y.cell? ⟨wr.heap.size,1,none⟩=some (.string I)∧y.frozen? ⟨wr.heap.size,1,none⟩=false:=fun y J=>
     ⟨ξ (a2 y J) y1,ξ (a2 y J) z0,ξ (a2 y J) z1,ξ (a2 y J) e1,ai (a6 y J),ax (a6 y J)⟩
    have am:∀ y:World,(y.cell? ⟨w.heap.size,1,none⟩=some (.slice (some ⟨d,o,none⟩) x.args.length cap)∧y.cell? ⟨w.heap.size+1,0,none⟩=some (.slice A1 b.length p1)∧y.cell? ⟨w.heap.size+1,1,none⟩=some (.slice A2 b.length p2)∧y.cell? ⟨d,o+k * 2+1,none⟩=some (.string I))→((y.setCell ⟨wr.heap.size,1,none⟩ (.string (jv b I))).cell? ⟨w.heap.size,1,none⟩=some (.slice (some ⟨d,o,none⟩) x.args.length cap)∧(y.setCell ⟨wr.heap.size,1,none⟩ (.string (jv b I))).cell? ⟨w.heap.size+1,0,none⟩=some (.slice A1 b.length p1)∧(y.setCell ⟨wr.heap.size,1,none⟩ (.string (jv b I))).cell? ⟨w.heap.size+1,1,none⟩=some (.slice A2 b.length p2)∧(y.setCell ⟨wr.heap.size,1,none⟩ (.string (jv b I))).cell? ⟨d,o+k * 2+1,none⟩=some (.string I)):=fun y ⟨h1,h2,h3,h4⟩=>
     ⟨(World.cell?_of_block (w:=y) (π y ⟨wr.heap.size,1,none⟩ _ _ (by show w.heap.size ≠ wr.heap.size; omega))).trans h1,(World.cell?_of_block (w:=y) (π y ⟨wr.heap.size,1,none⟩ _ _ (by show w.heap.size+1 ≠ wr.heap.size; omega))).trans h2,(World.cell?_of_block (w:=y) (π y ⟨wr.heap.size,1,none⟩ _ _ (by show w.heap.size+1 ≠ wr.heap.size; omega))).trans h3,(World.cell?_of_block (w:=y) (π y ⟨wr.heap.size,1,none⟩ _ _ (by show d ≠ wr.heap.size; omega))).trans h4⟩
    go_region_held3 (fun w'=>w'.cell? ⟨w.heap.size,1,none⟩=some (.slice (some ⟨d,o,none⟩) x.args.length cap)∧w'.cell? ⟨w.heap.size+1,0,none⟩=some (.slice A1 b.length p1)∧w'.cell? ⟨w.heap.size+1,1,none⟩=some (.slice A2 b.length p2)∧w'.cell? ⟨d,o+k * 2+1,none⟩=some (.string I))
     (first | go_keep | exact hq | exact am _ hq)
     (first | (go_at_call 225; refine (q _ hA.drew).mono ?_; rintro e y ⟨rfl,J⟩; have ⟨j0,j1,j2,j3,j4,j5⟩:=hK y J; have hq:=ι j0 (ι j1 (ι j2 j3)); clear j0 j1 j2 j3))
    have HS:Hid (dK b ⟨true,I⟩=⟨false,jv b I⟩):=η rfl;have ao:Hid ((jv b I).size≤maxLen):=η (aL.out I);have a7:(y.setCell ⟨wr.heap.size,1,none⟩ (.string (jv b I))).heap[wr.heap.size]? = some (.cells #[.bool false,.string (jv b I)] 91 (0,0)):=uT (a6 y J);have a3:=(U.out.below (a2 y J)).set wr.heap.size 1 (.string (jv b I)) b3 (ag _ ν);clear hK am a6 a2 hq q a9 j4 j5;generalize hvn:jv b I=nm' at *;generalize hwt:y.setCell ⟨wr.heap.size,1,none⟩ (.string nm')=wt at *;clear J hwt
   case' false=>
    have HS:Hid (dK b ⟨false,I⟩=⟨false,I⟩):=η rfl;have ao:=η ae
    go_upto_region 8 with fail
    have a7:=hX;have a3:=a9;generalize hwt:wr.alloc (.cells #[.bool false,.string I] 91)=wt at *;generalize hvn:I=nm' at *;clear a9 hwt
   all_goals
    have y3:wt.cell? ⟨w.heap.size+1+1+1,1,none⟩=some (.slice Av k cv):=ai a3.o_;have y4:wt.cell? ⟨wr.heap.size,0,none⟩=some (.bool false):=ai a7;have y5:wt.cell? ⟨wr.heap.size,1,none⟩=some (.string nm'):=ai a7;have a8:Below wt.heap.size wt (wt.alloc (.cells #[.bool false,.string nm'] 91)):=ζ;have aq:w.heap.size+4≤wt.heap.size:=by have:=ψ a3.o_; omega
    have HL:Hid (aY 2 jV (w.heap.size+4) 91 (wt.alloc (.cells #[.bool false,.string nm'] 91)) (.slice Av k cv) L ((x.args.take k).map (dK b)) []∧aT 2 jV (wt.alloc (.cells #[.bool false,.string nm'] 91)) [.bool false,.string nm'] [⟨false,nm'⟩] []∧Lies (wt.alloc (.cells #[.bool false,.string nm'] 91)) (some ⟨wt.heap.size,0,none⟩) [.bool false,.string nm']∧Below (w.heap.size+4) wt (wt.alloc (.cells #[.bool false,.string nm'] 91))∧w.heap.size+4≤(wt.alloc (.cells #[.bool false,.string nm'] 91)).heap.size):=
     η ⟨a3.c_.below bD a8,aT.dH lm ⟨rfl,ao.out,rfl⟩,aS (ω wt _),a8.mono aq,τ aq a8.size⟩
    have b4:Hid (k+1≤maxLen):=η (by unfold maxLen; omega);have b5:Hid ((k+1) * 24≤140737488355328):=η (by omega);have b6:=η a3;clear a3 a7 U y1 z0 z1 e0 e1 hA hX ag a8
    go_wp2_with (at_builtin; refine cO rfl _ _ _ rfl (w.heap.size+4) 91 i0 (.agg #[.bool false,.string ⟨#[]⟩]) 2 24 Tryz.underlying31 hi az aD aE rfl (Θ 1) bD (.slice Av k cv) k L _ [] rfl HL.out.1 b1.out (some ⟨wt.heap.size,0,none⟩) 1 1 _ [⟨false,nm'⟩] _ rfl HL.out.2.1 rfl HL.out.2.2.1 (fun b hb=>by simp at hb) b4.out b5.out wt (w.heap.size+4) HL.out.2.2.2.1 ν HL.out.2.2.2.2 ?_; intro A4 c4 w4 ar av b7 b8; have HZ:=η (b6.out.app ar av); have p1:=HZ.out.1; have p2:=HZ.out.2.1; clear ar av b7 b8 y3 y4 y5)
    go_wp2;go_roundw
    case rel=>exact ⟨k+1,A4,c4,_,af.out,by go_num,by rw [aR.out,HS.out]; exact η HZ.out.2.2⟩
    case measure=>have:=af.out; simp [intOf]; omega
  ·have he:k=x.args.length:=by omega
   have aM:¬ (k:Int) < (x.args.length:Int):=by omega
   have y1:wr.cell? ⟨w.heap.size,1,none⟩=some (.slice Ad x.args.length cap):=ai U.out.a_;have y2:wr.cell? ⟨w.heap.size+1+1+1,0,none⟩=some (.string x.name):=ai U.out.o_;have y3:wr.cell? ⟨w.heap.size+1+1+1,1,none⟩=some (.slice Av k cv):=ai U.out.o_;have y4:wr.cell? ⟨w.heap.size+1+1,0,none⟩=some (.string ⟨#[]⟩):=ai U.out.r_;have y5:wr.cell? ⟨w.heap.size+1+1,1,none⟩=some (.slice none 0 0):=ai U.out.r_;have f4:wr.frozen? ⟨w.heap.size+1+1,0,none⟩=false:=ax U.out.r_;have f5:wr.frozen? ⟨w.heap.size+1+1,1,none⟩=false:=ax U.out.r_;have aa:=bW (o:=1) (u:=.slice Av k cv) (bW (o:=0) (u:=.string x.name) U.out.r_);have b9:((wr.setCell ⟨w.heap.size+1+1,0,none⟩ (.string x.name)).setCell ⟨w.heap.size+1+1,1,none⟩ (.slice Av k cv)).cell? ⟨w.heap.size+1+1,0,none⟩=some (.string x.name):=by simp [World.cell?,aa]
   have bc:((wr.setCell ⟨w.heap.size+1+1,0,none⟩ (.string x.name)).setCell ⟨w.heap.size+1+1,1,none⟩ (.slice Av k cv)).cell? ⟨w.heap.size+1+1,1,none⟩=some (.slice Av k cv):=by simp [World.cell?,aa]
   have HF:Hid (∃ bs',aJ ((wr.setCell ⟨w.heap.size+1+1,0,none⟩ (.string x.name)).setCell ⟨w.heap.size+1+1,1,none⟩ (.slice Av k cv)) [.string x.name,.slice Av k cv] (cu x b) bs'∧∀ c ∈ bs',w.heap.size≤c):=η (by
    have hC:=(U.out.c_.lS (b:=w.heap.size+2) (o:=0) (u:=.string x.name) bD (aO U.out.c_.own (by omega)) (by simp)).lS (b:=w.heap.size+2) (o:=1) (u:=.slice Av k cv) bD (aO (U.out.c_.lS (b:=w.heap.size+2) (o:=0) (u:=.string x.name) bD (aO U.out.c_.own (by omega)) (by simp)).own (by omega)) (by simp);obtain ⟨b2,h2,h3⟩:=hC.slice;refine ⟨b2,⟨.slice Av k cv,rfl,aw,?_⟩,fun c hc=>(h3 c hc).elim (fun h=>by omega) fun h=>by cases h⟩;unfold cu;rw [he,ϕ ν] at h2;rw [he]
    exact h2)
   have HB:=η ((U.out.bel.setCell (p:=⟨w.heap.size+1+1,0,none⟩) (by show w.heap.size≤w.heap.size+1+1; omega) (.string x.name)).setCell (p:=⟨w.heap.size+1+1,1,none⟩) (by show w.heap.size≤w.heap.size+1+1; omega) (.slice Av k cv));clear U he hk aa;go_wp2;obtain ⟨bs',bf,bg⟩:=HF.out;exact bodyPost_ret (v:=.agg #[.string x.name,.slice Av k cv]) (by simp [results,Tryz.results172,go_sem,b9,bc]) rfl ⟨HB.out,_,_,rfl,bs',bf,bg⟩
end
end Go.Proofs.YtkjinanbccloeaaGreatDoor
