/- Of the proof of FnEvalNeeds: AtTxP, QryP, IntK, Body, FillS. -/
import Derived.Test.YtkjinanbccloeaaGreatDoorM14
set_option linter.unusedVariables false
set_option maxHeartbeats 4000000
set_option maxRecDepth 100000
namespace Go.Proofs.YtkjinanbccloeaaGreatDoor
namespace D
open Go.RowKit Go.Lib
theorem UC {c:UInt8} (h:low c=true):big c=false:=by
 cases hb:big c
 ·rfl
 ·exfalso
  have h1:=(AB c).1 hb;have:low c=false:=(uV c).2 (by omega);rw [this] at h; cases h
theorem Rq {s:ByteArray} (h:gZ s=true):qF s=false:=by
 unfold gZ nD at h;simp only [ο] at h;unfold qF
 cases hs:s.data.toList with
 | nil=>simp [big]
 | cons x xs=>
  have:=List.all_eq_true.1 h.1.2 x (by rw [hs]; exact Γ);simp [UC this]
theorem Jl {t:T} (h:iI t=true):xO t.name=t:=by
 unfold xO;unfold iI at h;obtain ⟨v,s⟩:=t;cases v
 ·have:=Rq (s:=s) (by simpa using h)
  show (⟨qF s,s⟩:T)=⟨false,s⟩;rw [this]
 ·have h1:uX s=true:=by simpa using h
  unfold uX at h1;simp only [ο] at h1;show (⟨qF s,s⟩:T)=⟨true,s⟩;rw [h1.1.2]
theorem sK {t:T} (h:iI t=true):(44:UInt8) ∉ t.name.data.toList∧t.name.data.toList ≠ []∧t.name.data.toList.length≤8:=by
 have hz:t.name.data.toList.length=t.name.size:=Array.length_toList;unfold iI at h
 split at h
 ·unfold uX at h
  simp only [ο,decide_eq_true_eq] at h;have h1:=h.1.2;unfold qF at h1;simp only [ο,decide_eq_true_eq] at h1;refine ⟨?_,by intro e; rw [e] at hz; simp at hz; omega,by omega⟩;intro hm
  cases hs:t.name.data.toList with
  | nil=>rw [hs] at hm; simp at hm
  | cons x xs=>
   rw [hs] at hm h1 h
   rcases List.mem_cons.1 hm with e | hm
   ·have y:=h1.2
    rw [← e] at y;exact absurd (show big 44=true from y) (by decide)
   ·exact (Gp _ (List.all_eq_true.1 h.2 _ hm)).2.2.1 rfl
 ·unfold gZ at h
  simp only [ο,decide_eq_true_eq] at h;refine ⟨?_,by intro e; rw [e] at hz; simp at hz; omega,by omega⟩;intro hm;exact (Gp _ (List.all_eq_true.1 h.1.2 _ hm)).2.2.1 rfl
theorem NJ {a:A} (h:aX a=true):Ci a.name.data.toList (kK a.args)=a:=by
 unfold aX at h;simp only [ο] at h;have y:=List.all_eq_true.1 h.2
 have e:a.args=(a.args.map fun t=>t.name.data.toList).map fun w=>xO (toB w):=by
  rw [List.map_map]
  conv=>lhs; rw [← List.map_id a.args]
  refine List.map_congr_left fun t I=>?_
  show t=xO (toB t.name.data.toList);rw [LH,Jl (y t I)]
 have J:kK a.args=joinL 44 (a.args.map fun t=>t.name.data.toList):=by
  conv=>lhs; rw [e]
  rw [Cj]
 unfold Ci;obtain ⟨nm,args⟩:=a;dsimp only at *;rw [LH]
 cases args with
 | nil=>rw [J]; rfl
 | cons t r=>
  have U:joinL 44 ((t :: r).map fun t=>t.name.data.toList) ≠ []:=by
   have I:=(sK (y t Γ)).2.1
   cases r with
   | nil=>exact I
   | cons u r=>exact List.append_ne_nil_of_left_ne_nil I _
  rw [if_neg (by rw [J]; exact U),J,yL]
  ·rw [← e]
  ·simp
  ·intro p hp
   obtain ⟨u,hu,rfl⟩:=List.mem_map.1 hp;exact (sK (y u hu)).1
theorem join_le:∀ (ps:List (List UInt8)),(∀ p ∈ ps,p.length≤8)→(joinL 44 ps).length≤9 * ps.length
 | [],_=>by simp [joinL]
 | [p],h=>by have:=h p Γ; simp [joinL]; omega
 | p :: q :: r,h=>by
  have h1:=h p Γ;have I:=join_le (q :: r) fun x y=>h x (Δ _ y)
  show (p ++ 44 :: joinL 44 (q :: r)).length≤_;rw [χ,List.length_cons];simp only [List.length_cons] at *;omega
theorem UD {a:A} (h:aX a=true):(kK a.args).length≤27:=by
 have h0:=h;unfold aX at h;simp only [ο,decide_eq_true_eq] at h;have y:=List.all_eq_true.1 h.2;have:=NJ h0
 have e:a.args=(a.args.map fun t=>t.name.data.toList).map fun w=>xO (toB w):=by
  rw [List.map_map]
  conv=>lhs; rw [← List.map_id a.args]
  refine List.map_congr_left fun t I=>?_
  show t=xO (toB t.name.data.toList);rw [LH,Jl (y t I)]
 rw [e,Cj]
 have:=join_le (a.args.map fun t=>t.name.data.toList) fun p J=>by
  obtain ⟨u,U,rfl⟩:=List.mem_map.1 J;exact (sK (y u U)).2.2
 rw [List.length_map] at this;omega
theorem Jm {s:ByteArray} (h:gZ s=true):s.data.toList.length≤8∧1≤s.data.toList.length:=by
 have hz:s.data.toList.length=s.size:=Array.length_toList;unfold gZ at h;simp only [ο,decide_eq_true_eq] at h;omega
theorem ES {a:A} (h:aX a=true):(vz a).length≤37:=by
 have h1:=UD h;unfold aX at h;simp only [ο] at h;have y:=Jm h.1.1;unfold vz;simp only [χ,List.length_singleton];omega
theorem EU {a:A} (h:aX a=true):Wj (vz a)=(a,true):=by
 have hl:=ES h
 have hc:cut (vz a) [40]=(a.name.data.toList,kK a.args ++ [41],true):=by
  have J:(40:UInt8) ∉ a.name.data.toList:=by
   unfold aX at h;simp only [ο] at h;exact Rh h.1.1
  rcases VE (vz a) 40 with ⟨h1,_⟩ | ⟨x,y,h1,U,h3⟩
  ·exact absurd (by unfold vz; simp) h1
  ·have e:a.name.data.toList ++ 40 :: (kK a.args ++ [41])=x ++ 40 :: y:=by rw [← h1]; unfold vz; simp
   have I:=pO (kK a.args ++ [41]) J;rw [e,pO y U] at I
   injection I with e1 _
   rw [h3];subst e1;rw [List.append_cancel_left_eq] at e
   injection e with _ e
   rw [e]
 unfold Wj;rw [if_neg (by omega),hc];show (if true=true∧(kK a.args ++ [41]).getLast? = some 41 then _ else _)=_;rw [if_pos ⟨rfl,by simp⟩];show (if aX (Ci a.name.data.toList (kK a.args ++ [41]).dropLast)=true then _ else _)=_;rw [List.dropLast_concat,NJ h,if_pos h]
end D
section
open Go.RowKit D
def D.jB (vars:List ByteArray) (t:T):Int:=if t.var then ((vars.idxOf t.name:Nat):Int) else -1
def D.jC (t:T):ByteArray:=if t.var then ⟨#[]⟩ else t.name
def D.CX (vars:List ByteArray):Rel T:=fun _ cs t bs=>cs = [.int .i64 (jB vars t),.string (jC t)]∧(jC t).size≤maxLen∧bs = []
theorem D.fK (vars:List ByteArray):Good (CX vars):=⟨fun h _=>h,fun h b hb=>by rw [h.2.2] at hb; simp at hb⟩
theorem D.CY (vars:List ByteArray):zl 2 (CX vars):=fun h=>by obtain ⟨rfl,_⟩:=h; simp [Value.oneCell']
def D.jK (vars:List ByteArray):Rel (List T):=ig 2 (CX vars)
theorem D.bY (vars:List ByteArray):Good (jK vars):=gJ (fK vars) (by omega)
def D.D6 (vars:List ByteArray):Rel A:=fun w cs a bs=>∃ v,cs = [.string a.name,v]∧a.name.size≤maxLen∧jK vars w [v] a.args bs
theorem D.gQ (vars:List ByteArray):Good (D6 vars):=
 ⟨fun h J=>by obtain ⟨v,h1,I,y⟩:=h; exact ⟨v,h1,I,(bY vars).keep y J⟩,fun h=>by obtain ⟨v,h1,I,y⟩:=h; exact (bY vars).lt y⟩
theorem D.EW (vars:List ByteArray):zl 2 (D6 vars):=fun h=>by
 obtain ⟨v,rfl,_,y⟩:=h;obtain ⟨I,cap,rfl,_⟩:=ak y;simp [Value.oneCell']
def D.rq (vars:List ByteArray):Rel (List A):=ig 2 (D6 vars)
theorem D.dD (vars:List ByteArray):Good (rq vars):=gJ (gQ vars) (by omega)
def D.fQ (body:List Pt):List A:=(body.filter fun p=>!p.no).map (·.atom)
def D.dH (body:List Pt):List A:=(body.filter fun p=>p.no).map (·.atom)
def D.Wx:Rel (List Pt):=fun w cs body bs=>∃ y I J U b2 b3,cs = [y,I,J]∧bs=U ++ b2 ++ b3∧rq (aC body) w [y] (fQ body) U∧rq (aC body) w [I] (dH body) b2∧fU w [J] (aC body) b3
theorem D.wu {vars:List ByteArray} {w:World} {J:Option Addr} {len cap:Nat} {I:List T} {bs:List Nat} {k:Nat} (h:jK vars w [.slice J len cap] I bs) (U:k < I.length):
  ∃ b o,J=some ⟨b,o,none⟩∧b ∈ bs∧w.cell? ⟨b,o+k * 2,none⟩=some (.int .i64 (jB vars I[k]))∧w.cell? ⟨b,o+k * 2+1,none⟩=some (.string (jC I[k]))∧(jC I[k]).size≤maxLen:=by
 obtain ⟨b,o,cs,bk,rfl,hb,a0,y,⟨rfl,hs,_⟩,_⟩:=iP h U;exact ⟨b,o,rfl,hb,by simpa using y 0 _ rfl,by have:=y 1 _ rfl; simpa [Nat.add_assoc] using this,hs⟩
theorem D.wB {vars:List ByteArray} {w:World} {Ad:Option Addr} {len cap:Nat} {xs:List A} {bs:List Nat} {k:Nat} (h:rq vars w [.slice Ad len cap] xs bs) (hk:k < xs.length):
  ∃ b o I J U,Ad=some ⟨b,o,none⟩∧b ∈ bs∧w.cell? ⟨b,o+k * 2,none⟩=some (.string xs[k].name)∧w.cell? ⟨b,o+k * 2+1,none⟩=some (.slice I xs[k].args.length J)∧
   D6 vars w [.string xs[k].name,.slice I xs[k].args.length J] xs[k] U∧∀ c ∈ U,c ∈ bs:=by
 obtain ⟨b,o,cs,U,rfl,hb,a0,y,⟨v,rfl,hs,h3⟩,hin⟩:=iP h hk;obtain ⟨I,J,rfl,_⟩:=ak h3;exact ⟨b,o,I,J,U,rfl,hb,by simpa using y 0 _ rfl,by have:=y 1 _ rfl; simpa [Nat.add_assoc] using this,⟨_,rfl,hs,h3⟩,hin⟩
structure D.wC {α:Type} (n:Nat) (R:Rel α) (e tb:TypeId) (w:World) (hz hb B:Nat) (nm:ByteArray) (v:Value) (L:List Value) (xs:List α) (wr:World):Prop where
 r0:wr.heap[hz]? = some (.cells #[.string ⟨#[]⟩,.slice none 0 0] tb (0,0))
 r1:wr.heap[hb]? = some (.cells #[.string nm,v] tb (0,0))
 h0:w.heap.size≤hz
 h1:hz < hb
 hB:hb < B
 coll:aW n R B e wr v L xs []
 bel:Below w.heap.size w wr
 oD:B≤wr.heap.size
section
variable {α:Type} {n:Nat} {R:Rel α} {e tb:TypeId} {w:World} {hz hb B:Nat} {nm:ByteArray} {v:Value} {L:List Value} {xs:List α} {wr:World}
theorem D.wC.later {w':World} (g:Good R) (h:wC n R e tb w hz hb B nm v L xs wr) (y:Below wr.heap.size wr w'):wC n R e tb w hz hb B nm v L xs w':=
 ⟨(y.block _ (ψ h.r0)).trans h.r0,(y.block _ (ψ h.r1)).trans h.r1,h.h0,h.h1,h.hB,h.coll.below g y,h.bel.trans (y.mono h.bel.size),τ h.oD y.size⟩
theorem D.wC.lit {cs:List Value} {x:α} (g:Good R) (o:zl n R) (h:wC n R e tb w hz hb B nm v L xs wr) (I:∀ w,R w cs x []):
  aW n R B e (wr.alloc (.cells cs.toArray e)) v L xs []∧aQ n R (wr.alloc (.cells cs.toArray e)) cs [x] []∧Lies (wr.alloc (.cells cs.toArray e)) (some ⟨wr.heap.size,0,none⟩) cs∧
   Below B wr (wr.alloc (.cells cs.toArray e))∧B≤(wr.alloc (.cells cs.toArray e)).heap.size:=by
 have y:Below wr.heap.size wr (wr.alloc (.cells cs.toArray e)):=ζ;exact ⟨(h.later g y).coll,aQ.cu o (I _),by have:=aP (ω wr (.cells cs.toArray e)); simpa using this,ϑ.alloc h.oD _,τ h.oD y.size⟩
theorem D.wC.app {y:World} {U:Value} {L3:List Value} {I:List α} (g:Good R) (h:wC n R e tb w hz hb B nm v L xs wr) (hC:aW n R B e y U L3 I []) (J:Below B wr y):
  y.cell? ⟨hb,1,none⟩=some v∧y.frozen? ⟨hb,1,none⟩=false∧wC n R e tb w hz hb B nm U L3 I (y.setCell ⟨hb,1,none⟩ U)∧∀ c,c < B→c ≠ hb→(y.setCell ⟨hb,1,none⟩ U).heap[c]? = wr.heap[c]?:=by
 have b0:=(J.block hz (Nat.lt_trans h.h1 h.hB)).trans h.r0;have b1:=(J.block hb h.hB).trans h.r1;refine ⟨ai b1,ax b1,⟨(π _ _ _ _ (by have:=h.h1; show hz ≠ hb; omega)).trans b0,AQ b1,h.h0,h.h1,h.hB,hC.lW g (aO hC.own h.hB) (by simp),(h.bel.trans (J.mono (by have:=h.h0; have:=h.h1; have:=h.hB; omega))).setCell (by have:=h.h0; have:=h.h1; show w.heap.size≤hb; omega) _,?_⟩,fun c hc a0=>by rw [π _ _ _ _ a0]; exact J.block c hc⟩;have:=J.size; have:=h.oD; simp [World.setCell]; omega
theorem D.wC.done (g:Good R) (h:wC n R e tb w hz hb B nm v L xs wr):
  ∃ W,W=(wr.setCell ⟨hz,0,none⟩ (.string nm)).setCell ⟨hz,1,none⟩ v∧Below w.heap.size w W∧W.heap[hz]? = some (.cells #[.string nm,v] tb (0,0))∧∃ I,ig n R W [v] xs I∧New B W I:=by
 obtain ⟨I,hs,J⟩:=h.coll.new (New.nil _ _);have a3:=h.h1;have a2:=h.hB;have U:=h.h0
 have keep:∀ b,b ≠ hz→((wr.setCell ⟨hz,0,none⟩ (.string nm)).setCell ⟨hz,1,none⟩ v).heap[b]? = wr.heap[b]?:=fun b y=>by
  rw [π _ _ _ _ y,π _ _ _ _ y]
 have k9:∀ b ∈ I,b ≠ hz:=fun b y e=>by have:=(J.own b y).1; omega
 refine ⟨_,rfl,(h.bel.setCell (p:=⟨hz,0,none⟩) U _).setCell (p:=⟨hz,1,none⟩) U _,?_,I,?_,?_⟩
 ·have:=bP (o:=1) (u:=v) (bP (o:=0) (u:=.string nm) h.r0)
  simpa using this
 ·obtain ⟨Ad,cap,h1,h2,h3,h4,h5⟩:=hs
  refine ⟨Ad,cap,h1,h2,h3,h4,fun a0=>?_⟩;obtain ⟨b,o,q1,F,G,q2,q3⟩:=h5 a0;refine ⟨b,o,q1,F,G,q2,fun k x hx=>?_⟩;obtain ⟨p1,p2,p3⟩:=q3 k x hx;have a1:b ∈ I:=by rw [q2]; exact Γ
  refine ⟨p1,fun j u hj=>by rw [World.cell?_of_block (w:=wr) (keep b (k9 b a1))]; exact p2 j u hj,g.keep p3 fun c hc=>keep c (k9 c ?_)⟩;rw [q2];exact Δ _ (List.mem_flatMap.2 ⟨k,List.mem_range.2 (List.getElem?_eq_some_iff.1 hx).1,hc⟩)
 ·exact J.keep fun b y=>keep b (k9 b y)
end
theorem AU:(Tryz.prog.info? 3).map (fun i=>(i.zero,i.size,i.bytes))=some (some (.int .i64 0),1,8):=by kernel_rfl
def D.wE:Rel Nat:=fun _ cs x bs=>cs = [.int .i64 x]∧bs = []
def D.jf:Rel (List Nat):=ig 1 wE
theorem D.iC:Good wE:=⟨fun h _=>h,fun h b hb=>by rw [h.2] at hb; simp at hb⟩
theorem D.dB:Good jf:=gJ iC (by omega)
theorem D.ru {w:World} {g:Nat} {out:List Nat} (h:w.heap[g]? = some (.cells (DV out) 3 (0,0))) (hl:out.length≤maxLen):∃ bs,jf w [.slice (some ⟨g,0,none⟩) out.length out.length] out bs∧bs.Nodup∧∀ b ∈ bs,b=g:=by
 by_cases J:out = []
 ·subst J
  exact ⟨[],⟨_,_,rfl,ν,ε,fun _=>rfl,fun h=>absurd rfl h⟩,List.nodup_nil,fun b hb=>by simp at hb⟩
 ·refine ⟨g :: (List.range out.length).flatMap fun _=>[],⟨_,_,rfl,ν,hl,fun h=>absurd h J,fun _=>⟨g,0,rfl,fun k=>[.int .i64 (gX out k:Nat)],fun _=>[],rfl,fun k x U=>⟨rfl,fun j v y=>?_,?_,rfl⟩⟩⟩,by rw [show (List.range out.length).flatMap (fun _=>([]:List Nat)) = [] from List.flatMap_eq_nil_iff.2 fun _ _=>rfl]; simp,fun b hb=>by simpa using hb⟩
  ·have I:k < out.length:=(List.getElem?_eq_some_iff.1 U).1
   match j,y with
   | 0,y=>
    simp only [List.getElem?_cons_zero,Option.some.injEq] at y;rw [ai h,← y];have:=CS I;simpa using this
   | j+1,y=>simp at y
  ·have:gX out k=x:=by unfold gX; rw [List.getD_eq_getElem?_getD,U]; rfl
   simp only [this]
theorem D.oM {w:World} {I:Option Addr} {len cap:Nat} {xs:List Nat} {bs:List Nat} {k:Nat} (h:jf w [.slice I len cap] xs bs) (J:k < xs.length):
  ∃ b o,I=some ⟨b,o,none⟩∧b ∈ bs∧w.cell? ⟨b,o+k,none⟩=some (.int .i64 (xs[k]:Nat)):=by
 obtain ⟨b,o,cs,bk,rfl,hb,U,y,⟨rfl,_⟩,_⟩:=iP h J;exact ⟨b,o,rfl,hb,by simpa using y 0 _ rfl⟩
end
section
open Go.RowKit D
attribute [local go_sem ↓] Go.wp_at_zero Go.wp_at_succ
theorem Me (ps:List Pt) (v:Value) (bs:List Nat) (w:World) (h:gU w [v] ps bs):
  Calls Tryz.prog 186 #[v] w fun e w'=>e=.returned (.bool (nO ps))∧Below w.heap.size w w':=by
 obtain ⟨Ad,cap,rfl,hl,hm⟩:=ak h;have a3:=aA (τ hl hm);clear hm;unfold nO;by_cases h4:ps.length≤4
 ·go_enter Tryz.func186,Tryz.ntmps186
  go_wp2
  go_loopw [10] (fun i wr=>∃ k:Nat,k≤ps.length∧i=.int .i64 k∧(ps.take k).all (fun p=>aX p.atom)=true∧Below w.heap.size w wr) (fun i _=>ps.length - (intOf i).toNat)
  case atStart=>exact ⟨0,ε,rfl,rfl,ϑ⟩
  case round=>
   obtain ⟨k,hk,rfl,y,hb⟩:=hrel;have HA:=η y;clear y;by_cases I:k < ps.length
   ·obtain ⟨b0,o,Ae,ce,bk,rfl,_,d0,d1,d2,U,_⟩:=gV (dh.below h hb) I
    have hA:=(Below.refl wr.heap.size wr).alloc ν (.cells #[.bool ps[k].no,.string ps[k].atom.name,.slice Ae ps[k].atom.args.length ce] 42);have a0:=aj.below (iQ U) hA;clear h U
    go_wp2_with fail
    refine (qY ps[k].atom _ _ bk _ a0).mono ?_;rintro e w' ⟨rfl,a1⟩;have B':=(hb.trans (hA.mono hb.size)).trans (a1.mono (by have:=hA.size; have:=hb.size; omega));clear a0 hA;by_cases J:aX ps[k].atom=true
    ·have a2:(!aX ps[k].atom)=false:=by simp [J]
     have HX:=η J;clear J;go_wp2;go_roundw
     case rel=>exact ⟨k+1,by omega,by go_num,by rw [iJ ps k I,HA.out]; exact HX.out,B'⟩
     case measure=>simp [intOf]; omega
    ·have a2:(!aX ps[k].atom)=true:=by simpa using J
     have HX:=η J;clear J;go_wp2;go_ret;exact ⟨aH (by rw [rY ps k I (by simpa using HX.out)]; simp),B'⟩
   ·have he:=η (show k=ps.length by omega)
    go_wp2;go_ret;exact ⟨aH (by have:=HA.out; rw [he.out,ϕ ν] at this; rw [this]; simp; omega),hb⟩
 ·go_enter Tryz.func186,Tryz.ntmps186
  go_wp2;go_ret;exact ⟨aH (by simp; omega),ϑ⟩
theorem OQ:(Tryz.prog.info? 91).map (fun i=>(i.zero,i.size,i.bytes))=some (some (.agg #[.bool false,.string ⟨#[]⟩]),2,24):=by kernel_rfl
theorem D.UE {b:Bd} {n:ByteArray} {w:World} {cs:List Value} {bs:List Nat} (h:iR w cs b bs):(iO b n).size≤maxLen:=by
 obtain ⟨J,U,b1,b2,rfl,rfl,h1,I⟩:=h;have hz:=uD I;unfold iO
 have:∀ (b:Bd) (v:ByteArray),eY b n=some v→v ∈ b.map (·.2):=by
  intro b
  induction b with
  | nil=>intro v h; cases h
  | cons p b ih=>
   intro v h;rw [eY] at h;by_cases y:p.1=n
   ·rw [if_pos y] at h
    cases h;exact Γ
   ·rw [if_neg y] at h
    exact Δ _ (ih v h)
 cases hg:eY b n with
 | none=>exact ε
 | some v=>exact hz v (this b v hg)
structure D.CZ (w:World) (x:A) (Ad:Option Addr) (cap:Nat) (c0 c1 v:Value) (L:List Value) (ts:List T) (wr:World):Prop where
 a_:wr.heap[w.heap.size]? = some (.cells #[.string x.name,.slice Ad x.args.length cap] 33 (0,0))
 b_:wr.heap[w.heap.size+1]? = some (.cells #[c0,c1] 234 (0,0))
 r_:wr.heap[w.heap.size+2]? = some (.cells #[.string ⟨#[]⟩,.slice none 0 0] 33 (0,0))
 o_:wr.heap[w.heap.size+3]? = some (.cells #[.string x.name,v] 33 (0,0))
 c_:aW 2 iT (w.heap.size+4) 91 wr v L ts []
 bel:Below w.heap.size w wr
theorem D.CZ.below {w:World} {x:A} {y:Option Addr} {cap:Nat} {I c1 v:Value} {L:List Value} {J:List T} {wr w':World} (h:CZ w x y cap I c1 v L J wr) (hb:Below wr.heap.size wr w'):CZ w x y cap I c1 v L J w':=
 ⟨by rw [hb.block _ (ψ h.a_)]; exact h.a_,by rw [hb.block _ (ψ h.b_)]; exact h.b_,by rw [hb.block _ (ψ h.r_)]; exact h.r_,by rw [hb.block _ (ψ h.o_)]; exact h.o_,h.c_.below aY hb,h.bel.trans (hb.mono h.bel.size)⟩
theorem D.CZ.set {w:World} {x:A} {J:Option Addr} {cap:Nat} {U c1 v:Value} {L:List Value} {ts:List T} {wr:World} (h:CZ w x J cap U c1 v L ts wr) (M o:Nat) (u:Value) (hM:w.heap.size+4≤M) (I:v.ownBlock ≠ some M):CZ w x J cap U c1 v L ts (wr.setCell ⟨M,o,none⟩ u):=by
 have y:∀ k,k ≠ M→(wr.setCell ⟨M,o,none⟩ u).heap[k]? = wr.heap[k]?:=fun k y=>π _ _ _ _ y
 refine ⟨by rw [y _ (by omega)]; exact h.a_,by rw [y _ (by omega)]; exact h.b_,by rw [y _ (by omega)]; exact h.r_,by rw [y _ (by omega)]; exact h.o_,?_,h.bel.setCell (by show w.heap.size≤M; omega) u⟩;exact ⟨qO h.c_.own fun b hb=>y b fun e=>I (e ▸ hb),h.c_.row.keep aY fun b hb=>(by cases hb),h.c_.far⟩
theorem D.CZ.app {w:World} {x:A} {Ad:Option Addr} {cap:Nat} {c0 c1 v J:Value} {L L4:List Value} {ts U:List T} {wr y:World} (h:CZ w x Ad cap c0 c1 v L ts wr) (hC:aW 2 iT (w.heap.size+4) 91 y J L4 U []) (I:Below (w.heap.size+4) wr y):
  y.cell? ⟨w.heap.size+3,1,none⟩=some v∧y.frozen? ⟨w.heap.size+3,1,none⟩=false∧CZ w x Ad cap c0 c1 J L4 U (y.setCell ⟨w.heap.size+3,1,none⟩ J):=by
 have b0:=(I.block w.heap.size (by omega)).trans h.a_;have b1:=(I.block (w.heap.size+1) (by omega)).trans h.b_;have b2:=(I.block (w.heap.size+2) (by omega)).trans h.r_;have b3:=(I.block (w.heap.size+3) (by omega)).trans h.o_;have hs:∀ k,k ≠ w.heap.size+3→(y.setCell ⟨w.heap.size+3,1,none⟩ J).heap[k]? = y.heap[k]?:=fun k I=>π _ _ _ _ I
 refine ⟨ai b3,ax b3,⟨(hs _ (by omega)).trans b0,(hs _ (by omega)).trans b1,(hs _ (by omega)).trans b2,AQ b3,hC.lW aY (aO hC.own (by omega)) (by simp),?_⟩⟩;exact (h.bel.trans (I.mono (by omega))).setCell (by show w.heap.size≤w.heap.size+3; omega) J
theorem Jo (x:A) (b:Bd) (a0 a1 c0 c1:Value) (ba bs:List Nat) (w:World) (ha:aI w [a0,a1] x ba) (h:iR w [c0,c1] b bs) (hx:x.args.length≤1000000):
  Calls Tryz.prog 172 #[.agg #[a0,a1],.agg #[c0,c1]] w fun e w'=>Below w.heap.size w w'∧∃ d0 d1 bs',e=.returned (.agg #[d0,d1])∧aI w' [d0,d1] (bU x b) bs'∧∀ c ∈ bs',w.heap.size≤c:=by
 obtain ⟨s,a4,av,ht⟩:=ha;simp only [List.cons.injEq,and_true] at a4;obtain ⟨rfl,rfl⟩:=a4;obtain ⟨Ad,cap,rfl,hl,hm⟩:=ak ht;obtain ⟨A1,p1,A2,p2,a4⟩:=kX h;simp only [List.cons.injEq,and_true] at a4;obtain ⟨rfl,rfl⟩:=a4;obtain ⟨i0,hi,aw,az,aD⟩:=info_parts OQ;clear hm;have H:=η h;have HT:=η ht;have aE:=η fun n=>UE (n:=n) h
 have ab:CZ w x Ad cap (.slice A1 b.length p1) (.slice A2 b.length p2) (.slice none 0 0) [] [] ((((w.alloc (.cells #[.string x.name,.slice Ad x.args.length cap] 33)).alloc (.cells #[.slice A1 b.length p1,.slice A2 b.length p2] 234)).alloc (.cells #[.string ⟨#[]⟩,.slice none 0 0] 33)).alloc (.cells #[.string x.name,.slice none 0 0] 33)):=by
  refine ⟨?_,?_,?_,?_,aW.nil _,(((ζ).alloc (by simp) _).alloc (by simp; omega) _).alloc (by simp; omega) _⟩
  ·rw [Below.heap_alloc _ _ _ (by simp; omega),Below.heap_alloc _ _ _ (by simp; omega),Below.heap_alloc _ _ _ (by simp)]
   exact ω w _
  ·rw [Below.heap_alloc _ _ _ (by first | (simp; done) | (simp; omega)),Below.heap_alloc _ _ _ (by first | (simp; done) | (simp; omega))]
   simpa using ω (w.alloc (.cells #[.string x.name,.slice Ad x.args.length cap] 33)) (.cells #[.slice A1 b.length p1,.slice A2 b.length p2] 234)
  ·rw [Below.heap_alloc _ _ _ (by simp)]
   simpa using ω ((w.alloc (.cells #[.string x.name,.slice Ad x.args.length cap] 33)).alloc (.cells #[.slice A1 b.length p1,.slice A2 b.length p2] 234)) (.cells #[.string ⟨#[]⟩,.slice none 0 0] 33)
  ·simpa using ω (((w.alloc (.cells #[.string x.name,.slice Ad x.args.length cap] 33)).alloc (.cells #[.slice A1 b.length p1,.slice A2 b.length p2] 234)).alloc (.cells #[.string ⟨#[]⟩,.slice none 0 0] 33)) (.cells #[.string x.name,.slice none 0 0] 33)
 have ac:=η ab;clear h ht ab
 go_enter Tryz.func172,Tryz.ntmps172
 go_wp2_with fail
 generalize (((w.alloc (.cells #[.string x.name,.slice Ad x.args.length cap] 33)).alloc (.cells #[.slice A1 b.length p1,.slice A2 b.length p2] 234)).alloc (.cells #[.string ⟨#[]⟩,.slice none 0 0] 33)).alloc (.cells #[.string x.name,.slice none 0 0] 33)=w0 at *
 go_loopw [6,7] (fun i _ wr=>∃ (k:Nat) (Av:Option Addr) (cv:Nat) (L:List Value),k≤x.args.length∧i=.int .i64 k∧Hid (CZ w x Ad cap (.slice A1 b.length p1) (.slice A2 b.length p2) (.slice Av k cv) L ((x.args.take k).map (dm b)) wr)) (fun i _ _=>x.args.length - (intOf i).toNat)
 case atStart=>exact ⟨0,none,0,[],ε,rfl,ac⟩
 case round=>
  obtain ⟨k,Av,cv,L,hk,rfl,U⟩:=hrel;clear ac;by_cases a5:k < x.args.length
  ·obtain ⟨d,o,rfl,_,e0,e1,ae⟩:=dU (aN.below HT.out U.out.bel) a5
   have bg:(0:Int)≤(k:Int):=by omega
   have aL:(k:Int) < (x.args.length:Int):=by omega
   have aM:Hid ((x.args.take (k+1)).map (dm b)=(x.args.take k).map (dm b) ++ [dm b x.args[k]]):=η (by rw [ρ a5,List.map_append]; rfl);have aR:Hid (((x.args.take k).map (dm b)).length=k):=η (by simp; omega);have af:=η a5;have y1:wr.cell? ⟨w.heap.size,1,none⟩=some (.slice (some ⟨d,o,none⟩) x.args.length cap):=ai U.out.a_;have z0:wr.cell? ⟨w.heap.size+1,0,none⟩=some (.slice A1 b.length p1):=ai U.out.b_;have z1:wr.cell? ⟨w.heap.size+1,1,none⟩=some (.slice A2 b.length p2):=ai U.out.b_;have b1:w.heap.size+4≤wr.heap.size:=by have:=ψ U.out.o_; omega
   have n0:w.heap.size < wr.heap.size:=by omega
   have n1:w.heap.size+1 < wr.heap.size:=by omega
   have n3:w.heap.size+1+1+1 < wr.heap.size:=by omega
   have nd:d < wr.heap.size:=lt_of_cell e0;generalize x.args[k]=t at *;clear a5 hk;obtain ⟨tv,I⟩:=t;dsimp only at *;have hA:Below wr.heap.size wr (wr.alloc (.cells #[.bool false,.string I] 91)):=ζ;have hX:=ω wr (.cells #[.bool false,.string I] 91);have a9:=U.out.below hA;have ag:∀ M,wr.heap.size≤M→(Value.slice Av k cv).ownBlock ≠ some M:=fun M hM e=>by have:=(iY U.out.c_.own M e).2; omega
   cases tv
   case' true=>
    have q:=fun w' (hb:Below wr.heap.size wr w')=>get_any b I _ _ bs w' (bW.below H.out (U.out.bel.trans (hb.mono U.out.bel.size)))
    go_wp2_with fail
    have a2:∀ y,Below (World.drew (wr.alloc (.cells #[.bool false,.string I] 91))).heap.size (World.drew (wr.alloc (.cells #[.bool false,.string I] 91))) y→Below wr.heap.size wr y:=fun y J=>hA.drew.trans (J.mono hA.size)
    have a6:∀ y,Below (World.drew (wr.alloc (.cells #[.bool false,.string I] 91))).heap.size (World.drew (wr.alloc (.cells #[.bool false,.string I] 91))) y→y.heap[wr.heap.size]? = some (.cells #[.bool false,.string I] 91 (0,0)):=fun y J=>(J.block _ (by show wr.heap.size < (World.alloc wr _).heap.size; simp)).trans hX
    have hK:∀ y,Below (World.drew (wr.alloc (.cells #[.bool false,.string I] 91))).heap.size (World.drew (wr.alloc (.cells #[.bool false,.string I] 91))) y→y.cell? ⟨w.heap.size,1,none⟩=some (.slice (some ⟨d,o,none⟩) x.args.length cap)∧y.cell? ⟨w.heap.size+1,0,none⟩=some (.slice A1 b.length p1)∧y.cell? ⟨w.heap.size+1,1,none⟩=some (.slice A2 b.length p2)∧y.cell? ⟨d,o+k * 2+1,none⟩=some (.string I)∧y.cell? ⟨wr.heap.size,1,none⟩=some (.string I)∧y.frozen? ⟨wr.heap.size,1,none⟩=false:=fun y J=>
     ⟨ξ (a2 y J) y1,ξ (a2 y J) z0,ξ (a2 y J) z1,ξ (a2 y J) e1,ai (a6 y J),ax (a6 y J)⟩
    have am:∀ y:World,(y.cell? ⟨w.heap.size,1,none⟩=some (.slice (some ⟨d,o,none⟩) x.args.length cap)∧y.cell? ⟨w.heap.size+1,0,none⟩=some (.slice A1 b.length p1)∧y.cell? ⟨w.heap.size+1,1,none⟩=some (.slice A2 b.length p2)∧y.cell? ⟨d,o+k * 2+1,none⟩=some (.string I))→((y.setCell ⟨wr.heap.size,1,none⟩ (.string (iO b I))).cell? ⟨w.heap.size,1,none⟩=some (.slice (some ⟨d,o,none⟩) x.args.length cap)∧(y.setCell ⟨wr.heap.size,1,none⟩ (.string (iO b I))).cell? ⟨w.heap.size+1,0,none⟩=some (.slice A1 b.length p1)∧(y.setCell ⟨wr.heap.size,1,none⟩ (.string (iO b I))).cell? ⟨w.heap.size+1,1,none⟩=some (.slice A2 b.length p2)∧(y.setCell ⟨wr.heap.size,1,none⟩ (.string (iO b I))).cell? ⟨d,o+k * 2+1,none⟩=some (.string I)):=fun y ⟨h1,h2,h3,h4⟩=>
     ⟨(World.cell?_of_block (w:=y) (π y ⟨wr.heap.size,1,none⟩ _ _ (by show w.heap.size ≠ wr.heap.size; omega))).trans h1,(World.cell?_of_block (w:=y) (π y ⟨wr.heap.size,1,none⟩ _ _ (by show w.heap.size+1 ≠ wr.heap.size; omega))).trans h2,(World.cell?_of_block (w:=y) (π y ⟨wr.heap.size,1,none⟩ _ _ (by show w.heap.size+1 ≠ wr.heap.size; omega))).trans h3,(World.cell?_of_block (w:=y) (π y ⟨wr.heap.size,1,none⟩ _ _ (by show d ≠ wr.heap.size; omega))).trans h4⟩
    go_region_held3 (fun w'=>w'.cell? ⟨w.heap.size,1,none⟩=some (.slice (some ⟨d,o,none⟩) x.args.length cap)∧w'.cell? ⟨w.heap.size+1,0,none⟩=some (.slice A1 b.length p1)∧w'.cell? ⟨w.heap.size+1,1,none⟩=some (.slice A2 b.length p2)∧w'.cell? ⟨d,o+k * 2+1,none⟩=some (.string I))
     (first | go_keep | exact hq | exact am _ hq)
     (first | (go_at_call 225; refine (q _ hA.drew).mono ?_; rintro e y ⟨rfl,J⟩; have ⟨j0,j1,j2,j3,j4,j5⟩:=hK y J; have hq:=ι j0 (ι j1 (ι j2 j3)); clear j0 j1 j2 j3))
    have HS:Hid (dm b ⟨true,I⟩=⟨false,iO b I⟩):=η rfl;have ao:Hid ((iO b I).size≤maxLen):=η (aE.out I);have a7:(y.setCell ⟨wr.heap.size,1,none⟩ (.string (iO b I))).heap[wr.heap.size]? = some (.cells #[.bool false,.string (iO b I)] 91 (0,0)):=AQ (a6 y J);have a3:=(U.out.below (a2 y J)).set wr.heap.size 1 (.string (iO b I)) b1 (ag _ ν);clear hK am a6 a2 hq q a9 j4 j5;generalize hvn:iO b I=nm' at *;generalize hwt:y.setCell ⟨wr.heap.size,1,none⟩ (.string nm')=wt at *;clear J hwt
   case' false=>
    have HS:Hid (dm b ⟨false,I⟩=⟨false,I⟩):=η rfl;have ao:=η ae
    go_upto_region 8 with fail
    have a7:=hX;have a3:=a9;generalize hwt:wr.alloc (.cells #[.bool false,.string I] 91)=wt at *;generalize hvn:I=nm' at *;clear a9 hwt
   all_goals
    have y3:wt.cell? ⟨w.heap.size+1+1+1,1,none⟩=some (.slice Av k cv):=ai a3.o_;have y4:wt.cell? ⟨wr.heap.size,0,none⟩=some (.bool false):=ai a7;have y5:wt.cell? ⟨wr.heap.size,1,none⟩=some (.string nm'):=ai a7;have a8:Below wt.heap.size wt (wt.alloc (.cells #[.bool false,.string nm'] 91)):=ζ;have ap:w.heap.size+4≤wt.heap.size:=by have:=ψ a3.o_; omega
    have HL:Hid (aW 2 iT (w.heap.size+4) 91 (wt.alloc (.cells #[.bool false,.string nm'] 91)) (.slice Av k cv) L ((x.args.take k).map (dm b)) []∧aQ 2 iT (wt.alloc (.cells #[.bool false,.string nm'] 91)) [.bool false,.string nm'] [⟨false,nm'⟩] []∧Lies (wt.alloc (.cells #[.bool false,.string nm'] 91)) (some ⟨wt.heap.size,0,none⟩) [.bool false,.string nm']∧Below (w.heap.size+4) wt (wt.alloc (.cells #[.bool false,.string nm'] 91))∧w.heap.size+4≤(wt.alloc (.cells #[.bool false,.string nm'] 91)).heap.size):=
     η ⟨a3.c_.below aY a8,aQ.cu jv ⟨rfl,ao.out,rfl⟩,aP (ω wt _),a8.mono ap,τ ap a8.size⟩
    have b3:Hid (k+1≤maxLen):=η (by unfold maxLen; omega);have b4:Hid ((k+1) * 24≤140737488355328):=η (by omega);have b5:=η a3;clear a3 a7 U y1 z0 z1 e0 e1 hA hX ag a8
    go_wp2_with (at_builtin; refine bJ rfl _ _ _ rfl (w.heap.size+4) 91 i0 (.agg #[.bool false,.string ⟨#[]⟩]) 2 24 Tryz.underlying31 hi aw az aD rfl (Θ 1) aY (.slice Av k cv) k L _ [] rfl HL.out.1 aR.out (some ⟨wt.heap.size,0,none⟩) 1 1 _ [⟨false,nm'⟩] _ rfl HL.out.2.1 rfl HL.out.2.2.1 (fun b hb=>by simp at hb) b3.out b4.out wt (w.heap.size+4) HL.out.2.2.2.1 ν HL.out.2.2.2.2 ?_; intro A4 c4 w4 aq ar b6 b7; have HZ:=η (b5.out.app aq ar); have p1:=HZ.out.1; have p2:=HZ.out.2.1; clear aq ar b6 b7 y3 y4 y5)
    go_wp2;go_roundw
    case rel=>exact ⟨k+1,A4,c4,_,af.out,by go_num,by rw [aM.out,HS.out]; exact η HZ.out.2.2⟩
    case measure=>have:=af.out; simp [intOf]; omega
  ·have he:k=x.args.length:=by omega
   have aL:¬ (k:Int) < (x.args.length:Int):=by omega
   have y1:wr.cell? ⟨w.heap.size,1,none⟩=some (.slice Ad x.args.length cap):=ai U.out.a_;have y2:wr.cell? ⟨w.heap.size+1+1+1,0,none⟩=some (.string x.name):=ai U.out.o_;have y3:wr.cell? ⟨w.heap.size+1+1+1,1,none⟩=some (.slice Av k cv):=ai U.out.o_;have y4:wr.cell? ⟨w.heap.size+1+1,0,none⟩=some (.string ⟨#[]⟩):=ai U.out.r_;have y5:wr.cell? ⟨w.heap.size+1+1,1,none⟩=some (.slice none 0 0):=ai U.out.r_;have f4:wr.frozen? ⟨w.heap.size+1+1,0,none⟩=false:=ax U.out.r_;have f5:wr.frozen? ⟨w.heap.size+1+1,1,none⟩=false:=ax U.out.r_;have aa:=bP (o:=1) (u:=.slice Av k cv) (bP (o:=0) (u:=.string x.name) U.out.r_);have b8:((wr.setCell ⟨w.heap.size+1+1,0,none⟩ (.string x.name)).setCell ⟨w.heap.size+1+1,1,none⟩ (.slice Av k cv)).cell? ⟨w.heap.size+1+1,0,none⟩=some (.string x.name):=by simp [World.cell?,aa]
   have b9:((wr.setCell ⟨w.heap.size+1+1,0,none⟩ (.string x.name)).setCell ⟨w.heap.size+1+1,1,none⟩ (.slice Av k cv)).cell? ⟨w.heap.size+1+1,1,none⟩=some (.slice Av k cv):=by simp [World.cell?,aa]
   have HF:Hid (∃ bs',aI ((wr.setCell ⟨w.heap.size+1+1,0,none⟩ (.string x.name)).setCell ⟨w.heap.size+1+1,1,none⟩ (.slice Av k cv)) [.string x.name,.slice Av k cv] (bU x b) bs'∧∀ c ∈ bs',w.heap.size≤c):=η (by
    have hC:=(U.out.c_.lW (b:=w.heap.size+2) (o:=0) (u:=.string x.name) aY (aO U.out.c_.own (by omega)) (by simp)).lW (b:=w.heap.size+2) (o:=1) (u:=.slice Av k cv) aY (aO (U.out.c_.lW (b:=w.heap.size+2) (o:=0) (u:=.string x.name) aY (aO U.out.c_.own (by omega)) (by simp)).own (by omega)) (by simp);obtain ⟨b2,h2,h3⟩:=hC.slice;refine ⟨b2,⟨.slice Av k cv,rfl,av,?_⟩,fun c hc=>(h3 c hc).elim (fun h=>by omega) fun h=>by cases h⟩;unfold bU;rw [he,ϕ ν] at h2;rw [he]
    exact h2)
   have HB:=η ((U.out.bel.setCell (p:=⟨w.heap.size+1+1,0,none⟩) (by show w.heap.size≤w.heap.size+1+1; omega) (.string x.name)).setCell (p:=⟨w.heap.size+1+1,1,none⟩) (by show w.heap.size≤w.heap.size+1+1; omega) (.slice Av k cv));clear U he hk aa;go_wp2;obtain ⟨bs',bc,bf⟩:=HF.out;exact bodyPost_ret (v:=.agg #[.string x.name,.slice Av k cv]) (by simp [results,Tryz.results172,go_sem,b8,b9]) rfl ⟨HB.out,_,_,rfl,bs',bc,bf⟩
end
end Go.Proofs.YtkjinanbccloeaaGreatDoor
