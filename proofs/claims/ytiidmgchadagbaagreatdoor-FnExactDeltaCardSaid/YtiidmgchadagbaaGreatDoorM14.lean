/- Of the proof of FnExactDelta: AtTxP, QryP, IntK, ChP, HPart, Body. -/
import Derived.Test.YtiidmgchadagbaaGreatDoorM13
set_option linter.unusedVariables false
set_option maxHeartbeats 400000
namespace Go.Proofs.YtiidmgchadagbaaGreatDoor.D
open Go.RowKit Go.Lib
theorem U1 {c:UInt8} (h:low c=true):big c=false:=by
 cases hb:big c
 ·rfl
 ·exfalso
  have h1:=(Au c).1 hb;have:low c=false:=(wP c).2 (by omega);rw [this] at h; cases h
theorem SI {s:ByteArray} (h:iQ s=true):rU s=false:=by
 unfold iQ oL at h;simp only [Bool.and_eq_true] at h;unfold rU
 cases hs:s.data.toList with
 | nil=>simp [big]
 | cons x xs=>
  have:=List.all_eq_true.1 h.1.2 x (by rw [hs]; exact List.mem_cons_self ..);simp [U1 this]
theorem Ju {t:T} (h:jd t=true):yQ t.name=t:=by
 unfold yQ;unfold jd at h;obtain ⟨v,s⟩:=t;cases v
 ·have:=SI (s:=s) (by simpa using h)
  show (⟨rU s,s⟩:T)=⟨false,s⟩;rw [this]
 ·have h1:wQ s=true:=by simpa using h
  unfold wQ at h1;simp only [Bool.and_eq_true] at h1;show (⟨rU s,s⟩:T)=⟨true,s⟩;rw [h1.1.2]
theorem uN {t:T} (h:jd t=true):(44:UInt8) ∉ t.name.data.toList∧t.name.data.toList ≠ []∧t.name.data.toList.length≤8:=by
 have hz:t.name.data.toList.length=t.name.size:=Array.length_toList;unfold jd at h
 split at h
 ·unfold wQ at h
  simp only [Bool.and_eq_true,decide_eq_true_eq] at h;have h1:=h.1.2;unfold rU at h1;simp only [Bool.and_eq_true,decide_eq_true_eq] at h1;refine ⟨?_,by intro e; rw [e] at hz; simp at hz; omega,by omega⟩;intro hm
  cases hs:t.name.data.toList with
  | nil=>rw [hs] at hm; simp at hm
  | cons x xs=>
   rw [hs] at hm h1 h
   rcases List.mem_cons.1 hm with e | hm
   ·have h2:=h1.2
    rw [← e] at h2;exact absurd (show big 44=true from h2) (by decide)
   ·exact (GH _ (List.all_eq_true.1 h.2 _ hm)).2.2.1 rfl
 ·unfold iQ at h
  simp only [Bool.and_eq_true,decide_eq_true_eq] at h;refine ⟨?_,by intro e; rw [e] at hz; simp at hz; omega,by omega⟩;intro hm;exact (GH _ (List.all_eq_true.1 h.1.2 _ hm)).2.2.1 rfl
theorem Oo {a:A} (h:aZ a=true):BV a.name.data.toList (lu a.args)=a:=by
 unfold aZ at h;simp only [Bool.and_eq_true] at h;have hall:=List.all_eq_true.1 h.2
 have e:a.args=(a.args.map fun t=>t.name.data.toList).map fun w=>yQ (toB w):=by
  rw [List.map_map]
  conv=>lhs; rw [← List.map_id a.args]
  refine List.map_congr_left fun t ht=>?_
  show t=yQ (toB t.name.data.toList);rw [MI,Ju (hall t ht)]
 have ej:lu a.args=joinL 44 (a.args.map fun t=>t.name.data.toList):=by
  conv=>lhs; rw [e]
  rw [BX]
 unfold BV;obtain ⟨nm,args⟩:=a;dsimp only at *;rw [MI]
 cases args with
 | nil=>rw [ej]; rfl
 | cons t r=>
  have hne:joinL 44 ((t :: r).map fun t=>t.name.data.toList) ≠ []:=by
   have ht:=(uN (hall t (List.mem_cons_self ..))).2.1
   cases r with
   | nil=>exact ht
   | cons u r=>exact List.append_ne_nil_of_left_ne_nil ht _
  rw [if_neg (by rw [ej]; exact hne),ej,zC]
  ·rw [← e]
  ·simp
  ·intro p hp
   obtain ⟨u,hu,rfl⟩:=List.mem_map.1 hp;exact (uN (hall u hu)).1
theorem join_le:∀ (ps:List (List UInt8)),(∀ p ∈ ps,p.length≤8)→(joinL 44 ps).length≤9 * ps.length
 | [],_=>by simp [joinL]
 | [p],h=>by have:=h p (List.mem_cons_self ..); simp [joinL]; omega
 | p :: q :: r,h=>by
  have h1:=h p (List.mem_cons_self ..);have h2:=join_le (q :: r) fun x hx=>h x (List.mem_cons_of_mem _ hx)
  show (p ++ 44 :: joinL 44 (q :: r)).length≤_;rw [List.length_append,List.length_cons];simp only [List.length_cons] at *;omega
theorem U2 {a:A} (h:aZ a=true):(lu a.args).length≤27:=by
 have h0:=h;unfold aZ at h;simp only [Bool.and_eq_true,decide_eq_true_eq] at h;have hall:=List.all_eq_true.1 h.2;have:=Oo h0
 have e:a.args=(a.args.map fun t=>t.name.data.toList).map fun w=>yQ (toB w):=by
  rw [List.map_map]
  conv=>lhs; rw [← List.map_id a.args]
  refine List.map_congr_left fun t ht=>?_
  show t=yQ (toB t.name.data.toList);rw [MI,Ju (hall t ht)]
 rw [e,BX]
 have:=join_le (a.args.map fun t=>t.name.data.toList) fun p hp=>by
  obtain ⟨u,hu,rfl⟩:=List.mem_map.1 hp;exact (uN (hall u hu)).2.2
 rw [List.length_map] at this;omega
theorem Jv {s:ByteArray} (h:iQ s=true):s.data.toList.length≤8∧1≤s.data.toList.length:=by
 have hz:s.data.toList.length=s.size:=Array.length_toList;unfold iQ at h;simp only [Bool.and_eq_true,decide_eq_true_eq] at h;omega
theorem EW {a:A} (h:aZ a=true):(xg a).length≤37:=by
 have h1:=U2 h;unfold aZ at h;simp only [Bool.and_eq_true] at h;have h2:=Jv h.1.1;unfold xg;simp only [List.length_append,List.length_singleton];omega
theorem EX {a:A} (h:aZ a=true):WI (xg a)=(a,true):=by
 have hl:=EW h
 have hc:cut (xg a) [40]=(a.name.data.toList,lu a.args ++ [41],true):=by
  have hn:(40:UInt8) ∉ a.name.data.toList:=by
   unfold aZ at h;simp only [Bool.and_eq_true] at h;exact Sv h.1.1
  rcases VX (xg a) 40 with ⟨h1,_⟩ | ⟨x,y,h1,h2,h3⟩
  ·exact absurd (by unfold xg; simp) h1
  ·have e:a.name.data.toList ++ 40 :: (lu a.args ++ [41])=x ++ 40 :: y:=by rw [← h1]; unfold xg; simp
   have hs1:=qR (lu a.args ++ [41]) hn;rw [e,qR y h2] at hs1
   injection hs1 with e1 _
   rw [h3];subst e1;rw [List.append_cancel_left_eq] at e
   injection e with _ e
   rw [e]
 unfold WI;rw [if_neg (by omega),hc];show (if true=true∧(lu a.args ++ [41]).getLast? = some 41 then _ else _)=_;rw [if_pos ⟨rfl,by simp⟩];show (if aZ (BV a.name.data.toList (lu a.args ++ [41]).dropLast)=true then _ else _)=_;rw [List.dropLast_concat,Oo h,if_pos h]
end Go.Proofs.YtiidmgchadagbaaGreatDoor.D
namespace Go.Proofs.YtiidmgchadagbaaGreatDoor
open Go.RowKit D
def D.jR (vars:List ByteArray) (t:T):Int:=if t.var then ((vars.idxOf t.name:Nat):Int) else -1
def D.jS (t:T):ByteArray:=if t.var then ⟨#[]⟩ else t.name
def D.CS (vars:List ByteArray):Rel T:=fun _ cs t bs=>cs = [.int .i64 (jR vars t),.string (jS t)]∧(jS t).size≤maxLen∧bs = []
theorem D.gU (vars:List ByteArray):Good (CS vars):=⟨fun h _=>h,fun h b hb=>by rw [h.2.2] at hb; simp at hb⟩
theorem D.CU (vars:List ByteArray):Bf 2 (CS vars):=fun h=>by obtain ⟨rfl,_⟩:=h; simp [Value.oneCell']
def D.kP (vars:List ByteArray):Rel (List T):=iR 2 (CS vars)
theorem D.dm (vars:List ByteArray):Good (kP vars):=iY (gU vars) (by omega)
def D.D5 (vars:List ByteArray):Rel A:=fun w cs a bs=>∃ v,cs = [.string a.name,v]∧a.name.size≤maxLen∧kP vars w [v] a.args bs
theorem D.iI (vars:List ByteArray):Good (D5 vars):=
 ⟨fun h hk=>by obtain ⟨v,h1,h2,h3⟩:=h; exact ⟨v,h1,h2,(dm vars).keep h3 hk⟩,fun h=>by obtain ⟨v,h1,h2,h3⟩:=h; exact (dm vars).lt h3⟩
theorem D.EY (vars:List ByteArray):Bf 2 (D5 vars):=fun h=>by
 obtain ⟨v,rfl,_,h3⟩:=h;obtain ⟨Ad,cap,rfl,_⟩:=af h3;simp [Value.oneCell']
def D.tC (vars:List ByteArray):Rel (List A):=iR 2 (D5 vars)
theorem D.dS (vars:List ByteArray):Good (tC vars):=iY (iI vars) (by omega)
def D.gZ (body:List Pt):List A:=(body.filter fun p=>!p.no).map (·.atom)
def D.dX (body:List Pt):List A:=(body.filter fun p=>p.no).map (·.atom)
def D.WW:Rel (List Pt):=fun w cs body bs=>∃ v1 v2 v3 b1 b2 b3,cs = [v1,v2,v3]∧bs=b1 ++ b2 ++ b3∧tC (aG body) w [v1] (gZ body) b1∧tC (aG body) w [v2] (dX body) b2∧jL w [v3] (aG body) b3
theorem D.xP {vars:List ByteArray} {w:World} {Ad:Option Addr} {len cap:Nat} {ts:List T} {bs:List Nat} {k:Nat} (h:kP vars w [.slice Ad len cap] ts bs) (hk:k < ts.length):
  ∃ b o,Ad=some ⟨b,o,none⟩∧b ∈ bs∧w.cell? ⟨b,o+k * 2,none⟩=some (.int .i64 (jR vars ts[k]))∧w.cell? ⟨b,o+k * 2+1,none⟩=some (.string (jS ts[k]))∧(jS ts[k]).size≤maxLen:=by
 obtain ⟨b,o,cs,bk,rfl,hb,hcs,hcell,⟨rfl,hs,_⟩,_⟩:=jF h hk;exact ⟨b,o,rfl,hb,by simpa using hcell 0 _ rfl,by have:=hcell 1 _ rfl; simpa [Nat.add_assoc] using this,hs⟩
theorem D.xQ {vars:List ByteArray} {w:World} {Ad:Option Addr} {len cap:Nat} {xs:List A} {bs:List Nat} {k:Nat} (h:tC vars w [.slice Ad len cap] xs bs) (hk:k < xs.length):
  ∃ b o Ae ce bk,Ad=some ⟨b,o,none⟩∧b ∈ bs∧w.cell? ⟨b,o+k * 2,none⟩=some (.string xs[k].name)∧w.cell? ⟨b,o+k * 2+1,none⟩=some (.slice Ae xs[k].args.length ce)∧
   D5 vars w [.string xs[k].name,.slice Ae xs[k].args.length ce] xs[k] bk∧∀ c ∈ bk,c ∈ bs:=by
 obtain ⟨b,o,cs,bk,rfl,hb,hcs,hcell,⟨v,rfl,hs,h3⟩,hin⟩:=jF h hk;obtain ⟨Ae,ce,rfl,_⟩:=af h3;exact ⟨b,o,Ae,ce,bk,rfl,hb,by simpa using hcell 0 _ rfl,by have:=hcell 1 _ rfl; simpa [Nat.add_assoc] using this,⟨_,rfl,hs,h3⟩,hin⟩
structure D.xR {α:Type} (n:Nat) (R:Rel α) (e tb:TypeId) (w:World) (hz hb B:Nat) (nm:ByteArray) (v:Value) (L:List Value) (xs:List α) (wr:World):Prop where
 r0:wr.heap[hz]? = some (.cells #[.string ⟨#[]⟩,.slice none 0 0] tb (0,0))
 r1:wr.heap[hb]? = some (.cells #[.string nm,v] tb (0,0))
 h0:w.heap.size≤hz
 h1:hz < hb
 hB:hb < B
 coll:cO n R B e wr v L xs []
 bel:Below w.heap.size w wr
 pX:B≤wr.heap.size
section
variable {α:Type} {n:Nat} {R:Rel α} {e tb:TypeId} {w:World} {hz hb B:Nat} {nm:ByteArray} {v:Value} {L:List Value} {xs:List α} {wr:World}
theorem D.xR.later {w':World} (g:Good R) (h:xR n R e tb w hz hb B nm v L xs wr) (hk:Below wr.heap.size wr w'):xR n R e tb w hz hb B nm v L xs w':=
 ⟨(hk.block _ (lt_of_block h.r0)).trans h.r0,(hk.block _ (lt_of_block h.r1)).trans h.r1,h.h0,h.h1,h.hB,h.coll.below g hk,h.bel.trans (hk.mono h.bel.size),Nat.le_trans h.pX hk.size⟩
theorem D.xR.lit {cs:List Value} {x:α} (g:Good R) (o:Bf n R) (h:xR n R e tb w hz hb B nm v L xs wr) (hR:∀ w,R w cs x []):
  cO n R B e (wr.alloc (.cells cs.toArray e)) v L xs []∧aV n R (wr.alloc (.cells cs.toArray e)) cs [x] []∧Lies (wr.alloc (.cells cs.toArray e)) (some ⟨wr.heap.size,0,none⟩) cs∧
   Below B wr (wr.alloc (.cells cs.toArray e))∧B≤(wr.alloc (.cells cs.toArray e)).heap.size:=by
 have hA:Below wr.heap.size wr (wr.alloc (.cells cs.toArray e)):=(Below.refl _ _).alloc (Nat.le_refl _) _;exact ⟨(h.later g hA).coll,aV.dB o (hR _),by have:=aS (heap_alloc_new wr (.cells cs.toArray e)); simpa using this,(Below.refl _ _).alloc h.pX _,Nat.le_trans h.pX hA.size⟩
theorem D.xR.app {w3:World} {v3:Value} {L3:List Value} {xs3:List α} (g:Good R) (h:xR n R e tb w hz hb B nm v L xs wr) (hC:cO n R B e w3 v3 L3 xs3 []) (hk:Below B wr w3):
  w3.cell? ⟨hb,1,none⟩=some v∧w3.frozen? ⟨hb,1,none⟩=false∧xR n R e tb w hz hb B nm v3 L3 xs3 (w3.setCell ⟨hb,1,none⟩ v3)∧∀ c,c < B→c ≠ hb→(w3.setCell ⟨hb,1,none⟩ v3).heap[c]? = wr.heap[c]?:=by
 have b0:=(hk.block hz (Nat.lt_trans h.h1 h.hB)).trans h.r0;have b1:=(hk.block hb h.hB).trans h.r1;refine ⟨ak b1,aB b1,⟨(Below.heap_setCell _ _ _ _ (by have:=h.h1; show hz ≠ hb; omega)).trans b0,Gh b1,h.h0,h.h1,h.hB,hC.Bh g (aJ hC.own h.hB) (by simp),(h.bel.trans (hk.mono (by have:=h.h0; have:=h.h1; have:=h.hB; omega))).setCell (by have:=h.h0; have:=h.h1; show w.heap.size≤hb; omega) _,?_⟩,fun c hc hne=>by rw [Below.heap_setCell _ _ _ _ hne]; exact hk.block c hc⟩;have:=hk.size; have:=h.pX; simp [World.setCell]; omega
theorem D.xR.done (g:Good R) (h:xR n R e tb w hz hb B nm v L xs wr):
  ∃ W,W=(wr.setCell ⟨hz,0,none⟩ (.string nm)).setCell ⟨hz,1,none⟩ v∧Below w.heap.size w W∧W.heap[hz]? = some (.cells #[.string nm,v] tb (0,0))∧∃ b9,iR n R W [v] xs b9∧New B W b9:=by
 obtain ⟨b9,hs,hn9⟩:=h.coll.new (New.nil _ _);have hlt:=h.h1;have hltB:=h.hB;have h00:=h.h0
 have keep:∀ b,b ≠ hz→((wr.setCell ⟨hz,0,none⟩ (.string nm)).setCell ⟨hz,1,none⟩ v).heap[b]? = wr.heap[b]?:=fun b hb'=>by
  rw [Below.heap_setCell _ _ _ _ hb',Below.heap_setCell _ _ _ _ hb']
 have k9:∀ b ∈ b9,b ≠ hz:=fun b hb' e=>by have:=(hn9.own b hb').1; omega
 refine ⟨_,rfl,(h.bel.setCell (p:=⟨hz,0,none⟩) h00 _).setCell (p:=⟨hz,1,none⟩) h00 _,?_,b9,?_,?_⟩
 ·have:=bZ (o:=1) (u:=v) (bZ (o:=0) (u:=.string nm) h.r0)
  simpa using this
 ·obtain ⟨Ad,cap,h1,h2,h3,h4,h5⟩:=hs
  refine ⟨Ad,cap,h1,h2,h3,h4,fun hne=>?_⟩;obtain ⟨b,o,q1,F,G,q2,q3⟩:=h5 hne;refine ⟨b,o,q1,F,G,q2,fun k x hx=>?_⟩;obtain ⟨p1,p2,p3⟩:=q3 k x hx;have hbm:b ∈ b9:=by rw [q2]; exact List.mem_cons_self ..
  refine ⟨p1,fun j u hj=>by rw [World.cell?_of_block (w:=wr) (keep b (k9 b hbm))]; exact p2 j u hj,g.keep p3 fun c hc=>keep c (k9 c ?_)⟩;rw [q2];exact List.mem_cons_of_mem _ (List.mem_flatMap.2 ⟨k,List.mem_range.2 (List.getElem?_eq_some_iff.1 hx).1,hc⟩)
 ·exact hn9.keep fun b hb'=>keep b (k9 b hb')
end
theorem AP:(Tryz.prog.info? 3).map (fun i=>(i.zero,i.size,i.bytes))=some (some (.int .i64 0),1,8):=by kernel_rfl
def D.xU:Rel Nat:=fun _ cs x bs=>cs = [.int .i64 x]∧bs = []
def D.jD:Rel (List Nat):=iR 1 xU
theorem D.iW:Good xU:=⟨fun h _=>h,fun h b hb=>by rw [h.2] at hb; simp at hb⟩
theorem D.dL:Good jD:=iY iW (by omega)
theorem D.tH {w:World} {g:Nat} {out:List Nat} (h:w.heap[g]? = some (.cells (DR out) 3 (0,0))) (hl:out.length≤maxLen):∃ bs,jD w [.slice (some ⟨g,0,none⟩) out.length out.length] out bs∧bs.Nodup∧∀ b ∈ bs,b=g:=by
 by_cases hx:out = []
 ·subst hx
  exact ⟨[],⟨_,_,rfl,Nat.le_refl _,Nat.zero_le _,fun _=>rfl,fun h=>absurd rfl h⟩,List.nodup_nil,fun b hb=>by simp at hb⟩
 ·refine ⟨g :: (List.range out.length).flatMap fun _=>[],⟨_,_,rfl,Nat.le_refl _,hl,fun h=>absurd h hx,fun _=>⟨g,0,rfl,fun k=>[.int .i64 (iP out k:Nat)],fun _=>[],rfl,fun k x hk=>⟨rfl,fun j v hj=>?_,?_,rfl⟩⟩⟩,by rw [show (List.range out.length).flatMap (fun _=>([]:List Nat)) = [] from List.flatMap_eq_nil_iff.2 fun _ _=>rfl]; simp,fun b hb=>by simpa using hb⟩
  ·have hkl:k < out.length:=(List.getElem?_eq_some_iff.1 hk).1
   match j,hj with
   | 0,hj=>
    simp only [List.getElem?_cons_zero,Option.some.injEq] at hj;rw [ak h,← hj];have:=CJ hkl;simpa using this
   | j+1,hj=>simp at hj
  ·have:iP out k=x:=by unfold iP; rw [List.getD_eq_getElem?_getD,hk]; rfl
   simp only [this]
theorem D.qm {w:World} {Ad:Option Addr} {len cap:Nat} {xs:List Nat} {bs:List Nat} {k:Nat} (h:jD w [.slice Ad len cap] xs bs) (hk:k < xs.length):
  ∃ b o,Ad=some ⟨b,o,none⟩∧b ∈ bs∧w.cell? ⟨b,o+k,none⟩=some (.int .i64 (xs[k]:Nat)):=by
 obtain ⟨b,o,cs,bk,rfl,hb,hcs,hcell,⟨rfl,_⟩,_⟩:=jF h hk;exact ⟨b,o,rfl,hb,by simpa using hcell 0 _ rfl⟩
def D.Oq (w:World) (n0:Nat):Prop:=∀ o u,w.cell? ⟨n0,o,none⟩=some u→∃ A l c,u=.slice A l c
theorem D.xW {α:Type} {n:Nat} {R:Rel α} {w:World} {n0:Nat} (ha:Oq w n0) (h1:∀ cs x bs,R w cs x bs→∃ u,cs[0]? = some u∧∀ A l c,u ≠ .slice A l c) (h2:∀ cs x bs,R w cs x bs→n0 ∉ bs)
  {v:Value} {xs:List α} {bs:List Nat} (h:iR n R w [v] xs bs):n0 ∉ bs:=by
 intro hb;obtain ⟨Ad,cap,hcs,hl,hm,g0,g1⟩:=h;by_cases hne:xs = []
 ·rw [g0 hne] at hb; simp at hb
 ·obtain ⟨b,o,rfl,F,G,rfl,hF⟩:=g1 hne
  rcases List.mem_cons.1 hb with rfl | hb
  ·match xs,hne with
   | y :: r,_=>
    obtain ⟨a1,a2,a3⟩:=hF 0 y rfl;obtain ⟨u,hu,hns⟩:=h1 _ _ _ a3;obtain ⟨A,l,c,e⟩:=ha _ _ (a2 0 u hu);exact hns A l c e
  ·obtain ⟨k,hk,hck⟩:=List.mem_flatMap.1 hb
   have hkl:=List.mem_range.1 hk;obtain ⟨a1,a2,a3⟩:=hF k xs[k] (List.getElem?_eq_getElem hkl);exact h2 _ _ _ a3 hck
theorem D.Jw {w:World} {n0:Nat} (ha:Oq w n0) {v:Value} {ts:List T} {bs:List Nat} (h:eY w [v] ts bs):n0 ∉ bs:=
 xW ha (fun cs x bs h=>by obtain ⟨rfl,_⟩:=h; exact ⟨_,rfl,fun _ _ _=>by simp⟩) (fun cs x bs h=>by obtain ⟨_,_,rfl⟩:=h; simp) h
theorem D.zM {w:World} {n0:Nat} (ha:Oq w n0) {v:Value} {xs:List A} {bs:List Nat} (h:aI w [v] xs bs):n0 ∉ bs:=
 xW ha (fun cs x bs h=>by obtain ⟨s,rfl,_⟩:=h; exact ⟨_,rfl,fun _ _ _=>by simp⟩) (fun cs x bs h=>by obtain ⟨s,_,_,ht⟩:=h; exact Jw ha ht) h
theorem D.bG {w w':World} {b:Nat} {cs:Array Value} {t:TypeId} (hb:Below w.heap.size w w') (h:w.heap[b]? = some (.cells cs t (0,0))):w'.heap[b]? = some (.cells cs t (0,0)):=(hb.block b (lt_of_block h)).trans h
theorem D.aP {w:World} {b o:Nat} {cs:Array Value} {t:TypeId} (h:w.heap[b]? = some (.cells cs t (0,0))):w.cell? ⟨b,o,none⟩=cs[o]?:=by simp [World.cell?,h]
theorem D.aF {w:World} {b o:Nat} {cs:Array Value} {t:TypeId} (h:w.heap[b]? = some (.cells cs t (0,0))):w.frozen? ⟨b,o,none⟩=false:=by simp [World.frozen?,h]
theorem D.Jy {w:World} {n0:Nat} {A B:Option Addr} {l c l' c':Nat} {t:TypeId} (h:w.heap[n0]? = some (.cells #[.slice A l c,.slice B l' c'] t (0,0))):Oq w n0:=fun o u hu=>by
 rw [aP h] at hu
 match o with
 | 0=>exact ⟨A,l,c,by simpa using hu.symm⟩
 | 1=>exact ⟨B,l',c',by simpa using hu.symm⟩
 | o+2=>simp at hu
theorem D.fF {w:World} {n0:Nat} {t:TypeId} (hb:w.heap[n0]? = some (.cells #[.slice none 0 0,.slice none 0 0] t (0,0))) {v1 v2:Value} {c:Ch} {b1 b2:List Nat} (h1:aI w [v1] c.comes b1) (h2:aI w [v2] c.goes b2):
  dU ((w.setCell ⟨n0,0,none⟩ v1).setCell ⟨n0,1,none⟩ v2) [v1,v2] c (b1 ++ b2):=by
 have k1:=zM (Jy hb) h1;have k2:=zM (Jy hb) h2;refine ⟨v1,v2,b1,b2,rfl,rfl,ai.keep h1 fun b hm=>?_,ai.keep h2 fun b hm=>?_⟩
 ·have:b ≠ n0:=fun e=>k1 (e ▸ hm)
  rw [Below.heap_setCell _ _ _ _ this,Below.heap_setCell _ _ _ _ this]
 ·have:b ≠ n0:=fun e=>k2 (e ▸ hm)
  rw [Below.heap_setCell _ _ _ _ this,Below.heap_setCell _ _ _ _ this]
theorem D.SK {w:World} {b:Nat} {o:Option Obj} (h:w.heap[b]? = o):w.drew.heap[b]? = o:=h
theorem D.New.U3 {B:Nat} {w:World} {bs:List Nat} (h:New B w bs) (p:Addr) (u:Value):New B (w.setCell p u) bs:=⟨h.nodup,fun b hb=>⟨(h.own b hb).1,KY.setCell (h.VO b hb) p u⟩⟩
theorem D.Ot (w:World) (o:Obj):(w.alloc o).heap[w.heap.size]? = some o:=heap_alloc_new w o
theorem D.U4 (w:World) (o1 o2:Obj):((w.alloc o1).alloc o2).heap[w.heap.size+1]? = some o2:=by
 have:=heap_alloc_new (w.alloc o1) o2;simpa using this
def D.Wh (c:Ch) (B:Nat) (w:World) (e:Ending) (w':World):Prop:=Below B w w'∧∃ cs bs,e=.returned (.agg cs)∧dU w' cs.toList c bs∧New B w' bs
def D.CV (xs:List A):Prop:=xs.length≤1000000∧∀ x ∈ xs,x.args.length≤16777216
def D.tJ (xs ys:List A):Ch:=if (bH xs && bH ys)=true then ⟨dW ys xs,dW xs ys⟩ else ⟨[],[]⟩
theorem D.kW {xs:List A} (h:bH xs=true):CV xs:=
 ⟨Nat.le_trans (jM h) (by omega),fun x hx=>Nat.le_trans (yK (nJ h x hx)) (by omega)⟩
theorem D.Jz {xs:List A} (h:CV xs) (ys:List A):CV (dW xs ys):=
 ⟨Nat.le_trans (List.length_filter_le _ _) h.1,fun x hx=>h.2 x (wW hx)⟩
theorem Nh (p:Pt) (c0 c1 c2:Value) (bs:List Nat) (left:Int) (w:World) (h:oN w [c0,c1,c2] p bs) (h0:0≤left) (h1:left≤1048576):
  Calls Tryz.prog 85 #[.agg #[c0,c1,c2],.int .i64 left] w (Left left (ny p) w.heap.size w):=by
 have ha:=gK h;obtain ⟨Ad,cap,rfl,rfl,rfl⟩:=oP h;have hq:=fun w' (hb:Below w.heap.size w w')=>wz p.atom _ _ bs left w' (aj.below ha hb) h0 h1
 have hbk:ny p=jm p.atom:=rfl;rw [hbk];clear h ha hbk;have hA:=(Below.refl w.heap.size w).alloc (Nat.le_refl _) (.cells #[.bool p.no,.string p.atom.name,.slice Ad p.atom.args.length cap] 129)
 go_enter Tryz.func85,Tryz.ntmps85
 go_wp2_with fail
 refine (hq _ hA).mono ?_;rintro e w' ⟨hb',r,rfl,hr⟩;have hB:=hA.trans (hb'.mono hA.size);go_wp2
 ·rcases hr with rfl | ⟨_,_⟩
  ·go_ret
   exact ⟨hB,_,rfl,.inl rfl⟩
  ·exfalso; omega
 ·rcases hr with rfl | ⟨hr0,hr1⟩
  ·exfalso; omega
  ·go_ret
   exact ⟨hB,_,rfl,.inr ⟨hr0,hr1⟩⟩
theorem SL (p : Pt) (c0 c1 c2 : Value) (bs : List Nat) (w : World) (h : oN w [c0, c1, c2] p bs) (hn : ny p ≤ 1048576) :
    Calls Tryz.prog 98 #[.agg #[c0, c1, c2]] w (vJ oN p w.heap.size w) := by
  have ha := gK h;have hnm : p.atom.name.size ≤ maxLen := by obtain ⟨_, _, hn, _⟩ := h; exact hn
  obtain ⟨Ad, cap, rfl, rfl, rfl⟩ := oP h;have hq := fun w' (hb : Below w.heap.size w w') => Cb p.atom _ _ bs w' (aj.below ha hb) hn
  clear h ha;have hA := (((Below.refl w.heap.size w).alloc (Nat.le_refl _) (.cells #[.bool p.no, .string p.atom.name, .slice Ad p.atom.args.length cap] 129)).alloc (by simp) (.cells #[.bool false, .string ⟨#[]⟩, .slice none 0 0] 111)).alloc (by simp; omega) (.cells #[.bool p.no, .string ⟨#[]⟩, .slice none 0 0] 111)
  go_enter Tryz.func98, Tryz.ntmps98
  go_wp2_with fail
  refine (hq _ hA).mono ?_;rintro e w' ⟨hb', cs', bs', rfl, hR, hN⟩;obtain ⟨Ae, ce, rfl⟩ := lQ hR;have hB : Below w.heap.size w w' := hA.trans (hb'.mono hA.size);have k0 : w'.cell? ⟨w.heap.size + 1 + 1, 0, none⟩ = some (.bool p.no) := cell_later hb' (by go_simp);have k1 : w'.cell? ⟨w.heap.size + 1 + 1, 1, none⟩ = some (.string ⟨#[]⟩) := cell_later hb' (by go_simp);have k2 : w'.cell? ⟨w.heap.size + 1 + 1, 2, none⟩ = some (.slice none 0 0) := cell_later hb' (by go_simp);have l0 : w'.cell? ⟨w.heap.size + 1, 0, none⟩ = some (.bool false) := cell_later hb' (by go_simp);have l1 : w'.cell? ⟨w.heap.size + 1, 1, none⟩ = some (.string ⟨#[]⟩) := cell_later hb' (by go_simp);have l2 : w'.cell? ⟨w.heap.size + 1, 2, none⟩ = some (.slice none 0 0) := cell_later hb' (by go_simp);have f1 : w'.frozen? ⟨w.heap.size + 1 + 1, 1, none⟩ = false := (hb'.frozen (p := ⟨w.heap.size + 1 + 1, 1, none⟩) (by simp)).trans (by go_simp)
  have f2 : w'.frozen? ⟨w.heap.size + 1 + 1, 2, none⟩ = false := (hb'.frozen (p := ⟨w.heap.size + 1 + 1, 2, none⟩) (by simp)).trans (by go_simp);have g0 : w'.frozen? ⟨w.heap.size + 1, 0, none⟩ = false := (hb'.frozen (p := ⟨w.heap.size + 1, 0, none⟩) (by simp)).trans (by go_simp);have g1 : w'.frozen? ⟨w.heap.size + 1, 1, none⟩ = false := (hb'.frozen (p := ⟨w.heap.size + 1, 1, none⟩) (by simp)).trans (by go_simp);have g2 : w'.frozen? ⟨w.heap.size + 1, 2, none⟩ = false := (hb'.frozen (p := ⟨w.heap.size + 1, 2, none⟩) (by simp)).trans (by go_simp);have hge : ∀ b ∈ bs', w.heap.size + 1 + 1 < b := fun b hb => by have := (hN.own b hb).1; simp at this; omega
  have ht := eH hR;go_wp2
  have hk : ∀ b ∈ bs', (((((w'.setCell ⟨w.heap.size + 1 + 1, 1, none⟩ (.string p.atom.name)).setCell ⟨w.heap.size + 1 + 1, 2, none⟩ (.slice Ae p.atom.args.length ce)).setCell ⟨w.heap.size + 1, 0, none⟩ (.bool p.no)).setCell ⟨w.heap.size + 1, 1, none⟩ (.string p.atom.name)).setCell ⟨w.heap.size + 1, 2, none⟩ (.slice Ae p.atom.args.length ce)).heap[b]? = w'.heap[b]? := fun b hb => by
    have := hge b hb;rw [Below.heap_setCell _ _ _ _ (by simp; omega), Below.heap_setCell _ _ _ _ (by simp; omega), Below.heap_setCell _ _ _ _ (by simp; omega), Below.heap_setCell _ _ _ _ (by simp; omega), Below.heap_setCell _ _ _ _ (by simp; omega)]
  exact bodyPost_ret (v := .agg #[.bool p.no, .string p.atom.name, .slice Ae p.atom.args.length ce]) (by simp [results, Tryz.results98, go_sem, l0, l1, l2]) rfl
    ⟨((((hB.setCell (by simp; omega) _).setCell (by simp; omega) _).setCell (by simp) _).setCell (by simp) _).setCell (by simp) _, _, bs', rfl,
      ⟨_, rfl, hnm, aH.keep ht hk⟩, (hN.keep hk).mono (by simp; omega)⟩
end Go.Proofs.YtiidmgchadagbaaGreatDoor
namespace Go.Proofs.YtiidmgchadagbaaGreatDoor
open Go.RowKit D
attribute [local go_sem ↓] Go.wp_at_zero Go.wp_at_succ
theorem Nj (ps:List Pt) (v:Value) (bs:List Nat) (w:World) (h:gm w [v] ps bs):
  Calls Tryz.prog 184 #[v] w fun e w'=>e=.returned (.bool (oW ps))∧Below w.heap.size w w':=by
 obtain ⟨Ad,cap,rfl,hl,hm⟩:=af h;have hlm:=au (Nat.le_trans hl hm);clear hm;unfold oW;by_cases h4:ps.length≤4
 ·go_enter Tryz.func184,Tryz.ntmps184
  go_wp2
  go_loopw [10] (fun i wr=>∃ k:Nat,k≤ps.length∧i=.int .i64 k∧(ps.take k).all (fun p=>aZ p.atom)=true∧Below w.heap.size w wr) (fun i _=>ps.length - (intOf i).toNat)
  case atStart=>exact ⟨0,Nat.zero_le _,rfl,rfl,Below.refl _ _⟩
  case round=>
   obtain ⟨k,hk,rfl,hall,hb⟩:=hrel;have HA:=η hall;clear hall;by_cases hlt:k < ps.length
   ·obtain ⟨b0,o,Ae,ce,bk,rfl,_,d0,d1,d2,hel,_⟩:=gJ (aY.below h hb) hlt
    have hA:=(Below.refl wr.heap.size wr).alloc (Nat.le_refl _) (.cells #[.bool ps[k].no,.string ps[k].atom.name,.slice Ae ps[k].atom.args.length ce] 111);have hat:=aj.below (gK hel) hA;clear h hel
    go_wp2_with fail
    refine (tq ps[k].atom _ _ bk _ hat).mono ?_;rintro e w' ⟨rfl,hb'⟩;have B':=(hb.trans (hA.mono hb.size)).trans (hb'.mono (by have:=hA.size; have:=hb.size; omega));clear hat hA;by_cases hx:aZ ps[k].atom=true
    ·have hx1:(!aZ ps[k].atom)=false:=by simp [hx]
     have HX:=η hx;clear hx;go_wp2;go_roundw
     case rel=>exact ⟨k+1,by omega,by go_num,by rw [je ps k hlt,HA.out]; exact HX.out,B'⟩
     case measure=>simp [intOf]; omega
    ·have hx1:(!aZ ps[k].atom)=true:=by simpa using hx
     have HX:=η hx;clear hx;go_wp2;go_ret;exact ⟨aO (by rw [uF ps k hlt (by simpa using HX.out)]; simp),B'⟩
   ·have he:=η (show k=ps.length by omega)
    go_wp2;go_ret;exact ⟨aO (by have:=HA.out; rw [he.out,List.take_of_length_le (Nat.le_refl _)] at this; rw [this]; simp; omega),hb⟩
 ·go_enter Tryz.func184,Tryz.ntmps184
  go_wp2;go_ret;exact ⟨aO (by simp; omega),Below.refl _ _⟩
end Go.Proofs.YtiidmgchadagbaaGreatDoor
