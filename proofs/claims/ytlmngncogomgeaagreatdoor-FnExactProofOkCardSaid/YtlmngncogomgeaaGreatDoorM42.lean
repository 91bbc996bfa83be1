/- Of the proof of FnExactProofOk: RndI, PrvA, SFn. -/
import Derived.Test.YtlmngncogomgeaaGreatDoorM40
set_option linter.unusedVariables false
set_option maxHeartbeats 4000000
set_option maxRecDepth 100000
namespace Go.Proofs.YtlmngncogomgeaaGreatDoor
section
open Go.RowKit D
attribute [local go_sem ↓] Go.wp_at_zero Go.wp_at_succ
def D.GN (w:World):List Value→List A→List Nat→Prop
 | [],[],b=>b = []
 | v :: vs,a :: l,b=>∃ c y b2,v=.agg #[.string a.name,c]∧b=y ++ b2∧aP w [.string a.name,c] a y∧GN w vs l b2
 | _,_,_=>False
theorem D.GN.len {w:World}:∀ {vs:List Value} {l:List A} {b:List Nat},GN w vs l b→vs.length=l.length
 | [],[],_,_=>rfl
 | v :: vs,a :: l,b,h=>by
  obtain ⟨_,_,_,_,_,_,h⟩:=h;simp [h.len]
 | [],a :: l,_,h=>h.elim
 | v :: vs,[],_,h=>h.elim
theorem D.GN.keep {w w':World}:∀ {vs:List Value} {l:List A} {b:List Nat},GN w vs l b→(∀ x ∈ b,w'.heap[x]? = w.heap[x]?)→GN w' vs l b
 | [],[],_,h,_=>h
 | v :: vs,a :: l,b,h,hk=>by
  obtain ⟨c,I,b2,h1,J,U,h4⟩:=h;subst J;exact ⟨c,I,b2,h1,rfl,ak.keep U fun x y=>hk x (Ξ _ y),h4.keep fun x y=>hk x (Ω _ y)⟩
 | [],a :: l,_,h,_=>h.elim
 | v :: vs,[],_,h,_=>h.elim
theorem D.GN.lt {w:World}:∀ {vs:List Value} {l:List A} {b:List Nat},GN w vs l b→∀ x ∈ b,x < w.heap.size
 | [],[],b,h,x,y=>by rw [show b = [] from h] at y; simp at y
 | v :: vs,a :: l,b,h,x,y=>by
  obtain ⟨c,b1,b2,h1,I,J,U⟩:=h;subst I
  rcases μ.1 y with y | y
  ·exact ak.lt J x y
  ·exact U.lt x y
 | [],a :: l,_,h,_,_=>h.elim
 | v :: vs,[],_,h,_,_=>h.elim
theorem D.GN.snoc {w:World} {a:A} {c:Value} {ba:List Nat} (ha:aP w [.string a.name,c] a ba):∀ {vs:List Value} {l:List A} {b:List Nat},GN w vs l b→GN w (vs ++ [.agg #[.string a.name,c]]) (l ++ [a]) (b ++ ba)
 | [],[],b,h=>by
  rw [show b = [] from h];exact ⟨c,ba,[],rfl,by simp,ha,rfl⟩
 | v :: vs,a' :: l,b,h=>by
  obtain ⟨y,I,b2,h1,J,U,h4⟩:=h;subst J;exact ⟨y,I,b2 ++ ba,h1,by simp,U,h4.snoc ha⟩
 | [],a :: l,_,h=>h.elim
 | v :: vs,[],_,h=>h.elim
def D.x9 (nr:Nat) (l:List A):List (Value × Value):=l.map fun a=>(.string (dM a),.int .i64 (nr:Nat))
theorem D.MX {nr ms:Nat} {l:List A} {w:World} (h:gq isStr ms (x9 nr l) w) (s:ByteArray) (U:s.size≤maxLen):
  ∃ i:Nat,(Instr.lookup 112 (.map (some ms)) (.string s) true).run Tryz.prog w=.ok (.tuple #[.int .i64 i,.bool (decide (s ∈ l.map dM))]) w:=by
 by_cases hm:s ∈ l.map dM
 ·obtain ⟨a,ha,rfl⟩:=List.mem_map.1 hm
  refine ⟨nr,?_⟩;rw [decide_eq_true hm];exact kH lu trivial true Tryz.underlying112 h (List.mem_map.2 ⟨a,ha,rfl⟩)
 ·refine ⟨0,?_⟩
  rw [decide_eq_false hm]
  have y:∀ p ∈ x9 nr l,p.1 ≠ .string s:=fun p hp e=>by
   obtain ⟨a,ha,rfl⟩:=List.mem_map.1 hp;simp at e;exact hm (List.mem_map.2 ⟨a,ha,e⟩)
  obtain ⟨⟨es,ck,hb,hL⟩,h2,h3⟩:=h;rw [← hL] at h2 y;have I:∀ e ∈ es.toList,isStr e.key:=fun e he=>h2 (e.key,e.val) (List.mem_map.2 ⟨e,he,rfl⟩)
  rcases iZ lu (w:=w) trivial (k:=.string s) ⟨s,rfl,U⟩ es.toList I with ⟨h5,h6⟩ | ⟨i,J,h5,h6,h7⟩
  ·simp [Instr.lookup,run_underlying Tryz.underlying112,MapKept.run_getObj_map hb,lu.check w _ ⟨s,rfl,U⟩,h5,Result.andThen]
  ·exact absurd h7 (y (J.key,J.val) (List.mem_map.2 ⟨J,List.mem_of_getElem? h6,rfl⟩))
theorem D.Tm {S:Value→Prop} {b:Nat} {L:List (Value × Value)} {w:World} (h:gq S b L w) (y:TypeId):(Builtin.len_ #[112] y #[.map (some b)]).run Tryz.prog w=.ok (.int .i64 L.length) w:=by
 obtain ⟨⟨es,I,J,U⟩,_,_⟩:=h;have e:L.length=es.size:=by rw [← U]; simp
 rw [e];exact run_len_map (P:=Tryz.prog) (w:=w) 112 y b es I (by kernel_rfl) J
theorem D.PD {nr:Nat} {l:List A}:(x9 nr l).length=l.length:=by simp [x9]
structure D.pI where
 bM:Nat
 bS:Nat
 bN:Nat
 bF:Nat
 bC:Nat
 ms:Nat
 ch:Nat
 sb:Nat
 nr:Nat
def D.pI.own (x:pI):List Nat:=[x.bM,x.bS,x.bN,x.bF,x.bC,x.ms,x.ch]
def D.pI.K (x:pI) (k:Nat):Prop:=k=x.ms∨k=x.bF∨k=x.ch
def D.pI.tN (x:pI):Array Value:=#[.pointer (some ⟨x.bM,0,none⟩),.pointer (some ⟨x.bS,0,none⟩),.pointer (some ⟨x.bN,0,none⟩),.pointer (some ⟨x.bF,0,none⟩),.pointer (some ⟨x.bC,0,none⟩)]
structure D.lN (x:pI) (n0:Nat) (fs:List A) (bst:List Nat) (w:World) (told:List A) (fb:List Nat):Prop where
 cM:w.heap[x.bM]? = some (.cells #[.map (some x.ms)] 112 (0,0))
 cS:w.heap[x.bS]? = some (.cells #[.pointer (some ⟨x.sb,0,none⟩)] 103 (0,0))
 cN:w.heap[x.bN]? = some (.cells #[.int .i64 x.nr] 3 (0,0))
 cF:w.heap[x.bF]? = some (.cells #[.bool true] 4 (0,0))
 cC:w.heap[x.bC]? = some (.cells #[.chan (some x.ch)] 249 (0,0))
 sn:gq isStr x.ms (x9 x.nr (newL fs told)) w
 cH:∃ vs sd bb,w.heap[x.ch]? = some (.chan 301 ⟨vs⟩ false sd 0 false)∧GN w vs (newL fs told) bb∧∀ k ∈ bb,k ∈ fb∧n0≤k∧k ∉ x.own
 st:∃ rn,jO x.sb fs rn bst w
 few:fs.length+(newL fs told).length≤300
 tok:∀ t ∈ told,aT t
 nd:x.own.Nodup
 ow:∀ k ∈ x.own,k ∈ fb
 qM:∀ k ∈ bst,k ∈ fb∧k ∉ x.own
 lo:n0≤x.bM
 lt:∀ k ∈ fb,k < w.heap.size
structure D.qE (x:pI) (w:World) (fb:List Nat):Prop where
 cF:w.heap[x.bF]? = some (.cells #[.bool false] 4 (0,0))
 ow:∀ k ∈ x.own,k ∈ fb
 lt:∀ k ∈ fb,k < w.heap.size
def D.Tn (x:pI) (J:Nat) (fs:List A) (y:List Nat) (f:Bool) (w:World) (told:List A) (I:List Nat):Prop:=if f then lN x J fs y w told I else qE x w I
theorem D.lN.keep {x:pI} {n0:Nat} {fs:List A} {J:List Nat} {w w':World} {told:List A} {U:List Nat} (h:lN x n0 fs J w told U) (hk:∀ k ∈ U,w'.heap[k]? = w.heap[k]?) (hs:w.heap.size≤w'.heap.size):lN x n0 fs J w' told U:=by
 have I:∀ k ∈ x.own,w'.heap[k]? = w.heap[k]?:=fun k y=>hk k (h.ow k y)
 obtain ⟨vs,sd,bb,h1,h2,h3⟩:=h.cH;obtain ⟨rn,a0⟩:=h.st
 exact ⟨(I _ (by simp [pI.own])).trans h.cM,(I _ (by simp [pI.own])).trans h.cS,(I _ (by simp [pI.own])).trans h.cN,(I _ (by simp [pI.own])).trans h.cF,(I _ (by simp [pI.own])).trans h.cC,h.sn.same (I _ (by simp [pI.own])),
  ⟨vs,sd,bb,(I _ (by simp [pI.own])).trans h1,h2.keep fun k y=>hk k (h3 k y).1,h3⟩,⟨rn,a0.keep (fun k y=>hk k (h.qM k y).1) hs⟩,h.few,h.tok,h.nd,h.ow,h.qM,h.lo,fun k y=>κ (h.lt k y) hs⟩
theorem D.qE.keep {x:pI} {w w':World} {y:List Nat} (h:qE x w y) (hk:∀ k ∈ y,w'.heap[k]? = w.heap[k]?) (J:w.heap.size≤w'.heap.size):qE x w' y:=
 ⟨(hk _ (h.ow _ (by simp [pI.own]))).trans h.cF,h.ow,fun k I=>κ (h.lt k I) J⟩
theorem D.lN.same {x:pI} {I:Nat} {fs:List A} {y:List Nat} {w w':World} {told:List A} {J:List Nat} (h:lN x I fs y w told J) {a:A} (hok:aT a) (hm:a ∈ fs∨a ∈ newL fs told) (U:Below w.heap.size w w'):
  SY fs (told ++ [a])=true∧lN x I fs y w' (told ++ [a]) J:=by
 classical
 have e:newL fs (told ++ [a])=newL fs told:=by rw [yY,if_pos hm]
 refine ⟨?_,?_⟩
 ·rw [JU]
  exact decide_eq_true (hm.elim .inl fun h=>.inr (.inl h))
 ·have k:=h.keep (fun k hk=>U.block k (h.lt k hk)) U.size
  exact ⟨k.cM,k.cS,k.cN,k.cF,k.cC,e ▸ k.sn,e ▸ k.cH,k.st,e ▸ k.few,fun t ht=>(μ.1 ht).elim (k.tok t) fun h=>by rw [ώ.1 h]; exact hok,k.nd,k.ow,k.qM,k.lo,k.lt⟩
theorem DU (x:pI) (n0:Nat) (fs:List A) (aR:List Nat) (bq:∀ f ∈ fs,aT f) (told:List A) (fb:List Nat) (a:A) (c1:Value) (ba:List Nat) (b0:Nat) (w:World) (F:lN x n0 fs aR w told fb) (bc:∀ k ∈ fb,k < b0) (hn:New b0 w ba) (ha:aP w [.string a.name,c1] a ba) (hok:aT a):
  Calls Tryz.prog 167 (#[.agg #[.string a.name,c1]] ++ x.tN) w fun e w'=>e=.returned (.bool (SY fs (told ++ [a])))∧(∃ a4,Tn x n0 fs aR (SY fs (told ++ [a])) w' (told ++ [a]) a4∧∀ k ∈ a4,k ∈ fb∨b0≤k)∧fV x.K w w':=by
 obtain ⟨Ae,ce,_,rfl⟩:=bK ha;have hA:Below w.heap.size w (w.alloc (.cells #[.string a.name,.slice Ae a.args.length ce] 40)):=ζ;have aq:jl a≤16777216:=by have:=Gl hok.ok; omega
 have hT:=η (pY a (.string a.name) (.slice Ae a.args.length ce) ba _ (ak.below ha hA) aq);have hx:w.heap.size < (w.alloc (.cells #[.string a.name,.slice Ae a.args.length ce] 40)).heap.size:=by simp
 have y0:(w.alloc (.cells #[.string a.name,.slice Ae a.args.length ce] 40)).heap[w.heap.size]? = some (.cells #[.string a.name,.slice Ae a.args.length ce] 40 (0,0)):=ω _ _;have z0:(w.alloc (.cells #[.string a.name,.slice Ae a.args.length ce] 40)).cell? ⟨w.heap.size,0,none⟩=some (.string a.name):=aj y0;have z1:(w.alloc (.cells #[.string a.name,.slice Ae a.args.length ce] 40)).cell? ⟨w.heap.size,1,none⟩=some (.slice Ae a.args.length ce):=aj y0;have HF:=η F;have HA:=η hA;have bf:=η bc;have HN:=η hn;have b8:=η ha;have br:=η y0;clear F bc hn ha hA y0 aq;unfold pI.tN
 go_enter Tryz.func167,Tryz.ntmps167
 go_wp2_with fail
 refine hT.out.mono ?_;rintro e w2 ⟨rfl,ae⟩;have a5:=η (HA.out.trans (ae.mono HA.out.size));have bg:=κ hx ae.size;have z0:=ξ ae z0;have z1:=ξ ae z1;have ar:=η (HF.out.keep (fun k hk=>a5.out.block k (HF.out.lt k hk)) a5.out.size);have bh:=η (ak.below b8.out a5.out);have bi:Hid (w2.heap[w.heap.size]? = some (.cells #[.string a.name,.slice Ae a.args.length ce] 40 (0,0))):=η ((ae.block _ hx).trans br.out);clear hT ae;have a1:∀ t ∈ newL fs told,aT t:=fun t ht=>HF.out.tok t (((pq fs told).2 t).1 ht).1
 have xM:w2.cell? ⟨x.bM,0,none⟩=some (.map (some x.ms)):=aj ar.out.cM;have xS:w2.cell? ⟨x.bS,0,none⟩=some (.pointer (some ⟨x.sb,0,none⟩)):=aj ar.out.cS;have xN:w2.cell? ⟨x.bN,0,none⟩=some (.int .i64 x.nr):=aj ar.out.cN;obtain ⟨vi,b9⟩:=MX ar.out.sn (dM a) (qm hok.ok);have af:=xP a1 hok;generalize decide (dM a ∈ (newL fs told).map dM)=s1 at b9 af;unfold dM at b9
 cases s1 with
 | true=>
  have HD:=η (HF.out.same hok (.inr (af.1 rfl)) a5.out);clear af a1;go_wp2;go_ret;obtain ⟨e1,h1⟩:=HD.out;rw [e1];exact ⟨rfl,⟨fb,h1,fun k hk=>.inl hk⟩,fV.of_below a5.out⟩
 | false=>
  have y:a ∉ newL fs told:=fun h=>by have:=af.2 h; simp at this
  obtain ⟨rn,bj⟩:=ar.out.st;have a6:=yR x.sb fs rn aR a _ _ ba w2 bj bh.out hok.ok;have av:=xP bq hok;generalize decide (dM a ∈ fs.map dM)=s2 at a6 av;clear bj
  go_wp2_with fail
  refine a6.mono ?_;rintro e w3 ⟨rfl,a2⟩;clear a6 b9;have a7:=η (a5.out.trans (a2.mono a5.out.size));have xM:=ξ a2 xM;have xS:=ξ a2 xS;have xN:=ξ a2 xN;have z0:=ξ a2 z0;have z1:=ξ a2 z1;have bs:=κ bg a2.size
  cases s2 with
  | true=>
   have HD:=η (HF.out.same hok (.inl (av.1 rfl)) a7.out);clear af av a1;go_wp2;go_ret;obtain ⟨e1,h1⟩:=HD.out;rw [e1];exact ⟨rfl,⟨fb,h1,fun k hk=>.inl hk⟩,fV.of_below a7.out⟩
  | false=>
   have I:a ∉ fs:=fun h=>by have:=av.2 h; simp at this
   have J:=η (HF.out.keep (fun k hk=>a7.out.block k (HF.out.lt k hk)) a7.out.size)
   obtain ⟨w4,bk,a8,U,-⟩:=xA lu (w:=w3) trivial Tryz.underlying112 (k:=.string (dM a)) (.int .i64 x.nr) J.out.sn ⟨_,rfl,qm hok.ok⟩ (fun p hp e=>by
    obtain ⟨t,ht,rfl⟩:=List.mem_map.1 hp;simp at e
    exact y (yQ (a1 t ht).ok hok.ok e ▸ ht))
   unfold dM at bk
   go_upto_region 6 with fail
   have ag:=U.size;have nd:=HF.out.nd;simp only [pI.own,List.nodup_cons,ύ,List.not_mem_nil,or_false,not_or,List.nodup_nil,and_true,not_false_eq_true] at nd;have k4:∀ k,k < w3.heap.size→k ≠ x.ms→w4.heap[k]? = w3.heap[k]?:=fun k h1 h2=>U.block k h1 (fun e=>h2 (by injection e))
   have ko:∀ k ∈ x.own,k < w3.heap.size:=fun k hk=>J.out.lt k (J.out.ow k hk)
   have a9:=(k4 _ (ko _ (by simp [pI.own])) (by omega)).trans J.out.cS;have aa:=(k4 _ (ko _ (by simp [pI.own])) (by omega)).trans J.out.cM;have a3:=(k4 _ (ko _ (by simp [pI.own])) (by omega)).trans J.out.cF;have ab:=(k4 _ (ko _ (by simp [pI.own])) (by omega)).trans J.out.cC;have am:=(k4 _ bs (by have:=HF.out.lt x.ms (HF.out.ow _ (by simp [pI.own])); omega)).trans ((a2.block _ bg).trans (bi.out));have bt:=η (ι aa (ι a9 (ι a3 (ι ab (ι am (ι a8 (ι U (ι k4 (ι ag (ι nd (ι y I)))))))))));have c0:w4.cell? ⟨x.bS,0,none⟩=some (.pointer (some ⟨x.sb,0,none⟩)):=aj a9;have c1:w4.cell? ⟨x.bM,0,none⟩=some (.map (some x.ms)):=aj aa;have c2:w4.cell? ⟨x.bF,0,none⟩=some (.bool true):=aj a3;have c3:w4.frozen? ⟨x.bF,0,none⟩=false:=aB a3;have l2:=lt_of_cell c2;obtain ⟨bz,aw⟩:=J.out.st
   obtain ⟨Af,cf,az⟩:∃ Af cf,w3.cell? ⟨x.sb,0,none⟩=some (.slice Af fs.length cf):=by
    obtain ⟨⟨Af,cf,_,_,_,_,_,_,_,_,h1,_⟩,_,_⟩:=aw;exact ⟨Af,cf,aj h1⟩
   have c4:w4.cell? ⟨x.sb,0,none⟩=some (.slice Af fs.length cf):=(World.cell?_of_block (k4 _ (lt_of_cell az) (fun e=>(J.out.qM _ aw.own).2 (by have e:x.sb=x.ms:=e; rw [e]; simp [pI.own])))).trans az
   have bu:∀ ty,(Builtin.len_ #[112] ty #[.map (some x.ms)]).run Tryz.prog w4.drew=.ok (.int .i64 ((newL fs told).length+1:Nat)) w4.drew:=fun ty=>by
    have:=Tm (w:=w4.drew) (a8.same rfl) ty;simpa [PD] using this
   have bx:=HF.out.few;have bA:(0:Int)≤fs.length:=by omega
   have bB:(0:Int)≤((newL fs told).length+1:Nat):=by omega
   have bE:(fs.length:Int)+((newL fs told).length+1:Nat)≤301:=by omega
   clear aw az bk a9 aa a3 ab am a8 U ag nd k4 ko y I af av a1 xM xS xN z0 z1;go_region;clear c0 c1 c2 c3 c4 bu l2;obtain ⟨aa,a9,a3,ab,am,a8,U,k4,ag,nd,y,I⟩:=bt.out
   have ac:newL fs (told ++ [a])=newL fs told ++ [a]:=by
    classical
    rw [yY,if_neg (fun h=>h.elim I y)]
   have b1:SY fs (told ++ [a])=decide ((fs.length:Int)+((newL fs told).length+1)≤300):=by
    classical
    rw [JU];refine decide_eq_decide.2 ⟨fun h=>?_,fun h=>?_⟩
    ·rcases h with h | h | h
     ·exact absurd h I
     ·exact absurd h y
     ·rw [ac,χ,List.length_singleton] at h; omega
    ·rw [ac,χ,List.length_singleton]; exact .inr (.inr (by omega))
   have bl:∀ v,(w4.setCell ⟨x.bF,0,none⟩ v).drew.heap[x.bF]? = some (.cells #[v] 4 (0,0)):=fun v=>by
    have:=bY (o:=0) (u:=v) a3;exact this
   have k5:∀ v k,k ≠ x.bF→(w4.setCell ⟨x.bF,0,none⟩ v).drew.heap[k]? = w4.heap[k]?:=fun v k hk=>π _ _ _ _ hk
   have s5:∀ v,(w4.setCell ⟨x.bF,0,none⟩ v).drew.heap.size=w4.heap.size:=fun v=>by simp [World.setCell]
   have bn:∀ v,fV x.K w (w4.setCell ⟨x.bF,0,none⟩ v).drew:=fun v=>by
    have h3:=a7.out;refine ⟨U.os.trans h3.os,U.tape.trans h3.tape,U.output.trans h3.output,?_,fun k hk hK=>?_⟩
    ·rw [s5]; exact τ h3.size ag
    ·rw [k5 _ _ (fun e=>hK (.inr (.inl e))),k4 k (κ hk h3.size) (fun e=>hK (.inl e)),h3.block k hk]
   rw [← b1];generalize hgv:SY fs (told ++ [a])=g at *;generalize hW:(w4.setCell ⟨x.bF,0,none⟩ (.bool g)).drew=W5 at *;have aD:=hW ▸ bl (.bool g);have k6:=fun k hk=>hW ▸ k5 (.bool g) k hk
   have s6:=hW ▸ s5 (.bool g);have a0:=hW ▸ bn (.bool g);clear bl k5 s5 bn hW;have q0:W5.cell? ⟨x.bF,0,none⟩=some (.bool g):=aj aD;have ao:∀ k ∈ x.own,k < w.heap.size:=fun k hk=>HF.out.lt k (HF.out.ow k hk)
   have bL:=ao x.bF (by simp [pI.own]);have q1:W5.cell? ⟨x.bC,0,none⟩=some (.chan (some x.ch)):=aj ((k6 _ (by omega)).trans ab);have b4:=(k6 w.heap.size (by omega)).trans am;have q2:W5.cell? ⟨w.heap.size,0,none⟩=some (.string a.name):=aj b4;have q3:W5.cell? ⟨w.heap.size,1,none⟩=some (.slice Ae a.args.length ce):=aj b4
   cases g with
   | false=>
    have HD:Hid (qE x W5 fb∧fV x.K w W5):=η ⟨⟨aD,HF.out.ow,fun k hk=>κ (HF.out.lt k hk) a0.size⟩,a0⟩;clear b1 ac aa a9 a3 ab am a8 U k4 ag nd y I aD k6 s6 a0 b4 ao;go_wp2;go_ret;rw [hgv];exact ⟨rfl,⟨fb,HD.out.1,fun k hk=>.inl hk⟩,HD.out.2⟩
   | true=>
    have bO:=of_decide_eq_true b1.symm;clear b1
    go_upto_region 8 with fail
    refine uU ?_;obtain ⟨vs,sd,bb,b6,aE,ap⟩:=J.out.cH;have aL:W5.heap[x.ch]? = some (.chan 301 ⟨vs⟩ false sd 0 false):=(k6 _ (by omega)).trans ((k4 _ (κ (ao _ (by simp [pI.own])) a7.out.size) (by omega)).trans b6);have hlen:=aE.len;refine sF (i:=0) (by rfl) (by rfl) (v:=.chan (some x.ch)) (w':=W5) (by go_simp) ?_;refine sF (i:=1) (by rfl) (by rfl) (v:=.agg #[.string a.name,.slice Ae a.args.length ce]) (w':=W5) (by go_simp) ?_;refine Qv (i:=2) (w':=W5) (v:=.agg #[.string a.name,.slice Ae a.args.length ce]) (by rfl) (by rfl) (by go_simp; rfl) aL (by show vs.length < 301; omega) ?_;refine FC (show Exit.then _ _ Exit.normal _ _ from ?_);have bo:x.ch < W5.heap.size:=ψ aL;have bp:=Go.Conc.heap_setChan W5 x.ch 301 ((⟨vs⟩:Array Value).push (.agg #[.string a.name,.slice Ae a.args.length ce])) false (sd+1) 0 false bo
    have k7:∀ k,k ≠ x.ch→(W5.setChan x.ch 301 ((⟨vs⟩:Array Value).push (.agg #[.string a.name,.slice Ae a.args.length ce])) false (sd+1) 0 false).heap[k]? = W5.heap[k]?:=fun k hk=>by
     simp only [World.setChan]; rw [Array.getElem?_setIfInBounds_ne (by omega)]
    have s7:(W5.setChan x.ch 301 ((⟨vs⟩:Array Value).push (.agg #[.string a.name,.slice Ae a.args.length ce])) false (sd+1) 0 false).heap.size=W5.heap.size:=by simp [World.setChan]
    have o7:(W5.setChan x.ch 301 ((⟨vs⟩:Array Value).push (.agg #[.string a.name,.slice Ae a.args.length ce])) false (sd+1) 0 false).os=W5.os∧(W5.setChan x.ch 301 ((⟨vs⟩:Array Value).push (.agg #[.string a.name,.slice Ae a.args.length ce])) false (sd+1) 0 false).tape=W5.tape∧(W5.setChan x.ch 301 ((⟨vs⟩:Array Value).push (.agg #[.string a.name,.slice Ae a.args.length ce])) false (sd+1) 0 false).output=W5.output:=⟨rfl,rfl,rfl⟩;generalize W5.setChan x.ch 301 ((⟨vs⟩:Array Value).push (.agg #[.string a.name,.slice Ae a.args.length ce])) false (sd+1) 0 false=W7 at *;have q0:W7.cell? ⟨x.bF,0,none⟩=some (.bool true):=(World.cell?_of_block (k7 _ (by show x.bF ≠ x.ch; omega))).trans q0
    have HD:Hid ((∃ a4,lN x n0 fs aR W7 (told ++ [a]) a4∧∀ k ∈ a4,k ∈ fb∨b0≤k)∧fV x.K w W7):=η (by
     have h3:=a7.out;have b3:=HF.out;have b5:w.heap.size≤W7.heap.size:=by rw [s7]; exact a0.size
     have kk:∀ k,k < w.heap.size→k ∉ x.own→W7.heap[k]? = w.heap[k]?:=fun k hk bv=>by
      simp only [pI.own,ύ,List.not_mem_nil,or_false,not_or] at bv;rw [k7 k (by omega),k6 k (by omega),k4 k (κ hk h3.size) (by omega),h3.block k hk]
     have aM:∀ k ∈ ba,b0≤k∧k < w.heap.size∧k ∉ x.own:=fun k hk=>by
      have h1:=HN.out.own k hk;exact ⟨h1.1,(ak.lt b8.out k hk),fun hm=>by have:=bf.out k (b3.ow k hm); omega⟩
     obtain ⟨bw,b7⟩:=b3.st;refine ⟨⟨fb ++ ba,⟨?_,?_,?_,?_,?_,?_,⟨vs ++ [.agg #[.string a.name,.slice Ae a.args.length ce]],sd+1,bb ++ ba,?_,?_,?_⟩,⟨bw,b7.keep (fun k hk=>kk k (b7.lt k hk) (b3.qM k hk).2) b5⟩,?_,?_,b3.nd,?_,?_,b3.lo,?_⟩,?_⟩,?_⟩
     ·rw [k7 _ (by omega),k6 _ (by omega)]; exact aa
     ·rw [k7 _ (by omega),k6 _ (by omega)]; exact a9
     ·rw [k7 _ (by omega),k6 _ (by omega),k4 _ (κ (ao _ (by simp [pI.own])) h3.size) (by omega),h3.block _ (ao _ (by simp [pI.own]))]; exact b3.cN
     ·rw [k7 _ (by omega)]; exact aD
     ·rw [k7 _ (by omega),k6 _ (by omega)]; exact ab
     ·rw [ac]
      have e:x9 x.nr (newL fs told ++ [a])=x9 x.nr (newL fs told) ++ [(.string (dM a),.int .i64 (x.nr:Nat))]:=by simp [x9]
      rw [e];exact a8.same (by rw [k7 _ (by omega),k6 _ (by omega)])
     ·rw [bp]; simp
     ·rw [ac]
      have hw:GN w vs (newL fs told) bb:=aE.keep fun k hk=>(h3.block k (b3.lt k (ap k hk).1)).symm
      exact (hw.keep fun k hk=>kk k (b3.lt k (ap k hk).1) (ap k hk).2.2).snoc (ak.keep b8.out fun k hk=>kk k (aM k hk).2.1 (aM k hk).2.2)
     ·intro k hk
      rcases μ.1 hk with hk | hk
      ·exact ⟨Ξ _ (ap k hk).1,(ap k hk).2⟩
      ·have h1:=aM k hk
       have h2:=bf.out x.bM (b3.ow _ (by simp [pI.own]));have h4:=b3.lo;exact ⟨Ω _ hk,by omega,h1.2.2⟩
     ·rw [ac,χ,List.length_singleton]; omega
     ·intro t ht
      rcases μ.1 ht with ht | ht
      ·exact b3.tok t ht
      ·rw [ώ.1 ht]; exact hok
     ·exact fun k hk=>Ξ _ (b3.ow k hk)
     ·exact fun k hk=>⟨Ξ _ (b3.qM k hk).1,(b3.qM k hk).2⟩
     ·intro k hk
      rcases μ.1 hk with hk | hk
      ·exact κ (b3.lt k hk) b5
      ·exact κ (aM k hk).2.1 b5
     ·intro k hk
      rcases μ.1 hk with hk | hk
      ·exact .inl hk
      ·exact .inr (aM k hk).1
     ·exact ⟨o7.1.trans a0.os,o7.2.1.trans a0.tape,o7.2.2.trans a0.output,b5,fun k hk hK=>(k7 k (fun e=>hK (.inr (.inr e)))).trans (a0.block k hk hK)⟩)
    clear ac aa a9 a3 ab am a8 U k4 ag nd y I aD k6 s6 a0 b4 ao k7 s7 o7 bp aL aE ap b6;go_wp2;go_ret;rw [hgv];obtain ⟨⟨a4,h1,h2⟩,h3⟩:=HD.out;exact ⟨rfl,⟨a4,h1,h2⟩,h3⟩
theorem D.PE (x:pI) (n0:Nat) (fs:List A) (y:List Nat) (J:∀ f ∈ fs,aT f):VP 167 x.tN x.K (Tn x n0 fs y) (SY fs):=by
 refine ⟨enters_of Tryz.func167 (by kernel_rfl) rfl,fun {f w told I} h=>?_,fun {f w told I} h k hk=>?_,fun {f w w' told I} h hk hs=>?_,fun w told I a c1 ba b0 h U hn ha hok=>DU x n0 fs y J told I a c1 ba b0 w h U hn ha hok⟩
 ·cases f with
  | true=>exact lN.lt h
  | false=>exact qE.lt h
 ·have ho:k ∈ x.own:=by
   rcases hk with rfl | rfl | rfl <;> simp [pI.own]
  cases f with
  | true=>exact lN.ow h k ho
  | false=>exact qE.ow h k ho
 ·cases f with
  | true=>exact lN.keep h hk hs
  | false=>exact qE.keep h hk hs
theorem MZ (rs:List Ru) (xs ys:List A) (a7:iF xs=true) (a8:xs.length≤16777216) (n:Nat) (p:Pf) (c0 c1 c2 c3 vr vx vy:Value) (bs br bx:List Nat) (w:World) (h:dP n w [c0,c1,c2,c3] p bs) (hR:dD w [vr] rs br) (hX:aQ w [vx] xs bx) (hs:aK p≤16777216)
  (y:p.rule = -1∨¬ (0≤p.rule∧p.rule < (rs.length:Int))∨aW p.fact=false):
  Calls Tryz.prog 43 #[vr,vx,vy,.agg #[c0,c1,c2,c3]] w fun e w'=>e=.returned (.bool (jw rs xs ys p))∧Below w.heap.size w w':=by
 cases n with
 | zero=>exact h.elim
 | succ n=>
 obtain ⟨Ad,cap,Ae,a3,b1,b2,rfl,rfl,rfl,rfl,rfl,U,a1,hq⟩:=gV h;obtain ⟨Ar,cr,rfl,a4,a5⟩:=ai hR;have a9:=ay (τ a4 a5);have ac:p.kids.length≤16777216:=by have:=AA p; omega
 have hA:Below w.heap.size w (w.alloc (.cells #[.string p.fact.name,.slice Ad p.fact.args.length cap,.int .i64 p.rule,.slice Ae p.kids.length a3] 43)):=(Below.refl w.heap.size w).alloc ν _;have HH:=η (fun w' (hb:Below w.heap.size w w')=>ND xs p.fact vx _ _ bx b1 w' (au.below hX hb) (ak.below a1 hb) a7 a8);have HF:=η (fun w' (hb:Below w.heap.size w w')=>ql p.fact _ _ b1 w' (ak.below a1 hb));have HA:=η hA;have HG:=η (fun h:p.rule = -1=>JZ (rs:=rs) (xs:=xs) (ys:=ys) h);have HO:=η (fun (h:p.rule ≠ -1) h2=>Py (rs:=rs) (xs:=xs) (ys:=ys) h h2);have HI:=η (fun (i:Nat) (h:p.rule=i) (hi:i < rs.length)=>(J3 (rs:=rs) (xs:=xs) (ys:=ys) h hi));have HE:Hid (p.kids.isEmpty=true ↔ p.kids.length=0):=η (by cases p.kids <;> simp);have I:Hid (∀ i:Nat,p.rule=i→i < rs.length→aW p.fact=false→jw rs xs ys p=false):=η fun i h1 h2 h3=>by rw [HI.out i h1 h2,h3]; rfl
 clear a4 a5 hR hX h a1 hq hs hA HI;generalize jw rs xs ys p=OUT at *;by_cases hr:p.rule = -1
 ·have J:=η (HG.out hr)
  clear HG HO I y U HF;generalize p.kids=ks at *;generalize p.fact=f at *;generalize p.rule=ru at *;subst hr;by_cases a0:ks.length=0
  ·have hz:=HE.out.2 a0
   rw [hz,Bool.true_and] at J;obtain rfl:ks = []:=List.eq_nil_of_length_eq_zero a0;clear hz a0 HE;simp only [List.length_nil] at *
   go_enter Tryz.func43,Tryz.ntmps43
   go_wp2_with (go_at_call 83; refine (HH.out _ HA.out).mono ?_; rintro e w1 ⟨rfl,a2⟩)
   go_wp2;go_ret;exact ⟨aA J.out.symm,HA.out.trans (a2.mono HA.out.size)⟩
  ·have hz:ks.isEmpty=false:=by rw [Bool.eq_false_iff]; exact fun e=>a0 (HE.out.1 e)
   rw [hz,Bool.false_and] at J;have ae:¬ (ks.length:Int)=0:=by omega
   go_enter Tryz.func43,Tryz.ntmps43
   go_wp2;go_ret;exact ⟨aA J.out.symm,HA.out⟩
 ·by_cases aa:p.rule < 0
  ·have J:Hid (OUT=false):=η (HO.out hr (by omega))
   clear HG HO I y U HF HH HE;generalize p.rule=ru at *
   go_enter Tryz.func43,Tryz.ntmps43
   go_wp2;go_ret;exact ⟨aA J.out.symm,HA.out⟩
  ·by_cases ab:(rs.length:Int)≤p.rule
   ·have J:Hid (OUT=false):=η (HO.out hr (by omega))
    clear HG HO I y U HF HH HE;generalize p.rule=ru at *
    go_enter Tryz.func43,Tryz.ntmps43
    go_wp2;go_ret;exact ⟨aA J.out.symm,HA.out⟩
   ·have a6:aW p.fact=false:=by
     rcases y with h | h | h
     ·exact absurd h hr
     ·omega
     ·exact h
    have J:Hid (OUT=false):=η (I.out p.rule.toNat (by omega) (by omega) a6);rw [a6] at HF;clear HG HO I y U HH HE;generalize p.rule=ru at *
    go_enter Tryz.func43,Tryz.ntmps43
    go_wp2_with (go_at_call 64; refine (HF.out _ HA.out).mono ?_; rintro e w1 ⟨rfl,a2⟩)
    go_wp2;go_ret;exact ⟨aA J.out.symm,HA.out.trans (a2.mono HA.out.size)⟩
end
section
open Go.Shelf Go.RowKit Go.Lib Go.Sort D
structure D.Fc where
 t:A
 c1:Value
def D.Fc.enc (x:Fc):List Value:=[.string x.t.name,x.c1]
abbrev D.ny (w:World) (g:Nat):={ x:Fc // ∃ ba,aP w [.string x.t.name,x.c1] x.t ba∧g ∉ ba }
def D.ny.enc {w:World} {g:Nat} (x:ny w g):List Value:=x.1.enc
def D.ny.cf {w:World} {g:Nat} (x y:ny w g):Int:=dJ x.1.t y.1.t
theorem D.tu (w:World) (g:Nat) (f:Array Value→Array Value) {x:Nat} (h:x ≠ g):(mapBlock w g f).heap[x]? = w.heap[x]?:=by
 simp only [mapBlock,Array.getElem?_modify];rw [if_neg (fun e=>h e.symm)]
theorem D.J5 {α:Type} [Inhabited α] (enc:α→List Value) (k:Nat) (w:World) (g n:Nat) (d:Array α) (os:Array Obj) {x:Nat} (y:x < w.heap.size) (h:x ≠ g):(sortWorldK enc k w g 0 n d os).heap[x]? = w.heap[x]?:=by
 unfold sortWorldK
 have I:(grow (putRowK enc k (Go.Sort.ahead w n) g 0 d) os).heap[x]? = (putRowK enc k (Go.Sort.ahead w n) g 0 d).heap[x]?:=by
  show (_ ++ os)[x]? = _;rw [Array.getElem?_append_left (by rw [size_putRowK]; exact y)]
 rw [I];exact tu (Go.Sort.ahead w n) g _ h
theorem D.PG {α:Type} [Inhabited α] (enc:α→List Value) (k:Nat) (w:World) (g n:Nat) (d:Array α) (os:Array Obj) {I:Array Value} {e:TypeId} (h:w.heap[g]? = some (.cells I e (0,0))):∃ y,(sortWorldK enc k w g 0 n d os).heap[g]? = some (.cells y e (0,0))∧y.size=I.size:=by
 have J:g < w.heap.size:=(Array.getElem?_eq_some_iff.1 h).1;unfold sortWorldK
 have U:(grow (putRowK enc k (Go.Sort.ahead w n) g 0 d) os).heap[g]? = (putRowK enc k (Go.Sort.ahead w n) g 0 d).heap[g]?:=by
  show (_ ++ os)[g]? = _;rw [Array.getElem?_append_left (by rw [size_putRowK]; exact J)]
 refine ⟨putCells id 0 (flatK enc k d) I,?_,?_⟩
 ·rw [U]
  show (mapBlock (Go.Sort.ahead w n) g (putCells id 0 (flatK enc k d))).heap[g]? = _;simp only [mapBlock,Array.getElem?_modify];rw [if_pos trivial];show (w.heap[g]?).map _=_;rw [h];rfl
 ·simp [putCells]
theorem D.EP {α:Type} [Inhabited α] (enc:α→List Value) (k:Nat) (w:World) (g n:Nat) (d:Array α) (os:Array Obj) (I:g < w.heap.size):fV (fun x=>x=g) w (sortWorldK enc k w g 0 n d os):=
 ⟨rfl,rfl,rfl,size_sortWorldK_c enc k w g 0 n d os,fun x y h=>J5 enc k w g n d os y h⟩
theorem D.UR {w:World} {g:Nat}:SWO (ltOf (ny.cf (w:=w) (g:=g))) where
 irrefl x:=by unfold ltOf ny.cf; rw [sD]; rfl
 trans x y z h1 h2:=by
  unfold ltOf ny.cf at *;simp only [decide_eq_true_eq] at *;rw [jP] at *;exact (lS gK).nG h1 (by omega)
 ntrans x y z h1 h2:=by
  unfold ltOf ny.cf at *;simp only [decide_eq_false_iff_not] at *;rw [jP] at *;have I:=(lS gK).anti (qJ x.1.t) (qJ y.1.t);have J:=(lS gK).anti (qJ y.1.t) (qJ z.1.t);have U:=(lS gK).anti (qJ x.1.t) (qJ z.1.t);have a4:=(lS gK).trans (qJ z.1.t) (qJ y.1.t) (qJ x.1.t) (by omega) (by omega);omega
theorem DV (g cap:Nat) (xs:List Fc) (w:World) (hg:g < w.heap.size) (hc:∀ k x,xs[k]? = some x→w.cell? ⟨g,k * 2,none⟩=some (.string x.t.name)∧w.cell? ⟨g,k * 2+1,none⟩=some x.c1) (a8:∀ q,w.frozen? ⟨g,q,none⟩=false)
  (a3:∀ x ∈ xs,∃ ba,aP w [.string x.t.name,x.c1] x.t ba∧g ∉ ba) (a9:xs.length < 4611686018427387904):
  Calls Tryz.prog 81 #[.slice (some ⟨g,0,none⟩) xs.length cap,.func (.func 82) #[] #[]] w fun e w'=>e=.returned (.tuple #[])∧
   ∃ ys:List Fc,ys.Perm xs∧ys.Pairwise (fun a b=>¬ dJ b.t a.t < 0)∧(∀ k y,ys[k]? = some y→w'.cell? ⟨g,k * 2,none⟩=some (.string y.t.name)∧w'.cell? ⟨g,k * 2+1,none⟩=some y.c1)∧fV (fun x=>x=g) w w'∧
    ∀ I e,w.heap[g]? = some (.cells I e (0,0))→∃ a0,w'.heap[g]? = some (.cells a0 e (0,0))∧a0.size=I.size:=by
 cases hx:xs with
 | nil=>
  refine (AnyF.slices_SortFunc_none Tryz.sortA (some ⟨g,0,none⟩) cap (.func (.func 82) #[] #[]) w).mono ?_;rintro e w' ⟨rfl,rfl⟩;exact ⟨rfl,[],List.Perm.refl _,List.Pairwise.nil,fun k y h=>by simp at h,fV.refl _ _,fun I e h=>⟨I,h,rfl⟩⟩
 | cons x0 rest=>
  rw [← hx];have aa:x0 ∈ xs:=by rw [hx]; exact Γ
  letI:Inhabited (ny w g):=⟨⟨x0,a3 x0 aa⟩⟩
  obtain ⟨L,hL⟩:∃ L:List (ny w g),L=xs.attach.map (fun x=>⟨x.1,a3 x.1 x.2⟩):=⟨_,rfl⟩;have a1:L.map (·.1)=xs:=by rw [hL,List.map_map]; exact List.attach_map_subtype_val xs
  have hlen:L.length=xs.length:=by rw [← a1]; simp
  have a4:∀ (d:List (ny w g)) (i:Nat) (h:i < d.length),d.toArray[i]! = d[i]:=fun d i h=>by simp [getElem!_pos,h]
  have hH:HoldsK ny.enc 2 w g 0 L.toArray:=by
   intro j hj;simp only [size_flatK,List.size_toArray] at hj;refine ⟨?_,a8 _⟩;show w.cell? _=some ((flatK ny.enc 2 L.toArray)[j]!);rw [get_flatK _ _ _ _ (by simpa using hj),a4 L (j / 2) (by omega)];have h1:=hc (j / 2) (L[j / 2]'(by omega)).1 (by rw [← a1,List.getElem?_map,Ψ (by omega)]; rfl);have e:0+j=j / 2 * 2+j % 2:=by omega
   rw [e]
   rcases (show j % 2=0∨j % 2=1 by omega) with h | h
   ·rw [h]; exact h1.1
   ·rw [h]; exact h1.2
  have a5:CmpLays Tryz.prog 82 #[] ny.enc 2 (ny.cf (w:=w) (g:=g)) g 0 L.toArray.size w:=fun m os dk ae x y=>by
   obtain ⟨b1,h1,n1⟩:=x.2;obtain ⟨b2,h2,n2⟩:=y.2;have hb:=EP ny.enc 2 w g m dk os hg;refine (BR x.1.t y.1.t (.string x.1.t.name) x.1.c1 (.string y.1.t.name) y.1.c1 b1 b2 (sortWorldK ny.enc 2 w g 0 m dk os) (ak.keep h1 fun b J=>hb.block b (ak.lt h1 b J) (fun e=>n1 (e ▸ J))) (ak.keep h2 fun b J=>hb.block b (ak.lt h2 b J) (fun e=>n2 (e ▸ J)))).mono ?_;rintro e w' ⟨rfl,ab⟩;exact ⟨rfl,ab.is⟩
  have U:=AnyQ.slices_SortFunc Tryz.sortA 2 Tryz.isAgg40 Tryz.sizeOf40 ny.enc (fun x=>rfl) (fun x v hv=>by
   obtain ⟨b1,h1,_⟩:=x.2;obtain ⟨Ad,cc,_,h3⟩:=bK h1;unfold ny.enc Fc.enc at hv;rw [h3] at hv;simp at hv
   rcases hv with rfl | rfl <;> rfl) ny.cf UR 82 #[] g 0 cap L.toArray w (enters_of Tryz.func82 (by kernel_rfl) rfl) a5 hH hg (by simpa [hlen] using a9)
  have hs:L.toArray.size=xs.length:=by simp [hlen]
  rw [hs] at U;change Calls Tryz.prog 81 _ _ _ at U;refine U.mono ?_;rintro e w' ⟨rfl,d',n,os,hp,a6,rfl⟩;have hd:d'.size=xs.length:=by rw [hp.1,hs]
  have a7:=holdsK_sortWorldK_c ny.enc 2 w g 0 L.toArray d' n os hH hg (by rw [hp.1]);refine ⟨rfl,d'.toList.map (·.1),?_,?_,fun k y hk=>?_,EP _ _ _ _ _ _ _ hg,fun I e h=>PG _ _ _ _ _ _ _ h⟩
  ·have h3:=hp.2.2
   rw [Array.extract_eq_self_of_le (by omega),Array.extract_eq_self_of_le (by omega)] at h3;have h4:=h3.map (·.1)
   rwa [List.toList_toArray,a1] at h4
  ·refine List.pairwise_map.2 (List.pairwise_iff_getElem.2 fun i j hi hj ac=>?_)
   have h3:=a6 i j ε ac (by simp at hj; omega);rw [getElem!_pos d' i (by simpa using hi),getElem!_pos d' j (by simpa using hj)] at h3;unfold ltOf ny.cf at h3;simpa using h3
  ·obtain ⟨z,hz,rfl⟩:∃ z,d'[k]? = some z∧z.1=y:=by
    rw [List.getElem?_map] at hk;obtain ⟨z,hz,rfl⟩:=Option.map_eq_some_iff.1 hk;exact ⟨z,by simpa using hz,rfl⟩
   obtain ⟨a2,rfl⟩:=Array.getElem?_eq_some_iff.1 hz;have c0:=(a7.cell (i:=k) (c:=0) a2 (by omega)).1;have c1:=(a7.cell (i:=k) (c:=1) a2 (by omega)).1;rw [getElem!_pos d' k a2] at c0 c1;rw [Nat.zero_add] at c0 c1;exact ⟨c0,c1⟩
end
end Go.Proofs.YtlmngncogomgeaaGreatDoor
