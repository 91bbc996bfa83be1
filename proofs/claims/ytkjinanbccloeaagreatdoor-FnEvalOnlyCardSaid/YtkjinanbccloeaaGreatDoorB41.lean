/- Of the proof of FnEvalOnly: RndI, FndI, SFn. -/
import Derived.Test.YtkjinanbccloeaaGreatDoorB40
set_option linter.unusedVariables false
set_option maxHeartbeats 4000000
set_option maxRecDepth 100000
namespace Go.Proofs.YtkjinanbccloeaaGreatDoor
section
open Go.RowKit D
attribute [local go_sem ↓] Go.wp_at_zero Go.wp_at_succ
def D.Ir (w:World):List Value→List A→List Nat→Prop
 | [],[],b=>b = []
 | v :: vs,a :: l,b=>∃ c y I,v=.agg #[.string a.name,c]∧b=y ++ I∧aG w [.string a.name,c] a y∧Ir w vs l I
 | _,_,_=>False
theorem D.Ir.len {w:World}:∀ {vs:List Value} {l:List A} {b:List Nat},Ir w vs l b→vs.length=l.length
 | [],[],_,_=>rfl
 | v :: vs,a :: l,b,h=>by
  obtain ⟨_,_,_,_,_,_,h⟩:=h;simp [h.len]
 | [],a :: l,_,h=>h.elim
 | v :: vs,[],_,h=>h.elim
theorem D.Ir.keep {w w':World}:∀ {vs:List Value} {l:List A} {b:List Nat},Ir w vs l b→(∀ x ∈ b,w'.heap[x]? = w.heap[x]?)→Ir w' vs l b
 | [],[],_,h,_=>h
 | v :: vs,a :: l,b,h,hk=>by
  obtain ⟨c,I,J,h1,U,h3,h4⟩:=h;subst U;exact ⟨c,I,J,h1,rfl,aj.keep h3 fun x y=>hk x (Ξ _ y),h4.keep fun x y=>hk x (Ω _ y)⟩
 | [],a :: l,_,h,_=>h.elim
 | v :: vs,[],_,h,_=>h.elim
theorem D.Ir.lt {w:World}:∀ {vs:List Value} {l:List A} {b:List Nat},Ir w vs l b→∀ x ∈ b,x < w.heap.size
 | [],[],b,h,x,y=>by rw [show b = [] from h] at y; simp at y
 | v :: vs,a :: l,b,h,x,y=>by
  obtain ⟨c,b1,b2,h1,I,J,U⟩:=h;subst I
  rcases μ.1 y with y | y
  ·exact aj.lt J x y
  ·exact U.lt x y
 | [],a :: l,_,h,_,_=>h.elim
 | v :: vs,[],_,h,_,_=>h.elim
theorem D.Ir.snoc {w:World} {a:A} {c:Value} {ba:List Nat} (ha:aG w [.string a.name,c] a ba):∀ {vs:List Value} {l:List A} {b:List Nat},Ir w vs l b→Ir w (vs ++ [.agg #[.string a.name,c]]) (l ++ [a]) (b ++ ba)
 | [],[],b,h=>by
  rw [show b = [] from h];exact ⟨c,ba,[],rfl,by simp,ha,rfl⟩
 | v :: vs,a' :: l,b,h=>by
  obtain ⟨y,I,J,h1,U,h3,h4⟩:=h;subst U;exact ⟨y,I,J ++ ba,h1,by simp,h3,h4.snoc ha⟩
 | [],a :: l,_,h=>h.elim
 | v :: vs,[],_,h=>h.elim
def D.xG (nr:Nat) (l:List A):List (Value × Value):=l.map fun a=>(.string (bU a),.int .i64 (nr:Nat))
theorem D.N7 {nr ms:Nat} {l:List A} {w:World} (h:gm isStr ms (xG nr l) w) (s:ByteArray) (U:s.size≤maxLen):
  ∃ i:Nat,(Instr.lookup 116 (.map (some ms)) (.string s) true).run Tryz.prog w=.ok (.tuple #[.int .i64 i,.bool (decide (s ∈ l.map bU))]) w:=by
 by_cases hm:s ∈ l.map bU
 ·obtain ⟨a,ha,rfl⟩:=List.mem_map.1 hm
  refine ⟨nr,?_⟩;rw [decide_eq_true hm];exact kP jl trivial true Tryz.underlying116 h (List.mem_map.2 ⟨a,ha,rfl⟩)
 ·refine ⟨0,?_⟩
  rw [decide_eq_false hm]
  have y:∀ p ∈ xG nr l,p.1 ≠ .string s:=fun p hp e=>by
   obtain ⟨a,ha,rfl⟩:=List.mem_map.1 hp;simp at e;exact hm (List.mem_map.2 ⟨a,ha,e⟩)
  obtain ⟨⟨es,ck,hb,hL⟩,h2,h3⟩:=h;rw [← hL] at h2 y;have I:∀ e ∈ es.toList,isStr e.key:=fun e he=>h2 (e.key,e.val) (List.mem_map.2 ⟨e,he,rfl⟩)
  rcases kC jl (w:=w) trivial (k:=.string s) ⟨s,rfl,U⟩ es.toList I with ⟨h5,h6⟩ | ⟨i,J,h5,h6,h7⟩
  ·simp [Instr.lookup,run_underlying Tryz.underlying116,MapKept.run_getObj_map hb,jl.check w _ ⟨s,rfl,U⟩,h5,Result.andThen]
  ·exact absurd h7 (y (J.key,J.val) (List.mem_map.2 ⟨J,List.mem_of_getElem? h6,rfl⟩))
theorem D.UD {S:Value→Prop} {b:Nat} {L:List (Value × Value)} {w:World} (h:gm S b L w) (y:TypeId):(Builtin.len_ #[116] y #[.map (some b)]).run Tryz.prog w=.ok (.int .i64 L.length) w:=by
 obtain ⟨⟨es,I,J,U⟩,_,_⟩:=h;have e:L.length=es.size:=by rw [← U]; simp
 rw [e];exact run_len_map (P:=Tryz.prog) (w:=w) 116 y b es I (by kernel_rfl) J
theorem D.Qw {nr:Nat} {l:List A}:(xG nr l).length=l.length:=by simp [xG]
structure D.pI where
 bM:Nat
 bS:Nat
 bN:Nat
 bF:Nat
 bC:Nat
 ms:Nat
 ch:Nat
 sb:Nat
 nr:Nat
def D.pI.own (x:pI):List Nat:=[x.bM,x.bS,x.bN,x.bF,x.bC,x.ms,x.ch]
def D.pI.K (x:pI) (k:Nat):Prop:=k=x.ms∨k=x.bF∨k=x.ch
def D.pI.ug (x:pI):Array Value:=#[.pointer (some ⟨x.bM,0,none⟩),.pointer (some ⟨x.bS,0,none⟩),.pointer (some ⟨x.bN,0,none⟩),.pointer (some ⟨x.bF,0,none⟩),.pointer (some ⟨x.bC,0,none⟩)]
structure D.lY (x:pI) (n0:Nat) (fs:List A) (bst:List Nat) (w:World) (told:List A) (fb:List Nat):Prop where
 cM:w.heap[x.bM]? = some (.cells #[.map (some x.ms)] 116 (0,0))
 cS:w.heap[x.bS]? = some (.cells #[.pointer (some ⟨x.sb,0,none⟩)] 100 (0,0))
 cN:w.heap[x.bN]? = some (.cells #[.int .i64 x.nr] 3 (0,0))
 cF:w.heap[x.bF]? = some (.cells #[.bool true] 4 (0,0))
 cC:w.heap[x.bC]? = some (.cells #[.chan (some x.ch)] 262 (0,0))
 sn:gm isStr x.ms (xG x.nr (newL fs told)) w
 cH:∃ vs sd bb,w.heap[x.ch]? = some (.chan 301 ⟨vs⟩ false sd 0 false)∧Ir w vs (newL fs told) bb∧∀ k ∈ bb,k ∈ fb∧n0≤k∧k ∉ x.own
 st:∃ rn,jv x.sb fs rn bst w
 few:fs.length+(newL fs told).length≤300
 tok:∀ t ∈ told,aI t
 nd:x.own.Nodup
 ow:∀ k ∈ x.own,k ∈ fb
 oK:∀ k ∈ bst,k ∈ fb∧k ∉ x.own
 lo:n0≤x.bM
 lt:∀ k ∈ fb,k < w.heap.size
structure D.qx (x:pI) (w:World) (fb:List Nat):Prop where
 cF:w.heap[x.bF]? = some (.cells #[.bool false] 4 (0,0))
 ow:∀ k ∈ x.own,k ∈ fb
 lt:∀ k ∈ fb,k < w.heap.size
def D.UE (x:pI) (J:Nat) (fs:List A) (y:List Nat) (f:Bool) (w:World) (told:List A) (I:List Nat):Prop:=if f then lY x J fs y w told I else qx x w I
theorem D.lY.keep {x:pI} {n0:Nat} {fs:List A} {J:List Nat} {w w':World} {told:List A} {U:List Nat} (h:lY x n0 fs J w told U) (hk:∀ k ∈ U,w'.heap[k]? = w.heap[k]?) (hs:w.heap.size≤w'.heap.size):lY x n0 fs J w' told U:=by
 have I:∀ k ∈ x.own,w'.heap[k]? = w.heap[k]?:=fun k y=>hk k (h.ow k y)
 obtain ⟨vs,sd,bb,h1,h2,h3⟩:=h.cH;obtain ⟨rn,a0⟩:=h.st
 exact ⟨(I _ (by simp [pI.own])).trans h.cM,(I _ (by simp [pI.own])).trans h.cS,(I _ (by simp [pI.own])).trans h.cN,(I _ (by simp [pI.own])).trans h.cF,(I _ (by simp [pI.own])).trans h.cC,h.sn.same (I _ (by simp [pI.own])),
  ⟨vs,sd,bb,(I _ (by simp [pI.own])).trans h1,h2.keep fun k y=>hk k (h3 k y).1,h3⟩,⟨rn,a0.keep (fun k y=>hk k (h.oK k y).1) hs⟩,h.few,h.tok,h.nd,h.ow,h.oK,h.lo,fun k y=>κ (h.lt k y) hs⟩
theorem D.qx.keep {x:pI} {w w':World} {y:List Nat} (h:qx x w y) (J:∀ k ∈ y,w'.heap[k]? = w.heap[k]?) (U:w.heap.size≤w'.heap.size):qx x w' y:=
 ⟨(J _ (h.ow _ (by simp [pI.own]))).trans h.cF,h.ow,fun k I=>κ (h.lt k I) U⟩
theorem D.lY.same {x:pI} {I:Nat} {fs:List A} {y:List Nat} {w w':World} {told:List A} {J:List Nat} (h:lY x I fs y w told J) {a:A} (hok:aI a) (hm:a ∈ fs∨a ∈ newL fs told) (U:Below w.heap.size w w'):
  Uz fs (told ++ [a])=true∧lY x I fs y w' (told ++ [a]) J:=by
 classical
 have e:newL fs (told ++ [a])=newL fs told:=by rw [yC,if_pos hm]
 refine ⟨?_,?_⟩
 ·rw [Lj]
  exact decide_eq_true (hm.elim .inl fun h=>.inr (.inl h))
 ·have k:=h.keep (fun k hk=>U.block k (h.lt k hk)) U.size
  exact ⟨k.cM,k.cS,k.cN,k.cF,k.cC,e ▸ k.sn,e ▸ k.cH,k.st,e ▸ k.few,fun t ht=>(μ.1 ht).elim (k.tok t) fun h=>by rw [List.mem_singleton.1 h]; exact hok,k.nd,k.ow,k.oK,k.lo,k.lt⟩
theorem EK (x:pI) (n0:Nat) (fs:List A) (b1:List Nat) (bq:∀ f ∈ fs,aI f) (told:List A) (fb:List Nat) (a:A) (c1:Value) (ba:List Nat) (b0:Nat) (w:World) (F:lY x n0 fs b1 w told fb) (bc:∀ k ∈ fb,k < b0) (hn:New b0 w ba) (ha:aG w [.string a.name,c1] a ba) (hok:aI a):
  Calls Tryz.prog 192 (#[.agg #[.string a.name,c1]] ++ x.ug) w fun e w'=>e=.returned (.bool (Uz fs (told ++ [a])))∧(∃ a5,UE x n0 fs b1 (Uz fs (told ++ [a])) w' (told ++ [a]) a5∧∀ k ∈ a5,k ∈ fb∨b0≤k)∧dQ x.K w w':=by
 obtain ⟨Ae,ce,_,rfl⟩:=aY ha;have hA:Below w.heap.size w (w.alloc (.cells #[.string a.name,.slice Ae a.args.length ce] 33)):=ζ;have ar:EO a≤16777216:=by have:=zW hok.ok; omega
 have hT:=η (mF a (.string a.name) (.slice Ae a.args.length ce) ba _ (aj.below ha hA) ar);have hx:w.heap.size < (w.alloc (.cells #[.string a.name,.slice Ae a.args.length ce] 33)).heap.size:=by simp
 have y0:(w.alloc (.cells #[.string a.name,.slice Ae a.args.length ce] 33)).heap[w.heap.size]? = some (.cells #[.string a.name,.slice Ae a.args.length ce] 33 (0,0)):=ω _ _;have z0:(w.alloc (.cells #[.string a.name,.slice Ae a.args.length ce] 33)).cell? ⟨w.heap.size,0,none⟩=some (.string a.name):=ai y0;have z1:(w.alloc (.cells #[.string a.name,.slice Ae a.args.length ce] 33)).cell? ⟨w.heap.size,1,none⟩=some (.slice Ae a.args.length ce):=ai y0;have HF:=η F;have HA:=η hA;have bf:=η bc;have HN:=η hn;have b8:=η ha;have br:=η y0;clear F bc hn ha hA y0 ar;unfold pI.ug
 go_enter Tryz.func192,Tryz.ntmps192
 go_wp2_with fail
 refine hT.out.mono ?_;rintro e w2 ⟨rfl,af⟩;have a6:=η (HA.out.trans (af.mono HA.out.size));have bg:=κ hx af.size;have z0:=ξ af z0;have z1:=ξ af z1;have av:=η (HF.out.keep (fun k y=>a6.out.block k (HF.out.lt k y)) a6.out.size);have bh:=η (aj.below b8.out a6.out);have bi:Hid (w2.heap[w.heap.size]? = some (.cells #[.string a.name,.slice Ae a.args.length ce] 33 (0,0))):=η ((af.block _ hx).trans br.out);clear hT af;have a2:∀ t ∈ newL fs told,aI t:=fun t ht=>HF.out.tok t (((pq fs told).2 t).1 ht).1
 have xM:w2.cell? ⟨x.bM,0,none⟩=some (.map (some x.ms)):=ai av.out.cM;have xS:w2.cell? ⟨x.bS,0,none⟩=some (.pointer (some ⟨x.sb,0,none⟩)):=ai av.out.cS;have xN:w2.cell? ⟨x.bN,0,none⟩=some (.int .i64 x.nr):=ai av.out.cN;obtain ⟨vi,b9⟩:=N7 av.out.sn (bU a) (nN hok.ok);have ag:=xu a2 hok;generalize decide (bU a ∈ (newL fs told).map bU)=s1 at b9 ag;unfold bU at b9
 cases s1 with
 | true=>
  have HD:=η (HF.out.same hok (.inr (ag.1 rfl)) a6.out);clear ag a2;go_wp2;go_ret;obtain ⟨e1,h1⟩:=HD.out;rw [e1];exact ⟨rfl,⟨fb,h1,fun k y=>.inl y⟩,dQ.of_below a6.out⟩
 | false=>
  have I:a ∉ newL fs told:=fun h=>by have:=ag.2 h; simp at this
  obtain ⟨rn,bj⟩:=av.out.st;have a7:=yx x.sb fs rn b1 a _ _ ba w2 bj bh.out hok.ok;have aw:=xu bq hok;generalize decide (bU a ∈ fs.map bU)=s2 at a7 aw;clear bj
  go_wp2_with fail
  refine a7.mono ?_;rintro e w3 ⟨rfl,a3⟩;clear a7 b9;have a8:=η (a6.out.trans (a3.mono a6.out.size));have xM:=ξ a3 xM;have xS:=ξ a3 xS;have xN:=ξ a3 xN;have z0:=ξ a3 z0;have z1:=ξ a3 z1;have bt:=κ bg a3.size
  cases s2 with
  | true=>
   have HD:=η (HF.out.same hok (.inl (aw.1 rfl)) a8.out);clear ag aw a2;go_wp2;go_ret;obtain ⟨e1,h1⟩:=HD.out;rw [e1];exact ⟨rfl,⟨fb,h1,fun k y=>.inl y⟩,dQ.of_below a8.out⟩
  | false=>
   have J:a ∉ fs:=fun h=>by have:=aw.2 h; simp at this
   have U:=η (HF.out.keep (fun k y=>a8.out.block k (HF.out.lt k y)) a8.out.size)
   obtain ⟨w4,bk,a9,a0,-⟩:=qg jl (w:=w3) trivial Tryz.underlying116 (k:=.string (bU a)) (.int .i64 x.nr) U.out.sn ⟨_,rfl,nN hok.ok⟩ (fun p hp e=>by
    obtain ⟨t,ht,rfl⟩:=List.mem_map.1 hp;simp at e
    exact I (sN (a2 t ht).ok hok.ok e ▸ ht))
   unfold bU at bk
   go_upto_region 6 with fail
   have am:=a0.size;have nd:=HF.out.nd;simp only [pI.own,List.nodup_cons,List.mem_cons,List.not_mem_nil,or_false,not_or,List.nodup_nil,and_true,not_false_eq_true] at nd;have k4:∀ k,k < w3.heap.size→k ≠ x.ms→w4.heap[k]? = w3.heap[k]?:=fun k h1 h2=>a0.block k h1 (fun e=>h2 (by injection e))
   have ko:∀ k ∈ x.own,k < w3.heap.size:=fun k y=>U.out.lt k (U.out.ow k y)
   have aa:=(k4 _ (ko _ (by simp [pI.own])) (by omega)).trans U.out.cS;have ab:=(k4 _ (ko _ (by simp [pI.own])) (by omega)).trans U.out.cM;have a4:=(k4 _ (ko _ (by simp [pI.own])) (by omega)).trans U.out.cF;have ac:=(k4 _ (ko _ (by simp [pI.own])) (by omega)).trans U.out.cC;have ao:=(k4 _ bt (by have:=HF.out.lt x.ms (HF.out.ow _ (by simp [pI.own])); omega)).trans ((a3.block _ bg).trans (bi.out));have bu:=η (ι ab (ι aa (ι a4 (ι ac (ι ao (ι a9 (ι a0 (ι k4 (ι am (ι nd (ι I J)))))))))));have c0:w4.cell? ⟨x.bS,0,none⟩=some (.pointer (some ⟨x.sb,0,none⟩)):=ai aa;have c1:w4.cell? ⟨x.bM,0,none⟩=some (.map (some x.ms)):=ai ab;have c2:w4.cell? ⟨x.bF,0,none⟩=some (.bool true):=ai a4;have c3:w4.frozen? ⟨x.bF,0,none⟩=false:=ax a4;have l2:=lt_of_cell c2;obtain ⟨bA,az⟩:=U.out.st
   obtain ⟨Af,cf,aD⟩:∃ Af cf,w3.cell? ⟨x.sb,0,none⟩=some (.slice Af fs.length cf):=by
    obtain ⟨⟨Af,cf,_,_,_,_,_,_,_,_,h1,_⟩,_,_⟩:=az;exact ⟨Af,cf,ai h1⟩
   have c4:w4.cell? ⟨x.sb,0,none⟩=some (.slice Af fs.length cf):=(World.cell?_of_block (k4 _ (lt_of_cell aD) (fun e=>(U.out.oK _ az.own).2 (by have e:x.sb=x.ms:=e; rw [e]; simp [pI.own])))).trans aD
   have bv:∀ ty,(Builtin.len_ #[116] ty #[.map (some x.ms)]).run Tryz.prog w4.drew=.ok (.int .i64 ((newL fs told).length+1:Nat)) w4.drew:=fun ty=>by
    have:=UD (w:=w4.drew) (a9.same rfl) ty;simpa [Qw] using this
   have bz:=HF.out.few;have bB:(0:Int)≤fs.length:=by omega
   have bE:(0:Int)≤((newL fs told).length+1:Nat):=by omega
   have bL:(fs.length:Int)+((newL fs told).length+1:Nat)≤301:=by omega
   clear az aD bk aa ab a4 ac ao a9 a0 am nd k4 ko I J ag aw a2 xM xS xN z0 z1;go_region;clear c0 c1 c2 c3 c4 bv l2;obtain ⟨ab,aa,a4,ac,ao,a9,a0,k4,am,nd,I,J⟩:=bu.out
   have ae:newL fs (told ++ [a])=newL fs told ++ [a]:=by
    classical
    rw [yC,if_neg (fun h=>h.elim J I)]
   have b2:Uz fs (told ++ [a])=decide ((fs.length:Int)+((newL fs told).length+1)≤300):=by
    classical
    rw [Lj];refine decide_eq_decide.2 ⟨fun h=>?_,fun h=>?_⟩
    ·rcases h with h | h | h
     ·exact absurd h J
     ·exact absurd h I
     ·rw [ae,χ,List.length_singleton] at h; omega
    ·rw [ae,χ,List.length_singleton]; exact .inr (.inr (by omega))
   have bl:∀ v,(w4.setCell ⟨x.bF,0,none⟩ v).drew.heap[x.bF]? = some (.cells #[v] 4 (0,0)):=fun v=>by
    have:=bK (o:=0) (u:=v) a4;exact this
   have k5:∀ v k,k ≠ x.bF→(w4.setCell ⟨x.bF,0,none⟩ v).drew.heap[k]? = w4.heap[k]?:=fun v k y=>π _ _ _ _ y
   have s5:∀ v,(w4.setCell ⟨x.bF,0,none⟩ v).drew.heap.size=w4.heap.size:=fun v=>by simp [World.setCell]
   have bn:∀ v,dQ x.K w (w4.setCell ⟨x.bF,0,none⟩ v).drew:=fun v=>by
    have h3:=a8.out;refine ⟨a0.os.trans h3.os,a0.tape.trans h3.tape,a0.output.trans h3.output,?_,fun k y hK=>?_⟩
    ·rw [s5]; exact τ h3.size am
    ·rw [k5 _ _ (fun e=>hK (.inr (.inl e))),k4 k (κ y h3.size) (fun e=>hK (.inl e)),h3.block k y]
   rw [← b2];generalize hgv:Uz fs (told ++ [a])=g at *;generalize hW:(w4.setCell ⟨x.bF,0,none⟩ (.bool g)).drew=W5 at *;have aE:=hW ▸ bl (.bool g);have k6:=fun k y=>hW ▸ k5 (.bool g) k y
   have s6:=hW ▸ s5 (.bool g);have a1:=hW ▸ bn (.bool g);clear bl k5 s5 bn hW;have q0:W5.cell? ⟨x.bF,0,none⟩=some (.bool g):=ai aE;have ap:∀ k ∈ x.own,k < w.heap.size:=fun k y=>HF.out.lt k (HF.out.ow k y)
   have bO:=ap x.bF (by simp [pI.own]);have q1:W5.cell? ⟨x.bC,0,none⟩=some (.chan (some x.ch)):=ai ((k6 _ (by omega)).trans ac);have b4:=(k6 w.heap.size (by omega)).trans ao;have q2:W5.cell? ⟨w.heap.size,0,none⟩=some (.string a.name):=ai b4;have q3:W5.cell? ⟨w.heap.size,1,none⟩=some (.slice Ae a.args.length ce):=ai b4
   cases g with
   | false=>
    have HD:Hid (qx x W5 fb∧dQ x.K w W5):=η ⟨⟨aE,HF.out.ow,fun k y=>κ (HF.out.lt k y) a1.size⟩,a1⟩;clear b2 ae ab aa a4 ac ao a9 a0 k4 am nd I J aE k6 s6 a1 b4 ap;go_wp2;go_ret;rw [hgv];exact ⟨rfl,⟨fb,HD.out.1,fun k y=>.inl y⟩,HD.out.2⟩
   | true=>
    have bR:=of_decide_eq_true b2.symm;clear b2
    go_upto_region 8 with fail
    refine uD ?_;obtain ⟨vs,sd,bb,b6,aL,aq⟩:=U.out.cH;have aM:W5.heap[x.ch]? = some (.chan 301 ⟨vs⟩ false sd 0 false):=(k6 _ (by omega)).trans ((k4 _ (κ (ap _ (by simp [pI.own])) a8.out.size) (by omega)).trans b6);have hlen:=aL.len;refine sG (i:=0) (by rfl) (by rfl) (v:=.chan (some x.ch)) (w':=W5) (by go_simp) ?_;refine sG (i:=1) (by rfl) (by rfl) (v:=.agg #[.string a.name,.slice Ae a.args.length ce]) (w':=W5) (by go_simp) ?_;refine RU (i:=2) (w':=W5) (v:=.agg #[.string a.name,.slice Ae a.args.length ce]) (by rfl) (by rfl) (by go_simp; rfl) aM (by show vs.length < 301; omega) ?_;refine GR (show Exit.then _ _ Exit.normal _ _ from ?_);have bo:x.ch < W5.heap.size:=ψ aM;have bp:=Go.Conc.heap_setChan W5 x.ch 301 ((⟨vs⟩:Array Value).push (.agg #[.string a.name,.slice Ae a.args.length ce])) false (sd+1) 0 false bo
    have k7:∀ k,k ≠ x.ch→(W5.setChan x.ch 301 ((⟨vs⟩:Array Value).push (.agg #[.string a.name,.slice Ae a.args.length ce])) false (sd+1) 0 false).heap[k]? = W5.heap[k]?:=fun k y=>by
     simp only [World.setChan]; rw [Array.getElem?_setIfInBounds_ne (by omega)]
    have s7:(W5.setChan x.ch 301 ((⟨vs⟩:Array Value).push (.agg #[.string a.name,.slice Ae a.args.length ce])) false (sd+1) 0 false).heap.size=W5.heap.size:=by simp [World.setChan]
    have o7:(W5.setChan x.ch 301 ((⟨vs⟩:Array Value).push (.agg #[.string a.name,.slice Ae a.args.length ce])) false (sd+1) 0 false).os=W5.os∧(W5.setChan x.ch 301 ((⟨vs⟩:Array Value).push (.agg #[.string a.name,.slice Ae a.args.length ce])) false (sd+1) 0 false).tape=W5.tape∧(W5.setChan x.ch 301 ((⟨vs⟩:Array Value).push (.agg #[.string a.name,.slice Ae a.args.length ce])) false (sd+1) 0 false).output=W5.output:=⟨rfl,rfl,rfl⟩;generalize W5.setChan x.ch 301 ((⟨vs⟩:Array Value).push (.agg #[.string a.name,.slice Ae a.args.length ce])) false (sd+1) 0 false=W7 at *;have q0:W7.cell? ⟨x.bF,0,none⟩=some (.bool true):=(World.cell?_of_block (k7 _ (by show x.bF ≠ x.ch; omega))).trans q0
    have HD:Hid ((∃ a5,lY x n0 fs b1 W7 (told ++ [a]) a5∧∀ k ∈ a5,k ∈ fb∨b0≤k)∧dQ x.K w W7):=η (by
     have h3:=a8.out;have b3:=HF.out;have b5:w.heap.size≤W7.heap.size:=by rw [s7]; exact a1.size
     have kk:∀ k,k < w.heap.size→k ∉ x.own→W7.heap[k]? = w.heap[k]?:=fun k y bw=>by
      simp only [pI.own,List.mem_cons,List.not_mem_nil,or_false,not_or] at bw;rw [k7 k (by omega),k6 k (by omega),k4 k (κ y h3.size) (by omega),h3.block k y]
     have aR:∀ k ∈ ba,b0≤k∧k < w.heap.size∧k ∉ x.own:=fun k y=>by
      have h1:=HN.out.own k y;exact ⟨h1.1,(aj.lt b8.out k y),fun hm=>by have:=bf.out k (b3.ow k hm); omega⟩
     obtain ⟨bx,b7⟩:=b3.st;refine ⟨⟨fb ++ ba,⟨?_,?_,?_,?_,?_,?_,⟨vs ++ [.agg #[.string a.name,.slice Ae a.args.length ce]],sd+1,bb ++ ba,?_,?_,?_⟩,⟨bx,b7.keep (fun k y=>kk k (b7.lt k y) (b3.oK k y).2) b5⟩,?_,?_,b3.nd,?_,?_,b3.lo,?_⟩,?_⟩,?_⟩
     ·rw [k7 _ (by omega),k6 _ (by omega)]; exact ab
     ·rw [k7 _ (by omega),k6 _ (by omega)]; exact aa
     ·rw [k7 _ (by omega),k6 _ (by omega),k4 _ (κ (ap _ (by simp [pI.own])) h3.size) (by omega),h3.block _ (ap _ (by simp [pI.own]))]; exact b3.cN
     ·rw [k7 _ (by omega)]; exact aE
     ·rw [k7 _ (by omega),k6 _ (by omega)]; exact ac
     ·rw [ae]
      have e:xG x.nr (newL fs told ++ [a])=xG x.nr (newL fs told) ++ [(.string (bU a),.int .i64 (x.nr:Nat))]:=by simp [xG]
      rw [e];exact a9.same (by rw [k7 _ (by omega),k6 _ (by omega)])
     ·rw [bp]; simp
     ·rw [ae]
      have hw:Ir w vs (newL fs told) bb:=aL.keep fun k y=>(h3.block k (b3.lt k (aq k y).1)).symm
      exact (hw.keep fun k y=>kk k (b3.lt k (aq k y).1) (aq k y).2.2).snoc (aj.keep b8.out fun k y=>kk k (aR k y).2.1 (aR k y).2.2)
     ·intro k y
      rcases μ.1 y with y | y
      ·exact ⟨Ξ _ (aq k y).1,(aq k y).2⟩
      ·have h1:=aR k y
       have h2:=bf.out x.bM (b3.ow _ (by simp [pI.own]));have h4:=b3.lo;exact ⟨Ω _ y,by omega,h1.2.2⟩
     ·rw [ae,χ,List.length_singleton]; omega
     ·intro t ht
      rcases μ.1 ht with ht | ht
      ·exact b3.tok t ht
      ·rw [List.mem_singleton.1 ht]; exact hok
     ·exact fun k y=>Ξ _ (b3.ow k y)
     ·exact fun k y=>⟨Ξ _ (b3.oK k y).1,(b3.oK k y).2⟩
     ·intro k y
      rcases μ.1 y with y | y
      ·exact κ (b3.lt k y) b5
      ·exact κ (aR k y).2.1 b5
     ·intro k y
      rcases μ.1 y with y | y
      ·exact .inl y
      ·exact .inr (aR k y).1
     ·exact ⟨o7.1.trans a1.os,o7.2.1.trans a1.tape,o7.2.2.trans a1.output,b5,fun k y hK=>(k7 k (fun e=>hK (.inr (.inr e)))).trans (a1.block k y hK)⟩)
    clear ae ab aa a4 ac ao a9 a0 k4 am nd I J aE k6 s6 a1 b4 ap k7 s7 o7 bp aM aL aq b6;go_wp2;go_ret;rw [hgv];obtain ⟨⟨a5,h1,h2⟩,h3⟩:=HD.out;exact ⟨rfl,⟨a5,h1,h2⟩,h3⟩
theorem D.Qx (x:pI) (n0:Nat) (fs:List A) (y:List Nat) (U:∀ f ∈ fs,aI f):Xl 192 x.ug x.K (UE x n0 fs y) (Uz fs):=by
 refine ⟨enters_of Tryz.func192 (by kernel_rfl) rfl,fun {f w told I} h=>?_,fun {f w told I} h k J=>?_,fun {f w w' told I} h J hs=>?_,fun w told I a c1 ba b0 h a0 hn ha hok=>EK x n0 fs y U told I a c1 ba b0 w h a0 hn ha hok⟩
 ·cases f with
  | true=>exact lY.lt h
  | false=>exact qx.lt h
 ·have ho:k ∈ x.own:=by
   rcases J with rfl | rfl | rfl <;> simp [pI.own]
  cases f with
  | true=>exact lY.ow h k ho
  | false=>exact qx.ow h k ho
 ·cases f with
  | true=>exact lY.keep h J hs
  | false=>exact qx.keep h J hs
theorem Ik (a6 mf:Nat) (told:List A) (fb:List Nat) (a:A) (c1:Value) (ba:List Nat) (w:World) (F:lX a6 mf w told fb) (ha:aG w [.string a.name,c1] a ba) (hok:aI a) (hn:New a6 w ba) (hd:∀ x ∈ ba,x ∉ fb):
  Calls Tryz.prog 60 #[.agg #[.string a.name,c1],.pointer (some ⟨a6,0,none⟩)] w fun e w'=>e=.returned (.bool true)∧lX a6 mf w' (told ++ [a]) (fb ++ ba)∧dQ (fun k=>k=mf) w w':=by
 obtain ⟨J,U,_,rfl⟩:=aY ha;have hA:Below w.heap.size w (w.alloc (.cells #[.string a.name,.slice J a.args.length U] 33)):=ζ;have I:EO a≤16777216:=by have:=zW hok.ok; omega
 have hT:=η (mF a (.string a.name) (.slice J a.args.length U) ba _ (aj.below ha hA.drew) I);have y0:(w.alloc (.cells #[.string a.name,.slice J a.args.length U] 33)).cell? ⟨a6,0,none⟩=some (.map (some mf)):=ξ hA (ai F.box);have y1:(w.alloc (.cells #[.string a.name,.slice J a.args.length U] 33)).cell? ⟨w.heap.size,0,none⟩=some (.string a.name):=by go_simp
 have y2:(w.alloc (.cells #[.string a.name,.slice J a.args.length U] 33)).cell? ⟨w.heap.size,1,none⟩=some (.slice J a.args.length U):=by go_simp
 have a4:Hid (∀ w2:World,Below w.heap.size w w2→∃ w9,(Instr.mapUpdate 102 (.map (some mf)) (.string ⟨(uz a).toArray⟩) (.agg #[.string a.name,.slice J a.args.length U])).run Tryz.prog w2=.ok () w9∧lX a6 mf w9 (told ++ [a]) (fb ++ ba)∧dQ (fun k=>k=mf) w w9):=η fun w2 h2=>by
  obtain ⟨w9,r1,r2,r3⟩:=(F.keep (fun x hx=>h2.block x (F.lt x hx)) h2.size).put (aj.below ha h2) hok (hn.below h2) hd;exact ⟨w9,r1,r2,(dQ.of_below h2).trans (dQ.dM r3 rfl)⟩
 have HA:=η hA;have a0:w.heap.size < (w.alloc (.cells #[.string a.name,.slice J a.args.length U] 33)).heap.size:=by simp
 clear F ha hok hA I hn hd
 go_enter Tryz.func60,Tryz.ntmps60
 go_wp2;generalize w.alloc (.cells #[.string a.name,.slice J a.args.length U] 33)=W at *
 go_region_law
  (first
   | (go_simp; go_at_call 61; refine hT.out.mono ?_; rintro e w2 ⟨rfl,a1⟩; have y:=η ((Below.refl W.heap.size W).drew.trans a1); replace y0:=ξ y.out y0; replace y1:=ξ y.out y1; replace y2:=ξ y.out y2; replace a0:=κ a0 y.out.size; obtain ⟨w9,a5,a2,a3⟩:=a4.out w2 (HA.out.trans (y.out.mono HA.out.size)); have a7:=η (ι a2 a3); clear a1 a2 a3))
 all_goals
  clear y0 y1 y2 a5 y;go_wp2;go_ret;exact ⟨rfl,a7.out⟩
theorem D.UF (J U:Nat):Xl 60 #[.pointer (some ⟨J,0,none⟩)] (fun k=>k=U) (fun _=>lX J U) (fun _=>true):=by
 refine ⟨enters_of Tryz.func60 (by kernel_rfl) rfl,fun h=>h.lt,fun h x y=>y ▸ h.own.2.1,fun h hk hs=>h.keep hk hs,fun w told fb a c1 ba b0 h I hn ha hok=>?_⟩;refine (Ik J U told fb a c1 ba w h ha hok (hn.mono (Nat.le_of_lt (I _ h.own.1))) fun x y hm=>?_).mono ?_
 ·have h1:=I x hm
  have h2:=(hn.own x y).1;omega
 ·rintro e w' ⟨rfl,h1,h2⟩
  exact ⟨rfl,⟨_,h1,fun x y=>(μ.1 y).elim .inl fun h=>.inr (hn.own x h).1⟩,h2⟩
end
section
open Go.Shelf Go.RowKit Go.Lib Go.Sort D
structure D.Fc where
 t:A
 c1:Value
def D.Fc.enc (x:Fc):List Value:=[.string x.t.name,x.c1]
abbrev D.nS (w:World) (g:Nat):={ x:Fc // ∃ ba,aG w [.string x.t.name,x.c1] x.t ba∧g ∉ ba }
def D.nS.enc {w:World} {g:Nat} (x:nS w g):List Value:=x.1.enc
def D.nS.cf {w:World} {g:Nat} (x y:nS w g):Int:=dD x.1.t y.1.t
theorem D.mr (w:World) (g:Nat) (f:Array Value→Array Value) {x:Nat} (h:x ≠ g):(mapBlock w g f).heap[x]? = w.heap[x]?:=by
 simp only [mapBlock,Array.getElem?_modify];rw [if_neg (fun e=>h e.symm)]
theorem D.LD {α:Type} [Inhabited α] (enc:α→List Value) (k:Nat) (w:World) (g n:Nat) (d:Array α) (os:Array Obj) {x:Nat} (y:x < w.heap.size) (h:x ≠ g):(sortWorldK enc k w g 0 n d os).heap[x]? = w.heap[x]?:=by
 unfold sortWorldK
 have I:(grow (putRowK enc k (Go.Sort.ahead w n) g 0 d) os).heap[x]? = (putRowK enc k (Go.Sort.ahead w n) g 0 d).heap[x]?:=by
  show (_ ++ os)[x]? = _;rw [Array.getElem?_append_left (by rw [size_putRowK]; exact y)]
 rw [I];exact mr (Go.Sort.ahead w n) g _ h
theorem D.Qy {α:Type} [Inhabited α] (enc:α→List Value) (k:Nat) (w:World) (g n:Nat) (d:Array α) (os:Array Obj) {I:Array Value} {e:TypeId} (h:w.heap[g]? = some (.cells I e (0,0))):∃ y,(sortWorldK enc k w g 0 n d os).heap[g]? = some (.cells y e (0,0))∧y.size=I.size:=by
 have J:g < w.heap.size:=(Array.getElem?_eq_some_iff.1 h).1;unfold sortWorldK
 have U:(grow (putRowK enc k (Go.Sort.ahead w n) g 0 d) os).heap[g]? = (putRowK enc k (Go.Sort.ahead w n) g 0 d).heap[g]?:=by
  show (_ ++ os)[g]? = _;rw [Array.getElem?_append_left (by rw [size_putRowK]; exact J)]
 refine ⟨putCells id 0 (flatK enc k d) I,?_,?_⟩
 ·rw [U]
  show (mapBlock (Go.Sort.ahead w n) g (putCells id 0 (flatK enc k d))).heap[g]? = _;simp only [mapBlock,Array.getElem?_modify];rw [if_pos trivial];show (w.heap[g]?).map _=_;rw [h];rfl
 ·simp [putCells]
theorem D.Gm {α:Type} [Inhabited α] (enc:α→List Value) (k:Nat) (w:World) (g n:Nat) (d:Array α) (os:Array Obj) (I:g < w.heap.size):dQ (fun x=>x=g) w (sortWorldK enc k w g 0 n d os):=
 ⟨rfl,rfl,rfl,size_sortWorldK_c enc k w g 0 n d os,fun x y h=>LD enc k w g n d os y h⟩
theorem D.VZ {w:World} {g:Nat}:SWO (ltOf (nS.cf (w:=w) (g:=g))) where
 irrefl x:=by unfold ltOf nS.cf; rw [oL]; rfl
 trans x y z h1 h2:=by
  unfold ltOf nS.cf at *;simp only [decide_eq_true_eq] at *;rw [jk] at *;exact (jw eX).lC h1 (by omega)
 ntrans x y z h1 h2:=by
  unfold ltOf nS.cf at *;simp only [decide_eq_false_iff_not] at *;rw [jk] at *;have I:=(jw eX).anti (kW x.1.t) (kW y.1.t);have J:=(jw eX).anti (kW y.1.t) (kW z.1.t);have U:=(jw eX).anti (kW x.1.t) (kW z.1.t);have a4:=(jw eX).trans (kW z.1.t) (kW y.1.t) (kW x.1.t) (by omega) (by omega);omega
theorem EL (g cap:Nat) (xs:List Fc) (w:World) (hg:g < w.heap.size) (hc:∀ k x,xs[k]? = some x→w.cell? ⟨g,k * 2,none⟩=some (.string x.t.name)∧w.cell? ⟨g,k * 2+1,none⟩=some x.c1) (a8:∀ q,w.frozen? ⟨g,q,none⟩=false)
  (a3:∀ x ∈ xs,∃ ba,aG w [.string x.t.name,x.c1] x.t ba∧g ∉ ba) (a9:xs.length < 4611686018427387904):
  Calls Tryz.prog 103 #[.slice (some ⟨g,0,none⟩) xs.length cap,.func (.func 64) #[] #[]] w fun e w'=>e=.returned (.tuple #[])∧
   ∃ ys:List Fc,ys.Perm xs∧ys.Pairwise (fun a b=>¬ dD b.t a.t < 0)∧(∀ k y,ys[k]? = some y→w'.cell? ⟨g,k * 2,none⟩=some (.string y.t.name)∧w'.cell? ⟨g,k * 2+1,none⟩=some y.c1)∧dQ (fun x=>x=g) w w'∧
    ∀ I e,w.heap[g]? = some (.cells I e (0,0))→∃ a0,w'.heap[g]? = some (.cells a0 e (0,0))∧a0.size=I.size:=by
 cases hx:xs with
 | nil=>
  refine (AnyF.slices_SortFunc_none Tryz.sortA (some ⟨g,0,none⟩) cap (.func (.func 64) #[] #[]) w).mono ?_;rintro e w' ⟨rfl,rfl⟩;exact ⟨rfl,[],List.Perm.refl _,List.Pairwise.nil,fun k y h=>by simp at h,dQ.refl _ _,fun I e h=>⟨I,h,rfl⟩⟩
 | cons x0 rest=>
  rw [← hx];have aa:x0 ∈ xs:=by rw [hx]; exact Γ
  letI:Inhabited (nS w g):=⟨⟨x0,a3 x0 aa⟩⟩
  obtain ⟨L,hL⟩:∃ L:List (nS w g),L=xs.attach.map (fun x=>⟨x.1,a3 x.1 x.2⟩):=⟨_,rfl⟩;have a1:L.map (·.1)=xs:=by rw [hL,List.map_map]; exact List.attach_map_subtype_val xs
  have hlen:L.length=xs.length:=by rw [← a1]; simp
  have a4:∀ (d:List (nS w g)) (i:Nat) (h:i < d.length),d.toArray[i]! = d[i]:=fun d i h=>by simp [getElem!_pos,h]
  have hH:HoldsK nS.enc 2 w g 0 L.toArray:=by
   intro j hj;simp only [size_flatK,List.size_toArray] at hj;refine ⟨?_,a8 _⟩;show w.cell? _=some ((flatK nS.enc 2 L.toArray)[j]!);rw [get_flatK _ _ _ _ (by simpa using hj),a4 L (j / 2) (by omega)];have h1:=hc (j / 2) (L[j / 2]'(by omega)).1 (by rw [← a1,List.getElem?_map,Ψ (by omega)]; rfl);have e:0+j=j / 2 * 2+j % 2:=by omega
   rw [e]
   rcases (show j % 2=0∨j % 2=1 by omega) with h | h
   ·rw [h]; exact h1.1
   ·rw [h]; exact h1.2
  have a5:CmpLays Tryz.prog 64 #[] nS.enc 2 (nS.cf (w:=w) (g:=g)) g 0 L.toArray.size w:=fun m os dk ae x y=>by
   obtain ⟨b1,h1,n1⟩:=x.2;obtain ⟨b2,h2,n2⟩:=y.2;have hb:=Gm nS.enc 2 w g m dk os hg;refine (nJ x.1.t y.1.t (.string x.1.t.name) x.1.c1 (.string y.1.t.name) y.1.c1 b1 b2 (sortWorldK nS.enc 2 w g 0 m dk os) (aj.keep h1 fun b J=>hb.block b (aj.lt h1 b J) (fun e=>n1 (e ▸ J))) (aj.keep h2 fun b J=>hb.block b (aj.lt h2 b J) (fun e=>n2 (e ▸ J)))).mono ?_;rintro e w' ⟨rfl,ab⟩;exact ⟨rfl,ab.is⟩
  have U:=AnyQ.slices_SortFunc Tryz.sortA 2 Tryz.isAgg33 Tryz.sizeOf33 nS.enc (fun x=>rfl) (fun x v hv=>by
   obtain ⟨b1,h1,_⟩:=x.2;obtain ⟨Ad,cc,_,h3⟩:=aY h1;unfold nS.enc Fc.enc at hv;rw [h3] at hv;simp at hv
   rcases hv with rfl | rfl <;> rfl) nS.cf VZ 64 #[] g 0 cap L.toArray w (enters_of Tryz.func64 (by kernel_rfl) rfl) a5 hH hg (by simpa [hlen] using a9)
  have hs:L.toArray.size=xs.length:=by simp [hlen]
  rw [hs] at U;change Calls Tryz.prog 103 _ _ _ at U;refine U.mono ?_;rintro e w' ⟨rfl,d',n,os,hp,a6,rfl⟩;have hd:d'.size=xs.length:=by rw [hp.1,hs]
  have a7:=holdsK_sortWorldK_c nS.enc 2 w g 0 L.toArray d' n os hH hg (by rw [hp.1]);refine ⟨rfl,d'.toList.map (·.1),?_,?_,fun k y hk=>?_,Gm _ _ _ _ _ _ _ hg,fun I e h=>Qy _ _ _ _ _ _ _ h⟩
  ·have h3:=hp.2.2
   rw [Array.extract_eq_self_of_le (by omega),Array.extract_eq_self_of_le (by omega)] at h3;have h4:=h3.map (·.1)
   rwa [List.toList_toArray,a1] at h4
  ·refine List.pairwise_map.2 (List.pairwise_iff_getElem.2 fun i j hi hj ac=>?_)
   have h3:=a6 i j ε ac (by simp at hj; omega);rw [getElem!_pos d' i (by simpa using hi),getElem!_pos d' j (by simpa using hj)] at h3;unfold ltOf nS.cf at h3;simpa using h3
  ·obtain ⟨z,hz,rfl⟩:∃ z,d'[k]? = some z∧z.1=y:=by
    rw [List.getElem?_map] at hk;obtain ⟨z,hz,rfl⟩:=Option.map_eq_some_iff.1 hk;exact ⟨z,by simpa using hz,rfl⟩
   obtain ⟨a2,rfl⟩:=Array.getElem?_eq_some_iff.1 hz;have c0:=(a7.cell (i:=k) (c:=0) a2 (by omega)).1;have c1:=(a7.cell (i:=k) (c:=1) a2 (by omega)).1;rw [getElem!_pos d' k a2] at c0 c1;rw [Nat.zero_add] at c0 c1;exact ⟨c0,c1⟩
end
end Go.Proofs.YtkjinanbccloeaaGreatDoor
