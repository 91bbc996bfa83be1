/- Of the proof of FnDelta: RndI, SFn. -/
import Derived.Test.YtkjinanbccloeaaGreatDoorA42
set_option linter.unusedVariables false
set_option maxHeartbeats 4000000
set_option maxRecDepth 100000
namespace Go.Proofs.YtkjinanbccloeaaGreatDoor
section
open Go.RowKit D
attribute [local go_sem ↓] Go.wp_at_zero Go.wp_at_succ
def D.IW (w:World):List Value→List A→List Nat→Prop
 | [],[],b=>b = []
 | v :: vs,a :: l,b=>∃ c y I,v=.agg #[.string a.name,c]∧b=y ++ I∧aJ w [.string a.name,c] a y∧IW w vs l I
 | _,_,_=>False
theorem D.IW.len {w:World}:∀ {vs:List Value} {l:List A} {b:List Nat},IW w vs l b→vs.length=l.length
 | [],[],_,_=>rfl
 | v :: vs,a :: l,b,h=>by
  obtain ⟨_,_,_,_,_,_,h⟩:=h;simp [h.len]
 | [],a :: l,_,h=>h.elim
 | v :: vs,[],_,h=>h.elim
theorem D.IW.keep {w w':World}:∀ {vs:List Value} {l:List A} {b:List Nat},IW w vs l b→(∀ x ∈ b,w'.heap[x]? = w.heap[x]?)→IW w' vs l b
 | [],[],_,h,_=>h
 | v :: vs,a :: l,b,h,hk=>by
  obtain ⟨c,I,J,h1,U,h3,h4⟩:=h;subst U;exact ⟨c,I,J,h1,rfl,au.keep h3 fun x y=>hk x (Ξ _ y),h4.keep fun x y=>hk x (Ω _ y)⟩
 | [],a :: l,_,h,_=>h.elim
 | v :: vs,[],_,h,_=>h.elim
theorem D.IW.lt {w:World}:∀ {vs:List Value} {l:List A} {b:List Nat},IW w vs l b→∀ x ∈ b,x < w.heap.size
 | [],[],b,h,x,y=>by rw [show b = [] from h] at y; simp at y
 | v :: vs,a :: l,b,h,x,y=>by
  obtain ⟨c,b1,b2,h1,I,J,U⟩:=h;subst I
  rcases μ.1 y with y | y
  ·exact au.lt J x y
  ·exact U.lt x y
 | [],a :: l,_,h,_,_=>h.elim
 | v :: vs,[],_,h,_,_=>h.elim
theorem D.IW.snoc {w:World} {a:A} {c:Value} {ba:List Nat} (ha:aJ w [.string a.name,c] a ba):∀ {vs:List Value} {l:List A} {b:List Nat},IW w vs l b→IW w (vs ++ [.agg #[.string a.name,c]]) (l ++ [a]) (b ++ ba)
 | [],[],b,h=>by
  rw [show b = [] from h];exact ⟨c,ba,[],rfl,by simp,ha,rfl⟩
 | v :: vs,a' :: l,b,h=>by
  obtain ⟨y,I,J,h1,U,h3,h4⟩:=h;subst U;exact ⟨y,I,J ++ ba,h1,by simp,h3,h4.snoc ha⟩
 | [],a :: l,_,h=>h.elim
 | v :: vs,[],_,h=>h.elim
def D.yV (nr:Nat) (l:List A):List (Value × Value):=l.map fun a=>(.string (eH a),.int .i64 (nr:Nat))
theorem D.O8 {nr ms:Nat} {l:List A} {w:World} (h:nS isStr ms (yV nr l) w) (s:ByteArray) (U:s.size≤maxLen):
  ∃ i:Nat,(Instr.lookup 116 (.map (some ms)) (.string s) true).run Tryz.prog w=.ok (.tuple #[.int .i64 i,.bool (decide (s ∈ l.map eH))]) w:=by
 by_cases hm:s ∈ l.map eH
 ·obtain ⟨a,ha,rfl⟩:=List.mem_map.1 hm
  refine ⟨nr,?_⟩;rw [decide_eq_true hm];exact qU ny trivial true Tryz.underlying116 h (List.mem_map.2 ⟨a,ha,rfl⟩)
 ·refine ⟨0,?_⟩
  rw [decide_eq_false hm]
  have y:∀ p ∈ yV nr l,p.1 ≠ .string s:=fun p hp e=>by
   obtain ⟨a,ha,rfl⟩:=List.mem_map.1 hp;simp at e;exact hm (List.mem_map.2 ⟨a,ha,e⟩)
  obtain ⟨⟨es,ck,hb,hL⟩,h2,h3⟩:=h;rw [← hL] at h2 y;have I:∀ e ∈ es.toList,isStr e.key:=fun e he=>h2 (e.key,e.val) (List.mem_map.2 ⟨e,he,rfl⟩)
  rcases mJ ny (w:=w) trivial (k:=.string s) ⟨s,rfl,U⟩ es.toList I with ⟨h5,h6⟩ | ⟨i,J,h5,h6,h7⟩
  ·simp [Instr.lookup,run_underlying Tryz.underlying116,MapKept.run_getObj_map hb,ny.check w _ ⟨s,rfl,U⟩,h5,Result.andThen]
  ·exact absurd h7 (y (J.key,J.val) (List.mem_map.2 ⟨J,List.mem_of_getElem? h6,rfl⟩))
theorem D.Vy {S:Value→Prop} {b:Nat} {L:List (Value × Value)} {w:World} (h:nS S b L w) (y:TypeId):(Builtin.len_ #[116] y #[.map (some b)]).run Tryz.prog w=.ok (.int .i64 L.length) w:=by
 obtain ⟨⟨es,I,hb,J⟩,_,_⟩:=h;have e:L.length=es.size:=by rw [← J]; simp
 rw [e];exact run_len_map (P:=Tryz.prog) (w:=w) 116 y b es I (by kernel_rfl) hb
theorem D.RX {nr:Nat} {l:List A}:(yV nr l).length=l.length:=by simp [yV]
structure D.qN where
 bM:Nat
 bS:Nat
 bN:Nat
 bF:Nat
 bC:Nat
 ms:Nat
 ch:Nat
 sb:Nat
 nr:Nat
def D.qN.own (x:qN):List Nat:=[x.bM,x.bS,x.bN,x.bF,x.bC,x.ms,x.ch]
def D.qN.K (x:qN) (k:Nat):Prop:=k=x.ms∨k=x.bF∨k=x.ch
def D.qN.vX (x:qN):Array Value:=#[.pointer (some ⟨x.bM,0,none⟩),.pointer (some ⟨x.bS,0,none⟩),.pointer (some ⟨x.bN,0,none⟩),.pointer (some ⟨x.bF,0,none⟩),.pointer (some ⟨x.bC,0,none⟩)]
structure D.nN (x:qN) (n0:Nat) (fs:List A) (bst:List Nat) (w:World) (told:List A) (fb:List Nat):Prop where
 cM:w.heap[x.bM]? = some (.cells #[.map (some x.ms)] 116 (0,0))
 cS:w.heap[x.bS]? = some (.cells #[.pointer (some ⟨x.sb,0,none⟩)] 100 (0,0))
 cN:w.heap[x.bN]? = some (.cells #[.int .i64 x.nr] 3 (0,0))
 cF:w.heap[x.bF]? = some (.cells #[.bool true] 4 (0,0))
 cC:w.heap[x.bC]? = some (.cells #[.chan (some x.ch)] 262 (0,0))
 sn:nS isStr x.ms (yV x.nr (newL fs told)) w
 cH:∃ vs sd bb,w.heap[x.ch]? = some (.chan 301 ⟨vs⟩ false sd 0 false)∧IW w vs (newL fs told) bb∧∀ k ∈ bb,k ∈ fb∧n0≤k∧k ∉ x.own
 st:∃ rn,kR x.sb fs rn bst w
 few:fs.length+(newL fs told).length≤300
 tok:∀ t ∈ told,aW t
 nd:x.own.Nodup
 ow:∀ k ∈ x.own,k ∈ fb
 sN:∀ k ∈ bst,k ∈ fb∧k ∉ x.own
 lo:n0≤x.bM
 lt:∀ k ∈ fb,k < w.heap.size
structure D.rY (x:qN) (w:World) (fb:List Nat):Prop where
 cF:w.heap[x.bF]? = some (.cells #[.bool false] 4 (0,0))
 ow:∀ k ∈ x.own,k ∈ fb
 lt:∀ k ∈ fb,k < w.heap.size
def D.Vz (x:qN) (J:Nat) (fs:List A) (y:List Nat) (f:Bool) (w:World) (told:List A) (I:List Nat):Prop:=if f then nN x J fs y w told I else rY x w I
theorem D.nN.keep {x:qN} {n0:Nat} {fs:List A} {J:List Nat} {w w':World} {told:List A} {U:List Nat} (h:nN x n0 fs J w told U) (hk:∀ k ∈ U,w'.heap[k]? = w.heap[k]?) (hs:w.heap.size≤w'.heap.size):nN x n0 fs J w' told U:=by
 have I:∀ k ∈ x.own,w'.heap[k]? = w.heap[k]?:=fun k y=>hk k (h.ow k y)
 obtain ⟨vs,sd,bb,h1,h2,h3⟩:=h.cH;obtain ⟨rn,a0⟩:=h.st
 exact ⟨(I _ (by simp [qN.own])).trans h.cM,(I _ (by simp [qN.own])).trans h.cS,(I _ (by simp [qN.own])).trans h.cN,(I _ (by simp [qN.own])).trans h.cF,(I _ (by simp [qN.own])).trans h.cC,h.sn.same (I _ (by simp [qN.own])),
  ⟨vs,sd,bb,(I _ (by simp [qN.own])).trans h1,h2.keep fun k y=>hk k (h3 k y).1,h3⟩,⟨rn,a0.keep (fun k y=>hk k (h.sN k y).1) hs⟩,h.few,h.tok,h.nd,h.ow,h.sN,h.lo,fun k y=>κ (h.lt k y) hs⟩
theorem D.rY.keep {x:qN} {w w':World} {y:List Nat} (h:rY x w y) (J:∀ k ∈ y,w'.heap[k]? = w.heap[k]?) (U:w.heap.size≤w'.heap.size):rY x w' y:=
 ⟨(J _ (h.ow _ (by simp [qN.own]))).trans h.cF,h.ow,fun k I=>κ (h.lt k I) U⟩
theorem D.nN.same {x:qN} {I:Nat} {fs:List A} {y:List Nat} {w w':World} {told:List A} {J:List Nat} (h:nN x I fs y w told J) {a:A} (hok:aW a) (hm:a ∈ fs∨a ∈ newL fs told) (hb:Below w.heap.size w w'):
  Vt fs (told ++ [a])=true∧nN x I fs y w' (told ++ [a]) J:=by
 classical
 have e:newL fs (told ++ [a])=newL fs told:=by rw [zT,if_pos hm]
 refine ⟨?_,?_⟩
 ·rw [MZ]
  exact decide_eq_true (hm.elim .inl fun h=>.inr (.inl h))
 ·have k:=h.keep (fun k U=>hb.block k (h.lt k U)) hb.size
  exact ⟨k.cM,k.cS,k.cN,k.cF,k.cC,e ▸ k.sn,e ▸ k.cH,k.st,e ▸ k.few,fun t ht=>(μ.1 ht).elim (k.tok t) fun h=>by rw [List.mem_singleton.1 h]; exact hok,k.nd,k.ow,k.sN,k.lo,k.lt⟩
theorem Fa (x:qN) (n0:Nat) (fs:List A) (b2:List Nat) (br:∀ f ∈ fs,aW f) (told:List A) (fb:List Nat) (a:A) (c1:Value) (ba:List Nat) (b0:Nat) (w:World) (F:nN x n0 fs b2 w told fb) (bf:∀ k ∈ fb,k < b0) (hn:New b0 w ba) (ha:aJ w [.string a.name,c1] a ba) (hok:aW a):
  Calls Tryz.prog 192 (#[.agg #[.string a.name,c1]] ++ x.vX) w fun e w'=>e=.returned (.bool (Vt fs (told ++ [a])))∧(∃ a5,Vz x n0 fs b2 (Vt fs (told ++ [a])) w' (told ++ [a]) a5∧∀ k ∈ a5,k ∈ fb∨b0≤k)∧gX x.K w w':=by
 obtain ⟨Ae,ce,_,rfl⟩:=bG ha;have hA:Below w.heap.size w (w.alloc (.cells #[.string a.name,.slice Ae a.args.length ce] 33)):=ζ;have av:Jc a≤16777216:=by have:=Iy hok.ok; omega
 have hT:=η (qZ a (.string a.name) (.slice Ae a.args.length ce) ba _ (au.below ha hA) av);have hx:w.heap.size < (w.alloc (.cells #[.string a.name,.slice Ae a.args.length ce] 33)).heap.size:=by simp
 have y0:(w.alloc (.cells #[.string a.name,.slice Ae a.args.length ce] 33)).heap[w.heap.size]? = some (.cells #[.string a.name,.slice Ae a.args.length ce] 33 (0,0)):=ω _ _;have z0:(w.alloc (.cells #[.string a.name,.slice Ae a.args.length ce] 33)).cell? ⟨w.heap.size,0,none⟩=some (.string a.name):=ai y0;have z1:(w.alloc (.cells #[.string a.name,.slice Ae a.args.length ce] 33)).cell? ⟨w.heap.size,1,none⟩=some (.slice Ae a.args.length ce):=ai y0;have HF:=η F;have HA:=η hA;have bg:=η bf;have HN:=η hn;have b9:=η ha;have bt:=η y0;clear F bf hn ha hA y0 av;unfold qN.vX
 go_enter Tryz.func192,Tryz.ntmps192
 go_wp2_with fail
 refine hT.out.mono ?_;rintro e w2 ⟨rfl,af⟩;have a6:=η (HA.out.trans (af.mono HA.out.size));have bh:=κ hx af.size;have z0:=ξ af z0;have z1:=ξ af z1;have aw:=η (HF.out.keep (fun k y=>a6.out.block k (HF.out.lt k y)) a6.out.size);have bi:=η (au.below b9.out a6.out);have bj:Hid (w2.heap[w.heap.size]? = some (.cells #[.string a.name,.slice Ae a.args.length ce] 33 (0,0))):=η ((af.block _ hx).trans bt.out);clear hT af;have a2:∀ t ∈ newL fs told,aW t:=fun t ht=>HF.out.tok t (((qK fs told).2 t).1 ht).1
 have xM:w2.cell? ⟨x.bM,0,none⟩=some (.map (some x.ms)):=ai aw.out.cM;have xS:w2.cell? ⟨x.bS,0,none⟩=some (.pointer (some ⟨x.sb,0,none⟩)):=ai aw.out.cS;have xN:w2.cell? ⟨x.bN,0,none⟩=some (.int .i64 x.nr):=ai aw.out.cN;obtain ⟨vi,bc⟩:=O8 aw.out.sn (eH a) (rH hok.ok);have ag:=yQ a2 hok;generalize decide (eH a ∈ (newL fs told).map eH)=s1 at bc ag;unfold eH at bc
 cases s1 with
 | true=>
  have HD:=η (HF.out.same hok (.inr (ag.1 rfl)) a6.out);clear ag a2;go_wp2;go_ret;obtain ⟨e1,h1⟩:=HD.out;rw [e1];exact ⟨rfl,⟨fb,h1,fun k y=>.inl y⟩,gX.of_below a6.out⟩
 | false=>
  have I:a ∉ newL fs told:=fun h=>by have:=ag.2 h; simp at this
  obtain ⟨rn,bk⟩:=aw.out.st;have a7:=zM x.sb fs rn b2 a _ _ ba w2 bk bi.out hok.ok;have az:=yQ br hok;generalize decide (eH a ∈ fs.map eH)=s2 at a7 az;clear bk
  go_wp2_with fail
  refine a7.mono ?_;rintro e w3 ⟨rfl,a3⟩;clear a7 bc;have a8:=η (a6.out.trans (a3.mono a6.out.size));have xM:=ξ a3 xM;have xS:=ξ a3 xS;have xN:=ξ a3 xN;have z0:=ξ a3 z0;have z1:=ξ a3 z1;have bu:=κ bh a3.size
  cases s2 with
  | true=>
   have HD:=η (HF.out.same hok (.inl (az.1 rfl)) a8.out);clear ag az a2;go_wp2;go_ret;obtain ⟨e1,h1⟩:=HD.out;rw [e1];exact ⟨rfl,⟨fb,h1,fun k y=>.inl y⟩,gX.of_below a8.out⟩
  | false=>
   have J:a ∉ fs:=fun h=>by have:=az.2 h; simp at this
   have U:=η (HF.out.keep (fun k y=>a8.out.block k (HF.out.lt k y)) a8.out.size)
   obtain ⟨w4,bl,a9,a0,-⟩:=yC ny (w:=w3) trivial Tryz.underlying116 (k:=.string (eH a)) (.int .i64 x.nr) U.out.sn ⟨_,rfl,rH hok.ok⟩ (fun p hp e=>by
    obtain ⟨t,ht,rfl⟩:=List.mem_map.1 hp;simp at e
    exact I (zK (a2 t ht).ok hok.ok e ▸ ht))
   unfold eH at bl
   go_upto_region 6 with fail
   have am:=a0.size;have nd:=HF.out.nd;simp only [qN.own,List.nodup_cons,List.mem_cons,List.not_mem_nil,or_false,not_or,List.nodup_nil,and_true,not_false_eq_true] at nd;have k4:∀ k,k < w3.heap.size→k ≠ x.ms→w4.heap[k]? = w3.heap[k]?:=fun k h1 h2=>a0.block k h1 (fun e=>h2 (by injection e))
   have ko:∀ k ∈ x.own,k < w3.heap.size:=fun k y=>U.out.lt k (U.out.ow k y)
   have aa:=(k4 _ (ko _ (by simp [qN.own])) (by omega)).trans U.out.cS;have ab:=(k4 _ (ko _ (by simp [qN.own])) (by omega)).trans U.out.cM;have a4:=(k4 _ (ko _ (by simp [qN.own])) (by omega)).trans U.out.cF;have ac:=(k4 _ (ko _ (by simp [qN.own])) (by omega)).trans U.out.cC;have ao:=(k4 _ bu (by have:=HF.out.lt x.ms (HF.out.ow _ (by simp [qN.own])); omega)).trans ((a3.block _ bh).trans (bj.out));have bv:=η (ι ab (ι aa (ι a4 (ι ac (ι ao (ι a9 (ι a0 (ι k4 (ι am (ι nd (ι I J)))))))))));have c0:w4.cell? ⟨x.bS,0,none⟩=some (.pointer (some ⟨x.sb,0,none⟩)):=ai aa;have c1:w4.cell? ⟨x.bM,0,none⟩=some (.map (some x.ms)):=ai ab;have c2:w4.cell? ⟨x.bF,0,none⟩=some (.bool true):=ai a4;have c3:w4.frozen? ⟨x.bF,0,none⟩=false:=ax a4;have l2:=lt_of_cell c2;obtain ⟨bB,aD⟩:=U.out.st
   obtain ⟨Af,cf,aE⟩:∃ Af cf,w3.cell? ⟨x.sb,0,none⟩=some (.slice Af fs.length cf):=by
    obtain ⟨⟨Af,cf,_,_,_,_,_,_,_,_,h1,_⟩,_,_⟩:=aD;exact ⟨Af,cf,ai h1⟩
   have c4:w4.cell? ⟨x.sb,0,none⟩=some (.slice Af fs.length cf):=(World.cell?_of_block (k4 _ (lt_of_cell aE) (fun e=>(U.out.sN _ aD.own).2 (by have e:x.sb=x.ms:=e; rw [e]; simp [qN.own])))).trans aE
   have bw:∀ ty,(Builtin.len_ #[116] ty #[.map (some x.ms)]).run Tryz.prog w4.drew=.ok (.int .i64 ((newL fs told).length+1:Nat)) w4.drew:=fun ty=>by
    have:=Vy (w:=w4.drew) (a9.same rfl) ty;simpa [RX] using this
   have bA:=HF.out.few;have bE:(0:Int)≤fs.length:=by omega
   have bL:(0:Int)≤((newL fs told).length+1:Nat):=by omega
   have bO:(fs.length:Int)+((newL fs told).length+1:Nat)≤301:=by omega
   clear aD aE bl aa ab a4 ac ao a9 a0 am nd k4 ko I J ag az a2 xM xS xN z0 z1;go_region;clear c0 c1 c2 c3 c4 bw l2;obtain ⟨ab,aa,a4,ac,ao,a9,a0,k4,am,nd,I,J⟩:=bv.out
   have ae:newL fs (told ++ [a])=newL fs told ++ [a]:=by
    classical
    rw [zT,if_neg (fun h=>h.elim J I)]
   have b4:Vt fs (told ++ [a])=decide ((fs.length:Int)+((newL fs told).length+1)≤300):=by
    classical
    rw [MZ];refine decide_eq_decide.2 ⟨fun h=>?_,fun h=>?_⟩
    ·rcases h with h | h | h
     ·exact absurd h J
     ·exact absurd h I
     ·rw [ae,χ,List.length_singleton] at h; omega
    ·rw [ae,χ,List.length_singleton]; exact .inr (.inr (by omega))
   have bn:∀ v,(w4.setCell ⟨x.bF,0,none⟩ v).drew.heap[x.bF]? = some (.cells #[v] 4 (0,0)):=fun v=>by
    have:=bW (o:=0) (u:=v) a4;exact this
   have k5:∀ v k,k ≠ x.bF→(w4.setCell ⟨x.bF,0,none⟩ v).drew.heap[k]? = w4.heap[k]?:=fun v k y=>π _ _ _ _ y
   have s5:∀ v,(w4.setCell ⟨x.bF,0,none⟩ v).drew.heap.size=w4.heap.size:=fun v=>by simp [World.setCell]
   have bo:∀ v,gX x.K w (w4.setCell ⟨x.bF,0,none⟩ v).drew:=fun v=>by
    have h3:=a8.out;refine ⟨a0.os.trans h3.os,a0.tape.trans h3.tape,a0.output.trans h3.output,?_,fun k y hK=>?_⟩
    ·rw [s5]; exact τ h3.size am
    ·rw [k5 _ _ (fun e=>hK (.inr (.inl e))),k4 k (κ y h3.size) (fun e=>hK (.inl e)),h3.block k y]
   rw [← b4];generalize hgv:Vt fs (told ++ [a])=g at *;generalize hW:(w4.setCell ⟨x.bF,0,none⟩ (.bool g)).drew=W5 at *;have aL:=hW ▸ bn (.bool g);have k6:=fun k y=>hW ▸ k5 (.bool g) k y
   have s6:=hW ▸ s5 (.bool g);have a1:=hW ▸ bo (.bool g);clear bn k5 s5 bo hW;have q0:W5.cell? ⟨x.bF,0,none⟩=some (.bool g):=ai aL;have aq:∀ k ∈ x.own,k < w.heap.size:=fun k y=>HF.out.lt k (HF.out.ow k y)
   have bR:=aq x.bF (by simp [qN.own]);have q1:W5.cell? ⟨x.bC,0,none⟩=some (.chan (some x.ch)):=ai ((k6 _ (by omega)).trans ac);have b5:=(k6 w.heap.size (by omega)).trans ao;have q2:W5.cell? ⟨w.heap.size,0,none⟩=some (.string a.name):=ai b5;have q3:W5.cell? ⟨w.heap.size,1,none⟩=some (.slice Ae a.args.length ce):=ai b5
   cases g with
   | false=>
    have HD:Hid (rY x W5 fb∧gX x.K w W5):=η ⟨⟨aL,HF.out.ow,fun k y=>κ (HF.out.lt k y) a1.size⟩,a1⟩;clear b4 ae ab aa a4 ac ao a9 a0 k4 am nd I J aL k6 s6 a1 b5 aq;go_wp2;go_ret;rw [hgv];exact ⟨rfl,⟨fb,HD.out.1,fun k y=>.inl y⟩,HD.out.2⟩
   | true=>
    have bX:=of_decide_eq_true b4.symm;clear b4
    go_upto_region 8 with fail
    refine wJ ?_;obtain ⟨vs,sd,bb,b7,aM,ar⟩:=U.out.cH;have aR:W5.heap[x.ch]? = some (.chan 301 ⟨vs⟩ false sd 0 false):=(k6 _ (by omega)).trans ((k4 _ (κ (aq _ (by simp [qN.own])) a8.out.size) (by omega)).trans b7);have hlen:=aM.len;refine uU (i:=0) (by rfl) (by rfl) (v:=.chan (some x.ch)) (w':=W5) (by go_simp) ?_;refine uU (i:=1) (by rfl) (by rfl) (v:=.agg #[.string a.name,.slice Ae a.args.length ce]) (w':=W5) (by go_simp) ?_;refine TJ (i:=2) (w':=W5) (v:=.agg #[.string a.name,.slice Ae a.args.length ce]) (by rfl) (by rfl) (by go_simp; rfl) aR (by show vs.length < 301; omega) ?_;refine Hq (show Exit.then _ _ Exit.normal _ _ from ?_);have bp:x.ch < W5.heap.size:=ψ aR;have bq:=Go.Conc.heap_setChan W5 x.ch 301 ((⟨vs⟩:Array Value).push (.agg #[.string a.name,.slice Ae a.args.length ce])) false (sd+1) 0 false bp
    have k7:∀ k,k ≠ x.ch→(W5.setChan x.ch 301 ((⟨vs⟩:Array Value).push (.agg #[.string a.name,.slice Ae a.args.length ce])) false (sd+1) 0 false).heap[k]? = W5.heap[k]?:=fun k y=>by
     simp only [World.setChan]; rw [Array.getElem?_setIfInBounds_ne (by omega)]
    have s7:(W5.setChan x.ch 301 ((⟨vs⟩:Array Value).push (.agg #[.string a.name,.slice Ae a.args.length ce])) false (sd+1) 0 false).heap.size=W5.heap.size:=by simp [World.setChan]
    have o7:(W5.setChan x.ch 301 ((⟨vs⟩:Array Value).push (.agg #[.string a.name,.slice Ae a.args.length ce])) false (sd+1) 0 false).os=W5.os∧(W5.setChan x.ch 301 ((⟨vs⟩:Array Value).push (.agg #[.string a.name,.slice Ae a.args.length ce])) false (sd+1) 0 false).tape=W5.tape∧(W5.setChan x.ch 301 ((⟨vs⟩:Array Value).push (.agg #[.string a.name,.slice Ae a.args.length ce])) false (sd+1) 0 false).output=W5.output:=⟨rfl,rfl,rfl⟩;generalize W5.setChan x.ch 301 ((⟨vs⟩:Array Value).push (.agg #[.string a.name,.slice Ae a.args.length ce])) false (sd+1) 0 false=W7 at *;have q0:W7.cell? ⟨x.bF,0,none⟩=some (.bool true):=(World.cell?_of_block (k7 _ (by show x.bF ≠ x.ch; omega))).trans q0
    have HD:Hid ((∃ a5,nN x n0 fs b2 W7 (told ++ [a]) a5∧∀ k ∈ a5,k ∈ fb∨b0≤k)∧gX x.K w W7):=η (by
     have h3:=a8.out;have b3:=HF.out;have b6:w.heap.size≤W7.heap.size:=by rw [s7]; exact a1.size
     have kk:∀ k,k < w.heap.size→k ∉ x.own→W7.heap[k]? = w.heap[k]?:=fun k y bx=>by
      simp only [qN.own,List.mem_cons,List.not_mem_nil,or_false,not_or] at bx;rw [k7 k (by omega),k6 k (by omega),k4 k (κ y h3.size) (by omega),h3.block k y]
     have b1:∀ k ∈ ba,b0≤k∧k < w.heap.size∧k ∉ x.own:=fun k y=>by
      have h1:=HN.out.own k y;exact ⟨h1.1,(au.lt b9.out k y),fun hm=>by have:=bg.out k (b3.ow k hm); omega⟩
     obtain ⟨bz,b8⟩:=b3.st;refine ⟨⟨fb ++ ba,⟨?_,?_,?_,?_,?_,?_,⟨vs ++ [.agg #[.string a.name,.slice Ae a.args.length ce]],sd+1,bb ++ ba,?_,?_,?_⟩,⟨bz,b8.keep (fun k y=>kk k (b8.lt k y) (b3.sN k y).2) b6⟩,?_,?_,b3.nd,?_,?_,b3.lo,?_⟩,?_⟩,?_⟩
     ·rw [k7 _ (by omega),k6 _ (by omega)]; exact ab
     ·rw [k7 _ (by omega),k6 _ (by omega)]; exact aa
     ·rw [k7 _ (by omega),k6 _ (by omega),k4 _ (κ (aq _ (by simp [qN.own])) h3.size) (by omega),h3.block _ (aq _ (by simp [qN.own]))]; exact b3.cN
     ·rw [k7 _ (by omega)]; exact aL
     ·rw [k7 _ (by omega),k6 _ (by omega)]; exact ac
     ·rw [ae]
      have e:yV x.nr (newL fs told ++ [a])=yV x.nr (newL fs told) ++ [(.string (eH a),.int .i64 (x.nr:Nat))]:=by simp [yV]
      rw [e];exact a9.same (by rw [k7 _ (by omega),k6 _ (by omega)])
     ·rw [bq]; simp
     ·rw [ae]
      have hw:IW w vs (newL fs told) bb:=aM.keep fun k y=>(h3.block k (b3.lt k (ar k y).1)).symm
      exact (hw.keep fun k y=>kk k (b3.lt k (ar k y).1) (ar k y).2.2).snoc (au.keep b9.out fun k y=>kk k (b1 k y).2.1 (b1 k y).2.2)
     ·intro k y
      rcases μ.1 y with y | y
      ·exact ⟨Ξ _ (ar k y).1,(ar k y).2⟩
      ·have h1:=b1 k y
       have h2:=bg.out x.bM (b3.ow _ (by simp [qN.own]));have h4:=b3.lo;exact ⟨Ω _ y,by omega,h1.2.2⟩
     ·rw [ae,χ,List.length_singleton]; omega
     ·intro t ht
      rcases μ.1 ht with ht | ht
      ·exact b3.tok t ht
      ·rw [List.mem_singleton.1 ht]; exact hok
     ·exact fun k y=>Ξ _ (b3.ow k y)
     ·exact fun k y=>⟨Ξ _ (b3.sN k y).1,(b3.sN k y).2⟩
     ·intro k y
      rcases μ.1 y with y | y
      ·exact κ (b3.lt k y) b6
      ·exact κ (b1 k y).2.1 b6
     ·intro k y
      rcases μ.1 y with y | y
      ·exact .inl y
      ·exact .inr (b1 k y).1
     ·exact ⟨o7.1.trans a1.os,o7.2.1.trans a1.tape,o7.2.2.trans a1.output,b6,fun k y hK=>(k7 k (fun e=>hK (.inr (.inr e)))).trans (a1.block k y hK)⟩)
    clear ae ab aa a4 ac ao a9 a0 k4 am nd I J aL k6 s6 a1 b5 aq k7 s7 o7 bq aR aM ar b7;go_wp2;go_ret;rw [hgv];obtain ⟨⟨a5,h1,h2⟩,h3⟩:=HD.out;exact ⟨rfl,⟨a5,h1,h2⟩,h3⟩
theorem D.RY (x:qN) (n0:Nat) (fs:List A) (y:List Nat) (U:∀ f ∈ fs,aW f):Yj 192 x.vX x.K (Vz x n0 fs y) (Vt fs):=by
 refine ⟨enters_of Tryz.func192 (by kernel_rfl) rfl,fun {f w told I} h=>?_,fun {f w told I} h k J=>?_,fun {f w w' told I} h J hs=>?_,fun w told I a c1 ba b0 h a0 hn ha hok=>Fa x n0 fs y U told I a c1 ba b0 w h a0 hn ha hok⟩
 ·cases f with
  | true=>exact nN.lt h
  | false=>exact rY.lt h
 ·have ho:k ∈ x.own:=by
   rcases J with rfl | rfl | rfl <;> simp [qN.own]
  cases f with
  | true=>exact nN.ow h k ho
  | false=>exact rY.ow h k ho
 ·cases f with
  | true=>exact nN.keep h J hs
  | false=>exact rY.keep h J hs
end
section
open Go.Shelf Go.RowKit Go.Lib Go.Sort D
structure D.Fc where
 t:A
 c1:Value
def D.Fc.enc (x:Fc):List Value:=[.string x.t.name,x.c1]
abbrev D.oZ (w:World) (g:Nat):={ x:Fc // ∃ ba,aJ w [.string x.t.name,x.c1] x.t ba∧g ∉ ba }
def D.oZ.enc {w:World} {g:Nat} (x:oZ w g):List Value:=x.1.enc
def D.oZ.cf {w:World} {g:Nat} (x y:oZ w g):Int:=bU x.1.t y.1.t
theorem D.vM (w:World) (g:Nat) (f:Array Value→Array Value) {x:Nat} (h:x ≠ g):(mapBlock w g f).heap[x]? = w.heap[x]?:=by
 simp only [mapBlock,Array.getElem?_modify];rw [if_neg (fun e=>h e.symm)]
theorem D.Nh {α:Type} [Inhabited α] (enc:α→List Value) (k:Nat) (w:World) (g n:Nat) (d:Array α) (os:Array Obj) {x:Nat} (y:x < w.heap.size) (h:x ≠ g):(sortWorldK enc k w g 0 n d os).heap[x]? = w.heap[x]?:=by
 unfold sortWorldK
 have I:(grow (putRowK enc k (Go.Sort.ahead w n) g 0 d) os).heap[x]? = (putRowK enc k (Go.Sort.ahead w n) g 0 d).heap[x]?:=by
  show (_ ++ os)[x]? = _;rw [Array.getElem?_append_left (by rw [size_putRowK]; exact y)]
 rw [I];exact vM (Go.Sort.ahead w n) g _ h
theorem D.RZ {α:Type} [Inhabited α] (enc:α→List Value) (k:Nat) (w:World) (g n:Nat) (d:Array α) (os:Array Obj) {I:Array Value} {e:TypeId} (h:w.heap[g]? = some (.cells I e (0,0))):∃ y,(sortWorldK enc k w g 0 n d os).heap[g]? = some (.cells y e (0,0))∧y.size=I.size:=by
 have J:g < w.heap.size:=(Array.getElem?_eq_some_iff.1 h).1;unfold sortWorldK
 have U:(grow (putRowK enc k (Go.Sort.ahead w n) g 0 d) os).heap[g]? = (putRowK enc k (Go.Sort.ahead w n) g 0 d).heap[g]?:=by
  show (_ ++ os)[g]? = _;rw [Array.getElem?_append_left (by rw [size_putRowK]; exact J)]
 refine ⟨putCells id 0 (flatK enc k d) I,?_,?_⟩
 ·rw [U]
  show (mapBlock (Go.Sort.ahead w n) g (putCells id 0 (flatK enc k d))).heap[g]? = _;simp only [mapBlock,Array.getElem?_modify];rw [if_pos trivial];show (w.heap[g]?).map _=_;rw [h];rfl
 ·simp [putCells]
theorem D.GV {α:Type} [Inhabited α] (enc:α→List Value) (k:Nat) (w:World) (g n:Nat) (d:Array α) (os:Array Obj) (I:g < w.heap.size):gX (fun x=>x=g) w (sortWorldK enc k w g 0 n d os):=
 ⟨rfl,rfl,rfl,size_sortWorldK_c enc k w g 0 n d os,fun x y h=>Nh enc k w g n d os y h⟩
theorem D.Xb {w:World} {g:Nat}:SWO (ltOf (oZ.cf (w:=w) (g:=g))) where
 irrefl x:=by unfold ltOf oZ.cf; rw [uP]; rfl
 trans x y z h1 h2:=by
  unfold ltOf oZ.cf at *;simp only [decide_eq_true_eq] at *;rw [jL] at *;exact (nR iH).pF h1 (by omega)
 ntrans x y z h1 h2:=by
  unfold ltOf oZ.cf at *;simp only [decide_eq_false_iff_not] at *;rw [jL] at *;have I:=(nR iH).anti (sH x.1.t) (sH y.1.t);have J:=(nR iH).anti (sH y.1.t) (sH z.1.t);have U:=(nR iH).anti (sH x.1.t) (sH z.1.t);have a4:=(nR iH).trans (sH z.1.t) (sH y.1.t) (sH x.1.t) (by omega) (by omega);omega
theorem Fe (g cap:Nat) (xs:List Fc) (w:World) (hg:g < w.heap.size) (hc:∀ k x,xs[k]? = some x→w.cell? ⟨g,k * 2,none⟩=some (.string x.t.name)∧w.cell? ⟨g,k * 2+1,none⟩=some x.c1) (a8:∀ q,w.frozen? ⟨g,q,none⟩=false)
  (a3:∀ x ∈ xs,∃ ba,aJ w [.string x.t.name,x.c1] x.t ba∧g ∉ ba) (a9:xs.length < 4611686018427387904):
  Calls Tryz.prog 103 #[.slice (some ⟨g,0,none⟩) xs.length cap,.func (.func 64) #[] #[]] w fun e w'=>e=.returned (.tuple #[])∧
   ∃ ys:List Fc,ys.Perm xs∧ys.Pairwise (fun a b=>¬ bU b.t a.t < 0)∧(∀ k y,ys[k]? = some y→w'.cell? ⟨g,k * 2,none⟩=some (.string y.t.name)∧w'.cell? ⟨g,k * 2+1,none⟩=some y.c1)∧gX (fun x=>x=g) w w'∧
    ∀ I e,w.heap[g]? = some (.cells I e (0,0))→∃ a0,w'.heap[g]? = some (.cells a0 e (0,0))∧a0.size=I.size:=by
 cases hx:xs with
 | nil=>
  refine (AnyF.slices_SortFunc_none Tryz.sortA (some ⟨g,0,none⟩) cap (.func (.func 64) #[] #[]) w).mono ?_;rintro e w' ⟨rfl,rfl⟩;exact ⟨rfl,[],List.Perm.refl _,List.Pairwise.nil,fun k y h=>by simp at h,gX.refl _ _,fun I e h=>⟨I,h,rfl⟩⟩
 | cons x0 rest=>
  rw [← hx];have aa:x0 ∈ xs:=by rw [hx]; exact Γ
  letI:Inhabited (oZ w g):=⟨⟨x0,a3 x0 aa⟩⟩
  obtain ⟨L,hL⟩:∃ L:List (oZ w g),L=xs.attach.map (fun x=>⟨x.1,a3 x.1 x.2⟩):=⟨_,rfl⟩;have a1:L.map (·.1)=xs:=by rw [hL,List.map_map]; exact List.attach_map_subtype_val xs
  have hlen:L.length=xs.length:=by rw [← a1]; simp
  have a4:∀ (d:List (oZ w g)) (i:Nat) (h:i < d.length),d.toArray[i]! = d[i]:=fun d i h=>by simp [getElem!_pos,h]
  have hH:HoldsK oZ.enc 2 w g 0 L.toArray:=by
   intro j hj;simp only [size_flatK,List.size_toArray] at hj;refine ⟨?_,a8 _⟩;show w.cell? _=some ((flatK oZ.enc 2 L.toArray)[j]!);rw [get_flatK _ _ _ _ (by simpa using hj),a4 L (j / 2) (by omega)];have h1:=hc (j / 2) (L[j / 2]'(by omega)).1 (by rw [← a1,List.getElem?_map,Ψ (by omega)]; rfl);have e:0+j=j / 2 * 2+j % 2:=by omega
   rw [e]
   rcases (show j % 2=0∨j % 2=1 by omega) with h | h
   ·rw [h]; exact h1.1
   ·rw [h]; exact h1.2
  have a5:CmpLays Tryz.prog 64 #[] oZ.enc 2 (oZ.cf (w:=w) (g:=g)) g 0 L.toArray.size w:=fun m os dk ae x y=>by
   obtain ⟨b1,h1,n1⟩:=x.2;obtain ⟨b2,h2,n2⟩:=y.2;have hb:=GV oZ.enc 2 w g m dk os hg;refine (Dx x.1.t y.1.t (.string x.1.t.name) x.1.c1 (.string y.1.t.name) y.1.c1 b1 b2 (sortWorldK oZ.enc 2 w g 0 m dk os) (au.keep h1 fun b J=>hb.block b (au.lt h1 b J) (fun e=>n1 (e ▸ J))) (au.keep h2 fun b J=>hb.block b (au.lt h2 b J) (fun e=>n2 (e ▸ J)))).mono ?_;rintro e w' ⟨rfl,ab⟩;exact ⟨rfl,ab.is⟩
  have U:=AnyQ.slices_SortFunc Tryz.sortA 2 Tryz.isAgg33 Tryz.sizeOf33 oZ.enc (fun x=>rfl) (fun x v hv=>by
   obtain ⟨b1,h1,_⟩:=x.2;obtain ⟨Ad,cc,_,h3⟩:=bG h1;unfold oZ.enc Fc.enc at hv;rw [h3] at hv;simp at hv
   rcases hv with rfl | rfl <;> rfl) oZ.cf Xb 64 #[] g 0 cap L.toArray w (enters_of Tryz.func64 (by kernel_rfl) rfl) a5 hH hg (by simpa [hlen] using a9)
  have hs:L.toArray.size=xs.length:=by simp [hlen]
  rw [hs] at U;change Calls Tryz.prog 103 _ _ _ at U;refine U.mono ?_;rintro e w' ⟨rfl,d',n,os,hp,a6,rfl⟩;have hd:d'.size=xs.length:=by rw [hp.1,hs]
  have a7:=holdsK_sortWorldK_c oZ.enc 2 w g 0 L.toArray d' n os hH hg (by rw [hp.1]);refine ⟨rfl,d'.toList.map (·.1),?_,?_,fun k y hk=>?_,GV _ _ _ _ _ _ _ hg,fun I e h=>RZ _ _ _ _ _ _ _ h⟩
  ·have h3:=hp.2.2
   rw [Array.extract_eq_self_of_le (by omega),Array.extract_eq_self_of_le (by omega)] at h3;have h4:=h3.map (·.1)
   rwa [List.toList_toArray,a1] at h4
  ·refine List.pairwise_map.2 (List.pairwise_iff_getElem.2 fun i j hi hj ac=>?_)
   have h3:=a6 i j ε ac (by simp at hj; omega);rw [getElem!_pos d' i (by simpa using hi),getElem!_pos d' j (by simpa using hj)] at h3;unfold ltOf oZ.cf at h3;simpa using h3
  ·obtain ⟨z,hz,rfl⟩:∃ z,d'[k]? = some z∧z.1=y:=by
    rw [List.getElem?_map] at hk;obtain ⟨z,hz,rfl⟩:=Option.map_eq_some_iff.1 hk;exact ⟨z,by simpa using hz,rfl⟩
   obtain ⟨a2,rfl⟩:=Array.getElem?_eq_some_iff.1 hz;have c0:=(a7.cell (i:=k) (c:=0) a2 (by omega)).1;have c1:=(a7.cell (i:=k) (c:=1) a2 (by omega)).1;rw [getElem!_pos d' k a2] at c0 c1;rw [Nat.zero_add] at c0 c1;exact ⟨c0,c1⟩
end
end Go.Proofs.YtkjinanbccloeaaGreatDoor
