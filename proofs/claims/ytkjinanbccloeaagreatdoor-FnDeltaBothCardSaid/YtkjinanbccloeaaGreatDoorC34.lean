/- Of the proof of FnDeltaBoth: RndI, SFn, RouP. -/
import Derived.Test.YtkjinanbccloeaaGreatDoorC33
set_option linter.unusedVariables false
set_option maxHeartbeats 4000000
set_option maxRecDepth 100000
namespace Go.Proofs.YtkjinanbccloeaaGreatDoor
section
open Go.RowKit D
attribute [local go_sem ↓] Go.wp_at_zero Go.wp_at_succ
def D.JW (w:World):List Value→List A→List Nat→Prop
 | [],[],b=>b = []
 | v :: vs,a :: l,b=>∃ c y I,v=.agg #[.string a.name,c]∧b=y ++ I∧aK w [.string a.name,c] a y∧JW w vs l I
 | _,_,_=>False
theorem D.JW.len {w:World}:∀ {vs:List Value} {l:List A} {b:List Nat},JW w vs l b→vs.length=l.length
 | [],[],_,_=>rfl
 | v :: vs,a :: l,b,h=>by
  obtain ⟨_,_,_,_,_,_,h⟩:=h;simp [h.len]
 | [],a :: l,_,h=>h.elim
 | v :: vs,[],_,h=>h.elim
theorem D.JW.keep {w w':World}:∀ {vs:List Value} {l:List A} {b:List Nat},JW w vs l b→(∀ x ∈ b,w'.heap[x]? = w.heap[x]?)→JW w' vs l b
 | [],[],_,h,_=>h
 | v :: vs,a :: l,b,h,hk=>by
  obtain ⟨c,I,J,h1,U,h3,h4⟩:=h;subst U;exact ⟨c,I,J,h1,rfl,au.keep h3 fun x y=>hk x (Ξ _ y),h4.keep fun x y=>hk x (Ω _ y)⟩
 | [],a :: l,_,h,_=>h.elim
 | v :: vs,[],_,h,_=>h.elim
theorem D.JW.lt {w:World}:∀ {vs:List Value} {l:List A} {b:List Nat},JW w vs l b→∀ x ∈ b,x < w.heap.size
 | [],[],b,h,x,y=>by rw [show b = [] from h] at y; simp at y
 | v :: vs,a :: l,b,h,x,y=>by
  obtain ⟨c,b1,b2,h1,I,J,U⟩:=h;subst I
  rcases μ.1 y with y | y
  ·exact au.lt J x y
  ·exact U.lt x y
 | [],a :: l,_,h,_,_=>h.elim
 | v :: vs,[],_,h,_,_=>h.elim
theorem D.JW.snoc {w:World} {a:A} {c:Value} {ba:List Nat} (ha:aK w [.string a.name,c] a ba):∀ {vs:List Value} {l:List A} {b:List Nat},JW w vs l b→JW w (vs ++ [.agg #[.string a.name,c]]) (l ++ [a]) (b ++ ba)
 | [],[],b,h=>by
  rw [show b = [] from h];exact ⟨c,ba,[],rfl,by simp,ha,rfl⟩
 | v :: vs,a' :: l,b,h=>by
  obtain ⟨y,I,J,h1,U,h3,h4⟩:=h;subst U;exact ⟨y,I,J ++ ba,h1,by simp,h3,h4.snoc ha⟩
 | [],a :: l,_,h=>h.elim
 | v :: vs,[],_,h=>h.elim
def D.zI (nr:Nat) (l:List A):List (Value × Value):=l.map fun a=>(.string (fF a),.int .i64 (nr:Nat))
theorem D.PX {nr ms:Nat} {l:List A} {w:World} (h:oH isStr ms (zI nr l) w) (s:ByteArray) (U:s.size≤maxLen):
  ∃ i:Nat,(Instr.lookup 116 (.map (some ms)) (.string s) true).run Tryz.prog w=.ok (.tuple #[.int .i64 i,.bool (decide (s ∈ l.map fF))]) w:=by
 by_cases hm:s ∈ l.map fF
 ·obtain ⟨a,ha,rfl⟩:=List.mem_map.1 hm
  refine ⟨nr,?_⟩;rw [decide_eq_true hm];exact rH nR trivial true Tryz.underlying116 h (List.mem_map.2 ⟨a,ha,rfl⟩)
 ·refine ⟨0,?_⟩
  rw [decide_eq_false hm]
  have y:∀ p ∈ zI nr l,p.1 ≠ .string s:=fun p hp e=>by
   obtain ⟨a,ha,rfl⟩:=List.mem_map.1 hp;simp at e;exact hm (List.mem_map.2 ⟨a,ha,e⟩)
  obtain ⟨⟨es,ck,hb,hL⟩,h2,h3⟩:=h;rw [← hL] at h2 y;have I:∀ e ∈ es.toList,isStr e.key:=fun e he=>h2 (e.key,e.val) (List.mem_map.2 ⟨e,he,rfl⟩)
  rcases ni nR (w:=w) trivial (k:=.string s) ⟨s,rfl,U⟩ es.toList I with ⟨h5,h6⟩ | ⟨i,J,h5,h6,h7⟩
  ·simp [Instr.lookup,run_underlying Tryz.underlying116,MapKept.run_getObj_map hb,nR.check w _ ⟨s,rfl,U⟩,h5,Result.andThen]
  ·exact absurd h7 (y (J.key,J.val) (List.mem_map.2 ⟨J,List.mem_of_getElem? h6,rfl⟩))
theorem D.V7 {S:Value→Prop} {b:Nat} {L:List (Value × Value)} {w:World} (h:oH S b L w) (ty:TypeId):(Builtin.len_ #[116] ty #[.map (some b)]).run Tryz.prog w=.ok (.int .i64 L.length) w:=by
 obtain ⟨⟨es,y,hb,I⟩,_,_⟩:=h;have e:L.length=es.size:=by rw [← I]; simp
 rw [e];exact run_len_map (P:=Tryz.prog) (w:=w) 116 ty b es y (by kernel_rfl) hb
theorem D.Tj {nr:Nat} {l:List A}:(zI nr l).length=l.length:=by simp [zI]
structure D.rC where
 bM:Nat
 bS:Nat
 bN:Nat
 bF:Nat
 bC:Nat
 ms:Nat
 ch:Nat
 sb:Nat
 nr:Nat
def D.rC.own (x:rC):List Nat:=[x.bM,x.bS,x.bN,x.bF,x.bC,x.ms,x.ch]
def D.rC.K (x:rC) (k:Nat):Prop:=k=x.ms∨k=x.bF∨k=x.ch
def D.rC.wU (x:rC):Array Value:=#[.pointer (some ⟨x.bM,0,none⟩),.pointer (some ⟨x.bS,0,none⟩),.pointer (some ⟨x.bN,0,none⟩),.pointer (some ⟨x.bF,0,none⟩),.pointer (some ⟨x.bC,0,none⟩)]
structure D.oh (x:rC) (n0:Nat) (fs:List A) (bst:List Nat) (w:World) (told:List A) (fb:List Nat):Prop where
 cM:w.heap[x.bM]? = some (.cells #[.map (some x.ms)] 116 (0,0))
 cS:w.heap[x.bS]? = some (.cells #[.pointer (some ⟨x.sb,0,none⟩)] 100 (0,0))
 cN:w.heap[x.bN]? = some (.cells #[.int .i64 x.nr] 3 (0,0))
 cF:w.heap[x.bF]? = some (.cells #[.bool true] 4 (0,0))
 cC:w.heap[x.bC]? = some (.cells #[.chan (some x.ch)] 262 (0,0))
 sn:oH isStr x.ms (zI x.nr (newL fs told)) w
 cH:∃ vs sd bb,w.heap[x.ch]? = some (.chan 301 ⟨vs⟩ false sd 0 false)∧JW w vs (newL fs told) bb∧∀ k ∈ bb,k ∈ fb∧n0≤k∧k ∉ x.own
 st:∃ rn,kW x.sb fs rn bst w
 few:fs.length+(newL fs told).length≤300
 tok:∀ t ∈ told,bG t
 nd:x.own.Nodup
 ow:∀ k ∈ x.own,k ∈ fb
 tV:∀ k ∈ bst,k ∈ fb∧k ∉ x.own
 lo:n0≤x.bM
 lt:∀ k ∈ fb,k < w.heap.size
structure D.sV (x:rC) (w:World) (fb:List Nat):Prop where
 cF:w.heap[x.bF]? = some (.cells #[.bool false] 4 (0,0))
 ow:∀ k ∈ x.own,k ∈ fb
 lt:∀ k ∈ fb,k < w.heap.size
def D.V8 (x:rC) (J:Nat) (fs:List A) (y:List Nat) (f:Bool) (w:World) (told:List A) (I:List Nat):Prop:=if f then oh x J fs y w told I else sV x w I
theorem D.oh.keep {x:rC} {n0:Nat} {fs:List A} {J:List Nat} {w w':World} {told:List A} {U:List Nat} (h:oh x n0 fs J w told U) (hk:∀ k ∈ U,w'.heap[k]? = w.heap[k]?) (hs:w.heap.size≤w'.heap.size):oh x n0 fs J w' told U:=by
 have I:∀ k ∈ x.own,w'.heap[k]? = w.heap[k]?:=fun k y=>hk k (h.ow k y)
 obtain ⟨vs,sd,bb,h1,h2,h3⟩:=h.cH;obtain ⟨rn,a0⟩:=h.st
 exact ⟨(I _ (by simp [rC.own])).trans h.cM,(I _ (by simp [rC.own])).trans h.cS,(I _ (by simp [rC.own])).trans h.cN,(I _ (by simp [rC.own])).trans h.cF,(I _ (by simp [rC.own])).trans h.cC,h.sn.same (I _ (by simp [rC.own])),
  ⟨vs,sd,bb,(I _ (by simp [rC.own])).trans h1,h2.keep fun k y=>hk k (h3 k y).1,h3⟩,⟨rn,a0.keep (fun k y=>hk k (h.tV k y).1) hs⟩,h.few,h.tok,h.nd,h.ow,h.tV,h.lo,fun k y=>κ (h.lt k y) hs⟩
theorem D.sV.keep {x:rC} {w w':World} {y:List Nat} (h:sV x w y) (J:∀ k ∈ y,w'.heap[k]? = w.heap[k]?) (U:w.heap.size≤w'.heap.size):sV x w' y:=
 ⟨(J _ (h.ow _ (by simp [rC.own]))).trans h.cF,h.ow,fun k I=>κ (h.lt k I) U⟩
theorem D.oh.same {x:rC} {I:Nat} {fs:List A} {y:List Nat} {w w':World} {told:List A} {J:List Nat} (h:oh x I fs y w told J) {a:A} (hok:bG a) (hm:a ∈ fs∨a ∈ newL fs told) (hb:Below w.heap.size w w'):
  V3 fs (told ++ [a])=true∧oh x I fs y w' (told ++ [a]) J:=by
 classical
 have e:newL fs (told ++ [a])=newL fs told:=by rw [Bq,if_pos hm]
 refine ⟨?_,?_⟩
 ·rw [NU]
  exact decide_eq_true (hm.elim .inl fun h=>.inr (.inl h))
 ·have k:=h.keep (fun k U=>hb.block k (h.lt k U)) hb.size
  exact ⟨k.cM,k.cS,k.cN,k.cF,k.cC,e ▸ k.sn,e ▸ k.cH,k.st,e ▸ k.few,fun t ht=>(μ.1 ht).elim (k.tok t) fun h=>by rw [ώ.1 h]; exact hok,k.nd,k.ow,k.tV,k.lo,k.lt⟩
theorem GN (x:rC) (n0:Nat) (fs:List A) (b2:List Nat) (br:∀ f ∈ fs,bG f) (told:List A) (fb:List Nat) (a:A) (c1:Value) (ba:List Nat) (b0:Nat) (w:World) (F:oh x n0 fs b2 w told fb) (bf:∀ k ∈ fb,k < b0) (hn:New b0 w ba) (ha:aK w [.string a.name,c1] a ba) (hok:bG a):
  Calls Tryz.prog 192 (#[.agg #[.string a.name,c1]] ++ x.wU) w fun e w'=>e=.returned (.bool (V3 fs (told ++ [a])))∧(∃ a5,V8 x n0 fs b2 (V3 fs (told ++ [a])) w' (told ++ [a]) a5∧∀ k ∈ a5,k ∈ fb∨b0≤k)∧iC x.K w w':=by
 obtain ⟨Ae,ce,_,rfl⟩:=bY ha;have hA:Below w.heap.size w (w.alloc (.cells #[.string a.name,.slice Ae a.args.length ce] 33)):=ζ;have av:Ko a≤16777216:=by have:=JE hok.ok; omega
 have hT:=η (rQ a (.string a.name) (.slice Ae a.args.length ce) ba _ (au.below ha hA) av);have hx:w.heap.size < (w.alloc (.cells #[.string a.name,.slice Ae a.args.length ce] 33)).heap.size:=by simp
 have y0:(w.alloc (.cells #[.string a.name,.slice Ae a.args.length ce] 33)).heap[w.heap.size]? = some (.cells #[.string a.name,.slice Ae a.args.length ce] 33 (0,0)):=ω _ _;have z0:(w.alloc (.cells #[.string a.name,.slice Ae a.args.length ce] 33)).cell? ⟨w.heap.size,0,none⟩=some (.string a.name):=ai y0;have z1:(w.alloc (.cells #[.string a.name,.slice Ae a.args.length ce] 33)).cell? ⟨w.heap.size,1,none⟩=some (.slice Ae a.args.length ce):=ai y0;have HF:=η F;have HA:=η hA;have bg:=η bf;have HN:=η hn;have b9:=η ha;have bt:=η y0;clear F bf hn ha hA y0 av;unfold rC.wU
 go_enter Tryz.func192,Tryz.ntmps192
 go_wp2_with fail
 refine hT.out.mono ?_;rintro e w2 ⟨rfl,af⟩;have a6:=η (HA.out.trans (af.mono HA.out.size));have bh:=κ hx af.size;have z0:=ξ af z0;have z1:=ξ af z1;have aw:=η (HF.out.keep (fun k y=>a6.out.block k (HF.out.lt k y)) a6.out.size);have bi:=η (au.below b9.out a6.out);have bj:Hid (w2.heap[w.heap.size]? = some (.cells #[.string a.name,.slice Ae a.args.length ce] 33 (0,0))):=η ((af.block _ hx).trans bt.out);clear hT af;have a2:∀ t ∈ newL fs told,bG t:=fun t ht=>HF.out.tok t (((qZ fs told).2 t).1 ht).1
 have xM:w2.cell? ⟨x.bM,0,none⟩=some (.map (some x.ms)):=ai aw.out.cM;have xS:w2.cell? ⟨x.bS,0,none⟩=some (.pointer (some ⟨x.sb,0,none⟩)):=ai aw.out.cS;have xN:w2.cell? ⟨x.bN,0,none⟩=some (.int .i64 x.nr):=ai aw.out.cN;obtain ⟨vi,bc⟩:=PX aw.out.sn (fF a) (sG hok.ok);have ag:=zC a2 hok;generalize decide (fF a ∈ (newL fs told).map fF)=s1 at bc ag;unfold fF at bc
 cases s1 with
 | true=>
  have HD:=η (HF.out.same hok (.inr (ag.1 rfl)) a6.out);clear ag a2;go_wp2;go_ret;obtain ⟨e1,h1⟩:=HD.out;rw [e1];exact ⟨rfl,⟨fb,h1,fun k y=>.inl y⟩,iC.of_below a6.out⟩
 | false=>
  have I:a ∉ newL fs told:=fun h=>by have:=ag.2 h; simp at this
  obtain ⟨rn,bk⟩:=aw.out.st;have a7:=Bc x.sb fs rn b2 a _ _ ba w2 bk bi.out hok.ok;have az:=zC br hok;generalize decide (fF a ∈ fs.map fF)=s2 at a7 az;clear bk
  go_wp2_with fail
  refine a7.mono ?_;rintro e w3 ⟨rfl,a3⟩;clear a7 bc;have a8:=η (a6.out.trans (a3.mono a6.out.size));have xM:=ξ a3 xM;have xS:=ξ a3 xS;have xN:=ξ a3 xN;have z0:=ξ a3 z0;have z1:=ξ a3 z1;have bu:=κ bh a3.size
  cases s2 with
  | true=>
   have HD:=η (HF.out.same hok (.inl (az.1 rfl)) a8.out);clear ag az a2;go_wp2;go_ret;obtain ⟨e1,h1⟩:=HD.out;rw [e1];exact ⟨rfl,⟨fb,h1,fun k y=>.inl y⟩,iC.of_below a8.out⟩
  | false=>
   have J:a ∉ fs:=fun h=>by have:=az.2 h; simp at this
   have U:=η (HF.out.keep (fun k y=>a8.out.block k (HF.out.lt k y)) a8.out.size)
   obtain ⟨w4,bl,a9,a0,-⟩:=yY nR (w:=w3) trivial Tryz.underlying116 (k:=.string (fF a)) (.int .i64 x.nr) U.out.sn ⟨_,rfl,sG hok.ok⟩ (fun p hp e=>by
    obtain ⟨t,ht,rfl⟩:=List.mem_map.1 hp;simp at e
    exact I (AX (a2 t ht).ok hok.ok e ▸ ht))
   unfold fF at bl
   go_upto_region 6 with fail
   have am:=a0.size;have nd:=HF.out.nd;simp only [rC.own,List.nodup_cons,ύ,List.not_mem_nil,or_false,not_or,List.nodup_nil,and_true,not_false_eq_true] at nd;have k4:∀ k,k < w3.heap.size→k ≠ x.ms→w4.heap[k]? = w3.heap[k]?:=fun k h1 h2=>a0.block k h1 (fun e=>h2 (by injection e))
   have ko:∀ k ∈ x.own,k < w3.heap.size:=fun k y=>U.out.lt k (U.out.ow k y)
   have aa:=(k4 _ (ko _ (by simp [rC.own])) (by omega)).trans U.out.cS;have ab:=(k4 _ (ko _ (by simp [rC.own])) (by omega)).trans U.out.cM;have a4:=(k4 _ (ko _ (by simp [rC.own])) (by omega)).trans U.out.cF;have ac:=(k4 _ (ko _ (by simp [rC.own])) (by omega)).trans U.out.cC;have ao:=(k4 _ bu (by have:=HF.out.lt x.ms (HF.out.ow _ (by simp [rC.own])); omega)).trans ((a3.block _ bh).trans (bj.out));have bv:=η (ι ab (ι aa (ι a4 (ι ac (ι ao (ι a9 (ι a0 (ι k4 (ι am (ι nd (ι I J)))))))))));have c0:w4.cell? ⟨x.bS,0,none⟩=some (.pointer (some ⟨x.sb,0,none⟩)):=ai aa;have c1:w4.cell? ⟨x.bM,0,none⟩=some (.map (some x.ms)):=ai ab;have c2:w4.cell? ⟨x.bF,0,none⟩=some (.bool true):=ai a4;have c3:w4.frozen? ⟨x.bF,0,none⟩=false:=ax a4;have l2:=lt_of_cell c2;obtain ⟨bB,aD⟩:=U.out.st
   obtain ⟨Af,cf,aE⟩:∃ Af cf,w3.cell? ⟨x.sb,0,none⟩=some (.slice Af fs.length cf):=by
    obtain ⟨⟨Af,cf,_,_,_,_,_,_,_,_,h1,_⟩,_,_⟩:=aD;exact ⟨Af,cf,ai h1⟩
   have c4:w4.cell? ⟨x.sb,0,none⟩=some (.slice Af fs.length cf):=(World.cell?_of_block (k4 _ (lt_of_cell aE) (fun e=>(U.out.tV _ aD.own).2 (by have e:x.sb=x.ms:=e; rw [e]; simp [rC.own])))).trans aE
   have bw:∀ ty,(Builtin.len_ #[116] ty #[.map (some x.ms)]).run Tryz.prog w4.drew=.ok (.int .i64 ((newL fs told).length+1:Nat)) w4.drew:=fun ty=>by
    have:=V7 (w:=w4.drew) (a9.same rfl) ty;simpa [Tj] using this
   have bA:=HF.out.few;have bE:(0:Int)≤fs.length:=by omega
   have bL:(0:Int)≤((newL fs told).length+1:Nat):=by omega
   have bO:(fs.length:Int)+((newL fs told).length+1:Nat)≤301:=by omega
   clear aD aE bl aa ab a4 ac ao a9 a0 am nd k4 ko I J ag az a2 xM xS xN z0 z1;go_region;clear c0 c1 c2 c3 c4 bw l2;obtain ⟨ab,aa,a4,ac,ao,a9,a0,k4,am,nd,I,J⟩:=bv.out
   have ae:newL fs (told ++ [a])=newL fs told ++ [a]:=by
    classical
    rw [Bq,if_neg (fun h=>h.elim J I)]
   have b4:V3 fs (told ++ [a])=decide ((fs.length:Int)+((newL fs told).length+1)≤300):=by
    classical
    rw [NU];refine decide_eq_decide.2 ⟨fun h=>?_,fun h=>?_⟩
    ·rcases h with h | h | h
     ·exact absurd h J
     ·exact absurd h I
     ·rw [ae,χ,List.length_singleton] at h; omega
    ·rw [ae,χ,List.length_singleton]; exact .inr (.inr (by omega))
   have bn:∀ v,(w4.setCell ⟨x.bF,0,none⟩ v).drew.heap[x.bF]? = some (.cells #[v] 4 (0,0)):=fun v=>by
    have:=dw (o:=0) (u:=v) a4;exact this
   have k5:∀ v k,k ≠ x.bF→(w4.setCell ⟨x.bF,0,none⟩ v).drew.heap[k]? = w4.heap[k]?:=fun v k y=>π _ _ _ _ y
   have s5:∀ v,(w4.setCell ⟨x.bF,0,none⟩ v).drew.heap.size=w4.heap.size:=fun v=>by simp [World.setCell]
   have bo:∀ v,iC x.K w (w4.setCell ⟨x.bF,0,none⟩ v).drew:=fun v=>by
    have h3:=a8.out;refine ⟨a0.os.trans h3.os,a0.tape.trans h3.tape,a0.output.trans h3.output,?_,fun k y hK=>?_⟩
    ·rw [s5]; exact τ h3.size am
    ·rw [k5 _ _ (fun e=>hK (.inr (.inl e))),k4 k (κ y h3.size) (fun e=>hK (.inl e)),h3.block k y]
   rw [← b4];generalize hgv:V3 fs (told ++ [a])=g at *;generalize hW:(w4.setCell ⟨x.bF,0,none⟩ (.bool g)).drew=W5 at *;have aL:=hW ▸ bn (.bool g);have k6:=fun k y=>hW ▸ k5 (.bool g) k y
   have s6:=hW ▸ s5 (.bool g);have a1:=hW ▸ bo (.bool g);clear bn k5 s5 bo hW;have q0:W5.cell? ⟨x.bF,0,none⟩=some (.bool g):=ai aL;have aq:∀ k ∈ x.own,k < w.heap.size:=fun k y=>HF.out.lt k (HF.out.ow k y)
   have bR:=aq x.bF (by simp [rC.own]);have q1:W5.cell? ⟨x.bC,0,none⟩=some (.chan (some x.ch)):=ai ((k6 _ (by omega)).trans ac);have b5:=(k6 w.heap.size (by omega)).trans ao;have q2:W5.cell? ⟨w.heap.size,0,none⟩=some (.string a.name):=ai b5;have q3:W5.cell? ⟨w.heap.size,1,none⟩=some (.slice Ae a.args.length ce):=ai b5
   cases g with
   | false=>
    have HD:Hid (sV x W5 fb∧iC x.K w W5):=η ⟨⟨aL,HF.out.ow,fun k y=>κ (HF.out.lt k y) a1.size⟩,a1⟩;clear b4 ae ab aa a4 ac ao a9 a0 k4 am nd I J aL k6 s6 a1 b5 aq;go_wp2;go_ret;rw [hgv];exact ⟨rfl,⟨fb,HD.out.1,fun k y=>.inl y⟩,HD.out.2⟩
   | true=>
    have bX:=of_decide_eq_true b4.symm;clear b4
    go_upto_region 8 with fail
    refine xw ?_;obtain ⟨vs,sd,bb,b7,aM,ar⟩:=U.out.cH;have aR:W5.heap[x.ch]? = some (.chan 301 ⟨vs⟩ false sd 0 false):=(k6 _ (by omega)).trans ((k4 _ (κ (aq _ (by simp [rC.own])) a8.out.size) (by omega)).trans b7);have hlen:=aM.len;refine vO (i:=0) (by rfl) (by rfl) (v:=.chan (some x.ch)) (w':=W5) (by go_simp) ?_;refine vO (i:=1) (by rfl) (by rfl) (v:=.agg #[.string a.name,.slice Ae a.args.length ce]) (w':=W5) (by go_simp) ?_;refine Ut (i:=2) (w':=W5) (v:=.agg #[.string a.name,.slice Ae a.args.length ce]) (by rfl) (by rfl) (by go_simp; rfl) aR (by show vs.length < 301; omega) ?_;refine Jg (show Exit.then _ _ Exit.normal _ _ from ?_);have bp:x.ch < W5.heap.size:=ψ aR;have bq:=Go.Conc.heap_setChan W5 x.ch 301 ((⟨vs⟩:Array Value).push (.agg #[.string a.name,.slice Ae a.args.length ce])) false (sd+1) 0 false bp
    have k7:∀ k,k ≠ x.ch→(W5.setChan x.ch 301 ((⟨vs⟩:Array Value).push (.agg #[.string a.name,.slice Ae a.args.length ce])) false (sd+1) 0 false).heap[k]? = W5.heap[k]?:=fun k y=>by
     simp only [World.setChan]; rw [Array.getElem?_setIfInBounds_ne (by omega)]
    have s7:(W5.setChan x.ch 301 ((⟨vs⟩:Array Value).push (.agg #[.string a.name,.slice Ae a.args.length ce])) false (sd+1) 0 false).heap.size=W5.heap.size:=by simp [World.setChan]
    have o7:(W5.setChan x.ch 301 ((⟨vs⟩:Array Value).push (.agg #[.string a.name,.slice Ae a.args.length ce])) false (sd+1) 0 false).os=W5.os∧(W5.setChan x.ch 301 ((⟨vs⟩:Array Value).push (.agg #[.string a.name,.slice Ae a.args.length ce])) false (sd+1) 0 false).tape=W5.tape∧(W5.setChan x.ch 301 ((⟨vs⟩:Array Value).push (.agg #[.string a.name,.slice Ae a.args.length ce])) false (sd+1) 0 false).output=W5.output:=⟨rfl,rfl,rfl⟩;generalize W5.setChan x.ch 301 ((⟨vs⟩:Array Value).push (.agg #[.string a.name,.slice Ae a.args.length ce])) false (sd+1) 0 false=W7 at *;have q0:W7.cell? ⟨x.bF,0,none⟩=some (.bool true):=(World.cell?_of_block (k7 _ (by show x.bF ≠ x.ch; omega))).trans q0
    have HD:Hid ((∃ a5,oh x n0 fs b2 W7 (told ++ [a]) a5∧∀ k ∈ a5,k ∈ fb∨b0≤k)∧iC x.K w W7):=η (by
     have h3:=a8.out;have b3:=HF.out;have b6:w.heap.size≤W7.heap.size:=by rw [s7]; exact a1.size
     have kk:∀ k,k < w.heap.size→k ∉ x.own→W7.heap[k]? = w.heap[k]?:=fun k y bx=>by
      simp only [rC.own,ύ,List.not_mem_nil,or_false,not_or] at bx;rw [k7 k (by omega),k6 k (by omega),k4 k (κ y h3.size) (by omega),h3.block k y]
     have b1:∀ k ∈ ba,b0≤k∧k < w.heap.size∧k ∉ x.own:=fun k y=>by
      have h1:=HN.out.own k y;exact ⟨h1.1,(au.lt b9.out k y),fun hm=>by have:=bg.out k (b3.ow k hm); omega⟩
     obtain ⟨bz,b8⟩:=b3.st;refine ⟨⟨fb ++ ba,⟨?_,?_,?_,?_,?_,?_,⟨vs ++ [.agg #[.string a.name,.slice Ae a.args.length ce]],sd+1,bb ++ ba,?_,?_,?_⟩,⟨bz,b8.keep (fun k y=>kk k (b8.lt k y) (b3.tV k y).2) b6⟩,?_,?_,b3.nd,?_,?_,b3.lo,?_⟩,?_⟩,?_⟩
     ·rw [k7 _ (by omega),k6 _ (by omega)]; exact ab
     ·rw [k7 _ (by omega),k6 _ (by omega)]; exact aa
     ·rw [k7 _ (by omega),k6 _ (by omega),k4 _ (κ (aq _ (by simp [rC.own])) h3.size) (by omega),h3.block _ (aq _ (by simp [rC.own]))]; exact b3.cN
     ·rw [k7 _ (by omega)]; exact aL
     ·rw [k7 _ (by omega),k6 _ (by omega)]; exact ac
     ·rw [ae]
      have e:zI x.nr (newL fs told ++ [a])=zI x.nr (newL fs told) ++ [(.string (fF a),.int .i64 (x.nr:Nat))]:=by simp [zI]
      rw [e];exact a9.same (by rw [k7 _ (by omega),k6 _ (by omega)])
     ·rw [bq]; simp
     ·rw [ae]
      have hw:JW w vs (newL fs told) bb:=aM.keep fun k y=>(h3.block k (b3.lt k (ar k y).1)).symm
      exact (hw.keep fun k y=>kk k (b3.lt k (ar k y).1) (ar k y).2.2).snoc (au.keep b9.out fun k y=>kk k (b1 k y).2.1 (b1 k y).2.2)
     ·intro k y
      rcases μ.1 y with y | y
      ·exact ⟨Ξ _ (ar k y).1,(ar k y).2⟩
      ·have h1:=b1 k y
       have h2:=bg.out x.bM (b3.ow _ (by simp [rC.own]));have h4:=b3.lo;exact ⟨Ω _ y,by omega,h1.2.2⟩
     ·rw [ae,χ,List.length_singleton]; omega
     ·intro t ht
      rcases μ.1 ht with ht | ht
      ·exact b3.tok t ht
      ·rw [ώ.1 ht]; exact hok
     ·exact fun k y=>Ξ _ (b3.ow k y)
     ·exact fun k y=>⟨Ξ _ (b3.tV k y).1,(b3.tV k y).2⟩
     ·intro k y
      rcases μ.1 y with y | y
      ·exact κ (b3.lt k y) b6
      ·exact κ (b1 k y).2.1 b6
     ·intro k y
      rcases μ.1 y with y | y
      ·exact .inl y
      ·exact .inr (b1 k y).1
     ·exact ⟨o7.1.trans a1.os,o7.2.1.trans a1.tape,o7.2.2.trans a1.output,b6,fun k y hK=>(k7 k (fun e=>hK (.inr (.inr e)))).trans (a1.block k y hK)⟩)
    clear ae ab aa a4 ac ao a9 a0 k4 am nd I J aL k6 s6 a1 b5 aq k7 s7 o7 bq aR aM ar b7;go_wp2;go_ret;rw [hgv];obtain ⟨⟨a5,h1,h2⟩,h3⟩:=HD.out;exact ⟨rfl,⟨a5,h1,h2⟩,h3⟩
theorem D.Tm (x:rC) (n0:Nat) (fs:List A) (y:List Nat) (U:∀ f ∈ fs,bG f):YM 192 x.wU x.K (V8 x n0 fs y) (V3 fs):=by
 refine ⟨enters_of Tryz.func192 (by kernel_rfl) rfl,fun {f w told I} h=>?_,fun {f w told I} h k J=>?_,fun {f w w' told I} h J hs=>?_,fun w told I a c1 ba b0 h a0 hn ha hok=>GN x n0 fs y U told I a c1 ba b0 w h a0 hn ha hok⟩
 ·cases f with
  | true=>exact oh.lt h
  | false=>exact sV.lt h
 ·have ho:k ∈ x.own:=by
   rcases J with rfl | rfl | rfl <;> simp [rC.own]
  cases f with
  | true=>exact oh.ow h k ho
  | false=>exact sV.ow h k ho
 ·cases f with
  | true=>exact oh.keep h J hs
  | false=>exact sV.keep h J hs
end
section
open Go.Shelf Go.RowKit Go.Lib Go.Sort D
structure D.Fc where
 t:A
 c1:Value
def D.Fc.enc (x:Fc):List Value:=[.string x.t.name,x.c1]
abbrev D.qg (w:World) (g:Nat):={ x:Fc // ∃ ba,aK w [.string x.t.name,x.c1] x.t ba∧g ∉ ba }
def D.qg.enc {w:World} {g:Nat} (x:qg w g):List Value:=x.1.enc
def D.qg.cf {w:World} {g:Nat} (x y:qg w g):Int:=dh x.1.t y.1.t
theorem D.wI (w:World) (g:Nat) (f:Array Value→Array Value) {x:Nat} (h:x ≠ g):(mapBlock w g f).heap[x]? = w.heap[x]?:=by
 simp only [mapBlock,Array.getElem?_modify];rw [if_neg (fun e=>h e.symm)]
theorem D.NZ {α:Type} [Inhabited α] (enc:α→List Value) (k:Nat) (w:World) (g n:Nat) (d:Array α) (os:Array Obj) {x:Nat} (y:x < w.heap.size) (h:x ≠ g):(sortWorldK enc k w g 0 n d os).heap[x]? = w.heap[x]?:=by
 unfold sortWorldK
 have I:(grow (putRowK enc k (Go.Sort.ahead w n) g 0 d) os).heap[x]? = (putRowK enc k (Go.Sort.ahead w n) g 0 d).heap[x]?:=by
  show (_ ++ os)[x]? = _;rw [Array.getElem?_append_left (by rw [size_putRowK]; exact y)]
 rw [I];exact wI (Go.Sort.ahead w n) g _ h
theorem D.Tn {α:Type} [Inhabited α] (enc:α→List Value) (k:Nat) (w:World) (g n:Nat) (d:Array α) (os:Array Obj) {I:Array Value} {e:TypeId} (h:w.heap[g]? = some (.cells I e (0,0))):∃ y,(sortWorldK enc k w g 0 n d os).heap[g]? = some (.cells y e (0,0))∧y.size=I.size:=by
 have J:g < w.heap.size:=(Array.getElem?_eq_some_iff.1 h).1;unfold sortWorldK
 have U:(grow (putRowK enc k (Go.Sort.ahead w n) g 0 d) os).heap[g]? = (putRowK enc k (Go.Sort.ahead w n) g 0 d).heap[g]?:=by
  show (_ ++ os)[g]? = _;rw [Array.getElem?_append_left (by rw [size_putRowK]; exact J)]
 refine ⟨putCells id 0 (flatK enc k d) I,?_,?_⟩
 ·rw [U]
  show (mapBlock (Go.Sort.ahead w n) g (putCells id 0 (flatK enc k d))).heap[g]? = _;simp only [mapBlock,Array.getElem?_modify];rw [if_pos trivial];show (w.heap[g]?).map _=_;rw [h];rfl
 ·simp [putCells]
theorem D.IY {α:Type} [Inhabited α] (enc:α→List Value) (k:Nat) (w:World) (g n:Nat) (d:Array α) (os:Array Obj) (I:g < w.heap.size):iC (fun x=>x=g) w (sortWorldK enc k w g 0 n d os):=
 ⟨rfl,rfl,rfl,size_sortWorldK_c enc k w g 0 n d os,fun x y h=>NZ enc k w g n d os y h⟩
theorem D.XE {w:World} {g:Nat}:SWO (ltOf (qg.cf (w:=w) (g:=g))) where
 irrefl x:=by unfold ltOf qg.cf; rw [vK]; rfl
 trans x y z h1 h2:=by
  unfold ltOf qg.cf at *;simp only [decide_eq_true_eq] at *;rw [jQ] at *;exact (oG iP).qj h1 (by omega)
 ntrans x y z h1 h2:=by
  unfold ltOf qg.cf at *;simp only [decide_eq_false_iff_not] at *;rw [jQ] at *;have I:=(oG iP).anti (tJ x.1.t) (tJ y.1.t);have J:=(oG iP).anti (tJ y.1.t) (tJ z.1.t);have U:=(oG iP).anti (tJ x.1.t) (tJ z.1.t);have a4:=(oG iP).trans (tJ z.1.t) (tJ y.1.t) (tJ x.1.t) (by omega) (by omega);omega
theorem GR (g cap:Nat) (xs:List Fc) (w:World) (hg:g < w.heap.size) (hc:∀ k x,xs[k]? = some x→w.cell? ⟨g,k * 2,none⟩=some (.string x.t.name)∧w.cell? ⟨g,k * 2+1,none⟩=some x.c1) (a8:∀ q,w.frozen? ⟨g,q,none⟩=false)
  (a3:∀ x ∈ xs,∃ ba,aK w [.string x.t.name,x.c1] x.t ba∧g ∉ ba) (a9:xs.length < 4611686018427387904):
  Calls Tryz.prog 103 #[.slice (some ⟨g,0,none⟩) xs.length cap,.func (.func 64) #[] #[]] w fun e w'=>e=.returned (.tuple #[])∧
   ∃ ys:List Fc,ys.Perm xs∧ys.Pairwise (fun a b=>¬ dh b.t a.t < 0)∧(∀ k y,ys[k]? = some y→w'.cell? ⟨g,k * 2,none⟩=some (.string y.t.name)∧w'.cell? ⟨g,k * 2+1,none⟩=some y.c1)∧iC (fun x=>x=g) w w'∧
    ∀ I e,w.heap[g]? = some (.cells I e (0,0))→∃ a0,w'.heap[g]? = some (.cells a0 e (0,0))∧a0.size=I.size:=by
 cases hx:xs with
 | nil=>
  refine (AnyF.slices_SortFunc_none Tryz.sortA (some ⟨g,0,none⟩) cap (.func (.func 64) #[] #[]) w).mono ?_;rintro e w' ⟨rfl,rfl⟩;exact ⟨rfl,[],List.Perm.refl _,List.Pairwise.nil,fun k y h=>by simp at h,iC.refl _ _,fun I e h=>⟨I,h,rfl⟩⟩
 | cons x0 rest=>
  rw [← hx];have aa:x0 ∈ xs:=by rw [hx]; exact Γ
  letI:Inhabited (qg w g):=⟨⟨x0,a3 x0 aa⟩⟩
  obtain ⟨L,hL⟩:∃ L:List (qg w g),L=xs.attach.map (fun x=>⟨x.1,a3 x.1 x.2⟩):=⟨_,rfl⟩;have a1:L.map (·.1)=xs:=by rw [hL,List.map_map]; exact List.attach_map_subtype_val xs
  have hlen:L.length=xs.length:=by rw [← a1]; simp
  have a4:∀ (d:List (qg w g)) (i:Nat) (h:i < d.length),d.toArray[i]! = d[i]:=fun d i h=>by simp [getElem!_pos,h]
  have hH:HoldsK qg.enc 2 w g 0 L.toArray:=by
   intro j hj;simp only [size_flatK,List.size_toArray] at hj;refine ⟨?_,a8 _⟩;show w.cell? _=some ((flatK qg.enc 2 L.toArray)[j]!);rw [get_flatK _ _ _ _ (by simpa using hj),a4 L (j / 2) (by omega)];have h1:=hc (j / 2) (L[j / 2]'(by omega)).1 (by rw [← a1,List.getElem?_map,Ψ (by omega)]; rfl);have e:0+j=j / 2 * 2+j % 2:=by omega
   rw [e]
   rcases (show j % 2=0∨j % 2=1 by omega) with h | h
   ·rw [h]; exact h1.1
   ·rw [h]; exact h1.2
  have a5:CmpLays Tryz.prog 64 #[] qg.enc 2 (qg.cf (w:=w) (g:=g)) g 0 L.toArray.size w:=fun m os dk ae x y=>by
   obtain ⟨b1,h1,n1⟩:=x.2;obtain ⟨b2,h2,n2⟩:=y.2;have hb:=IY qg.enc 2 w g m dk os hg;refine (EO x.1.t y.1.t (.string x.1.t.name) x.1.c1 (.string y.1.t.name) y.1.c1 b1 b2 (sortWorldK qg.enc 2 w g 0 m dk os) (au.keep h1 fun b J=>hb.block b (au.lt h1 b J) (fun e=>n1 (e ▸ J))) (au.keep h2 fun b J=>hb.block b (au.lt h2 b J) (fun e=>n2 (e ▸ J)))).mono ?_;rintro e w' ⟨rfl,ab⟩;exact ⟨rfl,ab.is⟩
  have U:=AnyQ.slices_SortFunc Tryz.sortA 2 Tryz.isAgg33 Tryz.sizeOf33 qg.enc (fun x=>rfl) (fun x v hv=>by
   obtain ⟨b1,h1,_⟩:=x.2;obtain ⟨Ad,cc,_,h3⟩:=bY h1;unfold qg.enc Fc.enc at hv;rw [h3] at hv;simp at hv
   rcases hv with rfl | rfl <;> rfl) qg.cf XE 64 #[] g 0 cap L.toArray w (enters_of Tryz.func64 (by kernel_rfl) rfl) a5 hH hg (by simpa [hlen] using a9)
  have hs:L.toArray.size=xs.length:=by simp [hlen]
  rw [hs] at U;change Calls Tryz.prog 103 _ _ _ at U;refine U.mono ?_;rintro e w' ⟨rfl,d',n,os,hp,a6,rfl⟩;have hd:d'.size=xs.length:=by rw [hp.1,hs]
  have a7:=holdsK_sortWorldK_c qg.enc 2 w g 0 L.toArray d' n os hH hg (by rw [hp.1]);refine ⟨rfl,d'.toList.map (·.1),?_,?_,fun k y hk=>?_,IY _ _ _ _ _ _ _ hg,fun I e h=>Tn _ _ _ _ _ _ _ h⟩
  ·have h3:=hp.2.2
   rw [Array.extract_eq_self_of_le (by omega),Array.extract_eq_self_of_le (by omega)] at h3;have h4:=h3.map (·.1)
   rwa [List.toList_toArray,a1] at h4
  ·refine List.pairwise_map.2 (List.pairwise_iff_getElem.2 fun i j hi hj ac=>?_)
   have h3:=a6 i j ε ac (by simp at hj; omega);rw [getElem!_pos d' i (by simpa using hi),getElem!_pos d' j (by simpa using hj)] at h3;unfold ltOf qg.cf at h3;simpa using h3
  ·obtain ⟨z,hz,rfl⟩:∃ z,d'[k]? = some z∧z.1=y:=by
    rw [List.getElem?_map] at hk;obtain ⟨z,hz,rfl⟩:=Option.map_eq_some_iff.1 hk;exact ⟨z,by simpa using hz,rfl⟩
   obtain ⟨a2,rfl⟩:=Array.getElem?_eq_some_iff.1 hz;have c0:=(a7.cell (i:=k) (c:=0) a2 (by omega)).1;have c1:=(a7.cell (i:=k) (c:=1) a2 (by omega)).1;rw [getElem!_pos d' k a2] at c0 c1;rw [Nat.zero_add] at c0 c1;exact ⟨c0,c1⟩
end
section
open Go.RowKit D
theorem D.Tq (w:World) (o:Obj) (k:Nat):(w.alloc o).heap[k]? = if k=w.heap.size then some o else w.heap[k]?:=by
 by_cases h:k=w.heap.size
 ·rw [if_pos h,h]; exact ω w o
 ·rw [if_neg h]
  by_cases y:k < w.heap.size
  ·exact Below.heap_alloc w o k y
  ·have I:(w.alloc o).heap.size=w.heap.size+1:=by simp
   rw [Array.getElem?_eq_none (by omega),Array.getElem?_eq_none (by omega)]
def D.rx (z sb nr:Nat):rC:=⟨z+1+1+1+1+1,z,z+1,z+1+1+1+1+1+1,z+1+1+1,z+1+1+1+1,z+1+1,sb,nr⟩
def D.rW (w:World) (sb nr:Nat):World:=(((((((w.alloc (.cells #[.pointer (some ⟨sb,0,none⟩)] 100)).alloc (.cells #[.int .i64 nr] 3)).alloc (.chan 301 #[] false 0 0 false)).alloc (.cells #[.chan (some (w.heap.size+1+1))] 262)).alloc (.map #[] 0)).alloc
 (.cells #[.map (some (w.heap.size+1+1+1+1))] 116)).alloc (.cells #[.bool true] 4))
theorem D.QB (w:World) (sb nr:Nat):(rW w sb nr).heap.size=w.heap.size+7:=by unfold rW; simp
theorem D.vC (w:World) (sb nr:Nat) (k:Nat):(rW w sb nr).heap[k]? = if k=w.heap.size+6 then some (.cells #[.bool true] 4) else if k=w.heap.size+5 then some (.cells #[.map (some (w.heap.size+1+1+1+1))] 116) else if k=w.heap.size+4 then some (.map #[] 0) else
  if k=w.heap.size+3 then some (.cells #[.chan (some (w.heap.size+1+1))] 262) else if k=w.heap.size+2 then some (.chan 301 #[] false 0 0 false) else if k=w.heap.size+1 then some (.cells #[.int .i64 nr] 3) else if k=w.heap.size then some (.cells #[.pointer (some ⟨sb,0,none⟩)] 100) else w.heap[k]?:=by
 unfold rW;simp only [Tq];simp
theorem D.N8 (w:World) (sb nr:Nat):Below w.heap.size w (rW w sb nr):=by
 refine ⟨rfl,rfl,rfl,by rw [QB]; omega,fun k y=>?_⟩;rw [vC];simp only [show ¬ k=w.heap.size+6 by omega,show ¬ k=w.heap.size+5 by omega,show ¬ k=w.heap.size+4 by omega,show ¬ k=w.heap.size+3 by omega,show ¬ k=w.heap.size+2 by omega,show ¬ k=w.heap.size+1 by omega,show ¬ k=w.heap.size by omega,if_false]
theorem D.Tt (w:World) (sb nr:Nat) (fs:List A) (rn I:List Nat) (J:kW sb fs rn I w) (hl:fs.length≤300):oh (rx w.heap.size sb nr) w.heap.size fs I (rW w sb nr) [] (I ++ (rx w.heap.size sb nr).own):=by
 have hb:=N8 w sb nr;have U:newL fs [] = []:=rfl;have lt:=J.lt;have es:(rx w.heap.size sb nr).own = [w.heap.size+5,w.heap.size,w.heap.size+1,w.heap.size+6,w.heap.size+3,w.heap.size+4,w.heap.size+2]:=rfl;refine ⟨?_,?_,?_,?_,?_,?_,⟨[],0,[],?_,?_,?_⟩,⟨rn,J.below hb⟩,by rw [U]; simpa using hl,fun t ht=>by simp at ht,?_,?_,?_,?_,?_⟩
 ·show (rW w sb nr).heap[w.heap.size+5]? = _
  rw [vC]; simp; rfl
 ·show (rW w sb nr).heap[w.heap.size]? = _
  rw [vC]; simp; rfl
 ·show (rW w sb nr).heap[w.heap.size+1]? = _
  rw [vC]; simp; rfl
 ·show (rW w sb nr).heap[w.heap.size+6]? = _
  rw [vC]; simp
 ·show (rW w sb nr).heap[w.heap.size+3]? = _
  rw [vC]; simp; rfl
 ·rw [U]
  have:(rW w sb nr).heap[w.heap.size+4]? = some (.map #[] 0):=by rw [vC]; simp
  exact ⟨⟨#[],0,this,rfl⟩,fun p h=>by simp [zI] at h,List.Pairwise.nil⟩
 ·show (rW w sb nr).heap[w.heap.size+2]? = _
  rw [vC]; simp
 ·rw [U]; rfl
 ·exact fun k y=>by simp at y
 ·rw [es]; simp
 ·exact fun k y=>Ω _ y
 ·intro k y
  have:=lt k y;refine ⟨Ξ _ y,fun hm=>?_⟩;rw [es] at hm; simp at hm; omega
 ·show w.heap.size≤w.heap.size+5; omega
 ·intro k y
  rw [QB]
  rcases μ.1 y with y | y
  ·have:=lt k y; omega
  ·rw [es] at y; simp at y; omega
theorem D.V9 {rs:List Ru} {xs:List A} {k:Nat} (h:k < rs.length) (t:A):(∃ r ∈ rs.take (k+1),lU xs r t) ↔ (∃ r ∈ rs.take k,lU xs r t)∨lU xs rs[k] t:=by
 rw [ρ h];constructor
 ·rintro ⟨r,hr,hf⟩
  rcases μ.1 hr with hr | hr
  ·exact .inl ⟨r,hr,hf⟩
  ·rw [ώ.1 hr] at hf; exact .inr hf
 ·rintro (⟨r,hr,hf⟩ | hf)
  ·exact ⟨r,Ξ _ hr,hf⟩
  ·exact ⟨_,Ω _ (ώ.2 rfl),hf⟩
structure D.XQ where
 B:Nat
 sb:Nat
 mu:Nat
 mp:Nat
 nr:Nat
 B0:Nat
 bS:Nat
 bN:Nat
 ch:Nat
 mc:Nat
 sd:Nat
 Fb:Nat→Prop
 fr:List Nat
 f2:List Nat
 fs:List A
 rn:List Nat
 new:List A
structure D.N9 (x:XQ):Prop where
 sub:∀ k ∈ x.fr,k ∈ x.f2
 mS:x.bS ∈ x.f2
 mN:x.bN ∈ x.f2
 mH:x.ch ∈ x.f2
 mM:x.mc ∈ x.f2
 nH:¬ x.Fb x.ch
 nM:¬ x.Fb x.mc
 df:x.bS ≠ x.ch∧x.bN ≠ x.ch∧x.mc ≠ x.ch∧x.mc ≠ x.bS∧x.mc ≠ x.bN
 fh:x.ch ∉ x.fr
 fm:x.mc ∉ x.fr
 lH:x.B0≤x.ch
 lM:x.B0≤x.mc
 b0:x.B0≤x.sb∧x.B0≤x.mu∧x.B0≤x.mp∧x.B0≤x.B
 fok:∀ f ∈ x.fs,bG f
 nok:∀ f ∈ x.new,bG f
 nd:x.new.Nodup
 no:∀ t ∈ x.new,t ∉ x.fs
 few:x.fs.length+x.new.length≤300
 rfew:x.rn.length≤300
structure D.Gf (x:XQ) (w:World) (k:Nat) (wr:World):Prop where
 bel:Below x.B0 w wr
 kep:∀ k ∈ x.fr,wr.heap[k]? = w.heap[k]?
 cS:wr.heap[x.bS]? = some (.cells #[.pointer (some ⟨x.sb,0,none⟩)] 100 (0,0))
 cN:wr.heap[x.bN]? = some (.cells #[.int .i64 x.nr] 3 (0,0))
 chn:∃ vs bb,wr.heap[x.ch]? = some (.chan 301 ⟨vs⟩ true x.sd k false)∧JW wr vs (x.new.drop k) bb∧∀ k ∈ bb,k ∈ x.f2∧x.Fb k
 tV:jO x.B x.sb x.mu x.mp x.Fb x.f2 (x.fs ++ x.new.take k) (x.rn ++ List.replicate k x.nr) wr
 cam:∃ n L f,iQ x.mc n L f wr∧n≤k∧(∀ s,s ∈ L ↔ ∃ t ∈ x.new.take k,t.name=s)∧∀ s ∈ L,1≤f s∧f s≤(k:Int)
structure D.sW (x:XQ) (w:World) (k:Nat) (a:A) (c:Value) (ba:List Nat) (wr:World):Prop where
 bel:Below x.B0 w wr
 kep:∀ k ∈ x.fr,wr.heap[k]? = w.heap[k]?
 cS:wr.heap[x.bS]? = some (.cells #[.pointer (some ⟨x.sb,0,none⟩)] 100 (0,0))
 cN:wr.heap[x.bN]? = some (.cells #[.int .i64 x.nr] 3 (0,0))
 chn:∃ vs bb,wr.heap[x.ch]? = some (.chan 301 ⟨vs⟩ true x.sd (k+1) false)∧JW wr vs (x.new.drop (k+1)) bb∧∀ k ∈ bb,k ∈ x.f2∧x.Fb k
 tV:jO x.B x.sb x.mu x.mp x.Fb x.f2 (x.fs ++ x.new.take k) (x.rn ++ List.replicate k x.nr) wr
 cam:∃ n L f,iQ x.mc n L f wr∧n≤k∧(∀ s,s ∈ L ↔ ∃ t ∈ x.new.take k,t.name=s)∧∀ s ∈ L,1≤f s∧f s≤(k:Int)
 at':aK wr [.string a.name,c] a ba
 bas:∀ k ∈ ba,k ∈ x.f2∧x.Fb k
theorem D.Gf.recv {x:XQ} (X:N9 x) {w:World} {k:Nat} {wr:World} (h:Gf x w k wr) (hk:k < x.new.length):
  ∃ c vs ba,wr.heap[x.ch]? = some (.chan 301 ⟨.agg #[.string x.new[k].name,c] :: vs⟩ true x.sd k false)∧sW x w k x.new[k] c ba (wr.setChan x.ch 301 ⟨vs⟩ true x.sd (k+1) false):=by
 obtain ⟨U,bb,h1,h2,J⟩:=h.chn;rw [List.drop_eq_getElem_cons hk] at h2
 cases U with
 | nil=>exact h2.elim
 | cons v vs=>
  obtain ⟨c,b1,b2,rfl,rfl,h4,h5⟩:=h2;have a0:=ψ h1;have hc:=Go.Conc.heap_setChan wr x.ch 301 ⟨vs⟩ true x.sd (k+1) false a0
  have I:∀ j,j ≠ x.ch→(wr.setChan x.ch 301 ⟨vs⟩ true x.sd (k+1) false).heap[j]? = wr.heap[j]?:=fun j y=>by
   simp only [World.setChan]; rw [Array.getElem?_setIfInBounds_ne (by omega)]
  have hs:(wr.setChan x.ch 301 ⟨vs⟩ true x.sd (k+1) false).heap.size=wr.heap.size:=by simp [World.setChan]
  have nF:∀ j,x.Fb j→j ≠ x.ch:=fun j y e=>X.nH (e ▸ y)
  obtain ⟨n,L,f,m1,m2⟩:=h.cam
  refine ⟨c,vs,b1,h1,⟨?_,fun j y=>(I j (fun e=>X.fh (e ▸ y))).trans (h.kep j y),(I _ X.df.1).trans h.cS,(I _ X.df.2.1).trans h.cN,⟨vs,b2,hc,h5.keep fun j y=>I j (nF j (J j (Ω _ y)).2),fun j y=>J j (Ω _ y)⟩,
   h.tV.other X.mH X.nH (by rw [hs]; exact ν) (fun j _ y=>I j y),⟨n,L,f,m1.same (I _ X.df.2.2.1),m2⟩,au.keep h4 fun j y=>I j (nF j (J j (Ξ _ y)).2),fun j y=>J j (Ξ _ y)⟩⟩
  exact Go.Conc.below_setChan h.bel X.lH 301 ⟨vs⟩ true x.sd (k+1) false
theorem D.sW.later {x:XQ} (X:N9 x) {w:World} {k:Nat} {a:A} {c:Value} {ba:List Nat} {wr w':World} (h:sW x w k a c ba wr) (I:Below wr.heap.size wr w'):sW x w k a c ba w':=by
 have lt:=h.tV.lt;have b0:=X.b0;have k2:∀ j ∈ x.f2,w'.heap[j]? = wr.heap[j]?:=fun j y=>I.block j (lt.2.2 j y)
 obtain ⟨vs,bb,h1,U,J⟩:=h.chn;obtain ⟨n,L,f,m1,m2⟩:=h.cam
 exact ⟨h.bel.trans (I.mono (by omega)),fun j y=>(k2 j (X.sub j y)).trans (h.kep j y),(k2 _ X.mS).trans h.cS,(k2 _ X.mN).trans h.cN,⟨vs,bb,(k2 _ X.mH).trans h1,U.keep fun j y=>k2 j (J j y).1,J⟩,h.tV.later I,⟨n,L,f,m1.same (k2 _ X.mM),m2⟩,
  au.keep h.at' fun j y=>k2 j (h.bas j y).1,h.bas⟩
theorem D.sW.done {x:XQ} (X:N9 x) {w:World} {k:Nat} (hk:k < x.new.length) {c:Value} {ba:List Nat} {wr U w6:World} (h:sW x w k x.new[k] c ba wr) (hb:Below x.B0 wr U) (hS:jO x.B x.sb x.mu x.mp x.Fb x.f2 (x.fs ++ x.new.take k ++ [x.new[k]]) (x.rn ++ List.replicate k x.nr ++ [x.nr]) U)
  (hf:∀ j ∈ x.f2,U.heap[j]? = wr.heap[j]?) {n:Nat} {L:List ByteArray} {f:ByteArray→Int} (hM:iQ x.mc (n+1) (ig L x.new[k].name) (fun t=>if t=x.new[k].name then (if x.new[k].name ∈ L then f x.new[k].name else 0)+1 else f t) w6) (hg:U.grownBy w6 (some x.mc))
  (hn:n≤k) (hL:∀ s,s ∈ L ↔ ∃ t ∈ x.new.take k,t.name=s) (hv:∀ s ∈ L,1≤f s∧f s≤(k:Int)):Gf x w (k+1) w6:=by
 have a0:=hS.lt;have k6:∀ j,j < U.heap.size→j ≠ x.mc→w6.heap[j]? = U.heap[j]?:=fun j h1 h2=>hg.block j h1 (fun e=>h2 (by injection e))
 have nF:∀ j,x.Fb j→j ≠ x.mc:=fun j y e=>X.nM (e ▸ y)
 have kk:∀ j ∈ x.f2,j ≠ x.mc→w6.heap[j]? = wr.heap[j]?:=fun j y I=>(k6 j (a0.2.2 j y) I).trans (hf j y)
 obtain ⟨vs,bb,h1,h2,h3⟩:=h.chn;have et:x.new.take (k+1)=x.new.take k ++ [x.new[k]]:=ρ hk;refine ⟨?_,fun j y=>(kk j (X.sub j y) (fun e=>X.fm (e ▸ y))).trans (h.kep j y),(kk _ X.mS X.df.2.2.2.1.symm).trans h.cS,(kk _ X.mN X.df.2.2.2.2.symm).trans h.cN,⟨vs,bb,(kk _ X.mH X.df.2.2.1.symm).trans h1,h2.keep fun j y=>kk j (h3 j y).1 (nF j (h3 j y).2),h3⟩,?_,⟨n+1,_,_,hM,by omega,fun s=>?_,fun s hs=>?_⟩⟩
 ·exact (h.bel.trans hb).grown hg (by have:=X.b0; omega) fun j e=>by injection e with e; have:=X.lM; omega
 ·rw [et,← List.append_assoc,List.replicate_succ',← List.append_assoc]
  exact hS.other X.mM X.nM hg.size (fun j h1 h2=>k6 j h1 h2)
 ·rw [jA,hL,et]
  constructor
  ·rintro (⟨t,J,e⟩ | e)
   ·exact ⟨t,Ξ _ J,e⟩
   ·exact ⟨x.new[k],Ω _ (ώ.2 rfl),e.symm⟩
  ·rintro ⟨t,J,e⟩
   rcases μ.1 J with J | J
   ·exact .inl ⟨t,J,e⟩
   ·rw [ώ.1 J] at e; exact .inr e.symm
 ·show 1≤(if s=x.new[k].name then _ else f s)∧(if s=x.new[k].name then _ else f s)≤((k+1:Nat):Int)
  split
  ·split
   ·rename_i hm
    have:=hv _ hm;omega
   ·omega
  ·rename_i I
   rcases jA.1 hs with h | h
   ·have:=hv s h; omega
   ·exact absurd h I
def D.rcv (B sb mu mp nr B0 z mc sd:Nat) (Fb:Nat→Prop) (fr bb:List Nat) (fs:List A) (rn:List Nat) (new:List A):XQ:=
 ⟨B,sb,mu,mp,nr,B0,z,z+1,z+1+1,mc,sd,fun k=>Fb k∧k ≠ z+2∧k ≠ mc,fr,fr ++ ([z,z+1,z+2,mc] ++ bb),fs,rn,new⟩
theorem D.Yz {B sb mu mp nr B0 mc sd:Nat} {Fb:Nat→Prop} {fr bb y fb:List Nat} {fs told:List A} {rn:List Nat} {w wr:World} (S:jO B sb mu mp Fb fr fs rn w) (F:oh (rx w.heap.size sb nr) w.heap.size fs y wr told fb) (hb:w.heap.size < wr.heap.size) (a0:mc=wr.heap.size) (I:B0≤sb∧B0≤mu∧B0≤mp∧B0≤B) (J:∀ f ∈ fs,bG f) (U:rn.length≤300):
  N9 (rcv B sb mu mp nr B0 w.heap.size mc sd Fb fr bb fs rn (newL fs told)):=by
 have lt:=S.lt;have hn:=qZ fs told;have l2:w.heap.size+2 < wr.heap.size:=F.lt _ (F.ow (w.heap.size+2) (by show _ ∈ [_,_,_,_,_,_,_]; simp [rx]));refine ⟨fun k hk=>Ξ _ hk,by simp [rcv],by simp [rcv],by simp [rcv],by simp [rcv],fun h=>h.2.1 rfl,fun h=>h.2.2 rfl,?_,fun h=>?_,fun h=>?_,?_,?_,I,J,fun t ht=>F.tok t ((hn.2 t).1 ht).1,hn.1,fun t ht=>((hn.2 t).1 ht).2,F.few,U⟩
 ·simp only [rcv]; omega
 ·have h1:w.heap.size+2 < w.heap.size:=lt.2.2 _ h; omega
 ·have h1:mc < w.heap.size:=lt.2.2 _ h; omega
 ·simp only [rcv]; omega
 ·simp only [rcv]; omega
theorem D.Tv {B sb mu mp nr B0 sd:Nat} {Fb:Nat→Prop} {fr bb a1 fb:List Nat} {fs told:List A} {rn:List Nat} {w wr:World} {vs:List Value} (a2:∀ x,B≤x→Fb x) (S:jO B sb mu mp Fb fr fs rn w) (F:oh (rx w.heap.size sb nr) w.heap.size fs a1 wr told fb) (hb:Below w.heap.size w wr) (a3:B0≤sb∧B0≤mu∧B0≤mp∧B0≤B)
  (h1:wr.heap[w.heap.size+1+1]? = some (.chan 301 ⟨vs⟩ false sd 0 false)) (h2:JW wr vs (newL fs told) bb) (h3:∀ k ∈ bb,k ∈ fb∧w.heap.size≤k∧k ∉ (rx w.heap.size sb nr).own):
  Gf (rcv B sb mu mp nr B0 w.heap.size wr.heap.size sd Fb fr bb fs rn (newL fs told)) w 0 ((wr.setChan (w.heap.size+1+1) 301 ⟨vs⟩ true sd 0 false).alloc (.map #[] 0)):=by
 have lt:=S.lt;have I:(wr.setChan (w.heap.size+1+1) 301 ⟨vs⟩ true sd 0 false).heap.size=wr.heap.size:=by simp [World.setChan]
 have hH:=Go.Conc.heap_setChan wr (w.heap.size+1+1) 301 ⟨vs⟩ true sd 0 false (ψ h1)
 have ko:∀ j,j ≠ w.heap.size+1+1→(wr.setChan (w.heap.size+1+1) 301 ⟨vs⟩ true sd 0 false).heap[j]? = wr.heap[j]?:=fun j y=>by
  simp only [World.setChan]; rw [Array.getElem?_setIfInBounds_ne (by omega)]
 have J:∀ j,j < wr.heap.size→((wr.setChan (w.heap.size+1+1) 301 ⟨vs⟩ true sd 0 false).alloc (.map #[] 0)).heap[j]? = (wr.setChan (w.heap.size+1+1) 301 ⟨vs⟩ true sd 0 false).heap[j]?:=fun j y=>Below.heap_alloc _ _ _ (by rw [I]; exact y)
 have own:∀ j ∈ (rx w.heap.size sb nr).own,j < wr.heap.size:=fun j y=>F.lt j (F.ow j y)
 have o0:w.heap.size < wr.heap.size:=own _ (by show _ ∈ [_,_,_,_,_,_,_]; simp [rx]);have o1:w.heap.size+1 < wr.heap.size:=own _ (by show _ ∈ [_,_,_,_,_,_,_]; simp [rx]);have o2:w.heap.size+2 < wr.heap.size:=ψ h1;have a0:Below w.heap.size w ((wr.setChan (w.heap.size+1+1) 301 ⟨vs⟩ true sd 0 false).alloc (.map #[] 0)):=(Go.Conc.below_setChan hb (by omega) 301 ⟨vs⟩ true sd 0 false).alloc (by rw [I]; exact hb.size) _;have hz:((wr.setChan (w.heap.size+1+1) 301 ⟨vs⟩ true sd 0 false).alloc (.map #[] 0)).heap.size=wr.heap.size+1:=by simp [I]
 refine ⟨a0.mono (by show B0≤_; omega),fun j y=>a0.block j (lt.2.2 j y),?_,?_,⟨vs,bb,?_,?_,?_⟩,?_,⟨0,[],fun _=>0,?_,ν,fun s=>by simp,fun s hs=>by simp at hs⟩⟩
 ·show (World.alloc _ _).heap[w.heap.size]? = _
  rw [J _ o0,ko _ (by omega)]; exact F.cS
 ·show (World.alloc _ _).heap[w.heap.size+1]? = _
  rw [J _ o1,ko _ (by omega)]; exact F.cN
 ·show (World.alloc _ _).heap[w.heap.size+2]? = _
  rw [J _ o2]; exact hH
 ·show JW _ vs (List.drop 0 (newL fs told)) bb
  rw [List.drop_zero];refine h2.keep fun j y=>?_
  have g:=h3 j y;rw [J _ (h2.lt j y),ko _ (fun e=>g.2.2 (by rw [e]; show _ ∈ [_,_,_,_,_,_,_]; simp [rx]))]
 ·intro j y
  have g:=h3 j y;have gl:=h2.lt j y;refine ⟨by simp [rcv,y],a2 j (by omega),fun e=>g.2.2 (by rw [e]; show _ ∈ [_,_,_,_,_,_,_]; simp [rx]),?_⟩;show j ≠ wr.heap.size;omega
 ·have h:=(S.mono (Fb':=fun k=>Fb k∧k ≠ w.heap.size+2∧k ≠ wr.heap.size) fun x U hl=>⟨U,by omega,by omega⟩).more a0 ([w.heap.size,w.heap.size+1,w.heap.size+2,wr.heap.size] ++ bb) (fun x U=>by
   rw [hz]
   rcases μ.1 U with U | U
   ·simp at U; omega
   ·have:=(h3 x U).2.1; have:=h2.lt x U; omega)
  simpa [rcv] using h
 ·have:=iQ.made (wr.setChan (w.heap.size+1+1) 301 ⟨vs⟩ true sd 0 false) (fun _=>0)
  rw [I] at this;exact this
end
end Go.Proofs.YtkjinanbccloeaaGreatDoor
