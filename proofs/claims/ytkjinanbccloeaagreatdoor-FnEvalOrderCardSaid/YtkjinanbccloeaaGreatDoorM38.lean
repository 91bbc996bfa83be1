/- Of the proof of FnEval,FnEvalOrder,FnEvalMore: ValI, FolR, jf. -/
import Derived.RangeFuncNested
import Derived.RangeFuncBound
import Derived.Sort.MapsRangeIn
import Derived.Test.YtkjinanbccloeaaGreatDoorM37
set_option linter.unusedVariables false
set_option maxHeartbeats 4000000
set_option maxRecDepth 100000
namespace Go.Proofs.YtkjinanbccloeaaGreatDoor
open Go.RowKit Go.Maps Go.Sort D
attribute [local go_sem] Oper.semAt_some
def D.Fe.val (x:Fe):Value:=.agg #[.string x.t.name,x.c1]
abbrev D.vI (E:List Fe) (w0:World):={ x:Fe // x ∈ E∧aN x.t∧aG w0 [.string x.t.name,x.c1] x.t x.ba }
def D.uq (v:Value):Option (DataW Value × List MemPlace):=some (.held v,[])
theorem D.L6 (w:World):(zeroValue 33).run Tryz.prog w=.ok (.agg #[.string ⟨#[]⟩,.slice none 0 0]) w:=by kernel_rfl
theorem D.RG {b:Nat} {Lf:List (Value × Value)} {w:World} (hL:fV isStr b Lf w) (hT:iM b w) (U:Lf.length≤maxLen):
  ∃ es I,w.heap[b]? = some (.map es I)∧es.toList.map (fun e=>(e.key,e.val))=Lf∧Go.WideElems.Fit Tryz.prog 9 uq es I:=by
 obtain ⟨⟨es,I,hb,he⟩,h2,h3⟩:=hL;obtain ⟨a0,a1,y,t1,t2⟩:=hT;rw [hb] at y;cases y;refine ⟨es,I,hb,he,⟨?_,⟨t1,t2,?_⟩,fun x hx=>?_⟩⟩
 ·rw [← he] at U
  simpa using U
 ·have:es.toList.map (·.key)=Lf.map (·.1):=by rw [← he]; simp
  rw [this];exact List.pairwise_map.2 h3
 ·obtain ⟨s,e1,e2⟩:=h2 (x.key,x.val) (by rw [← he]; exact List.mem_map.2 ⟨x,hx,rfl⟩)
  refine ⟨(ru s,.held x.val),?_⟩;have J:x.key=.string s:=e1;unfold Go.WideElems.rd;rw [J,mJ e2];rfl
theorem D.OX {b:Nat} {Lf:List (Value × Value)} {w:World} (J:fV isStr b Lf w) (hT:iM b w) (hn:Lf.length≤maxLen):
  ∃ M:DataW Value,w.ownsMap Tryz.prog 9 uq b Lf.length M∧∀ s v,((.string s:Value),v) ∈ Lf→has M (ru s)=true:=by
 obtain ⟨es,ck,hb,he,hF⟩:=RG J hT hn;have y:w.ownsMap Tryz.prog 9 uq b Lf.length (.map ((es.toList.map (Go.WideElems.rg Tryz.prog 9 uq)).foldr DataW.insert [])):=⟨es,ck,hb,hF,by rw [← he]; simp,rfl⟩;refine ⟨_,y,fun s v hm=>?_⟩
 have hs:s.size≤maxLen:=by
  obtain ⟨s',e1,e2⟩:=J.keys _ hm;cases e1;exact e2
 obtain ⟨v',ps,I,_⟩:=y.look_ok DT Tryz.underlying102 (L6 w) rfl (mJ hs);have U:=kP jh (w:=w) trivial true Tryz.underlying102 J hm;rw [I] at U;simp at U;exact U.2
theorem D.L8 {w:World} {b n r cnt:Nat} {M:DataW Value} {left:Lit→Bool} {Lf:List (Value × Value)} (hL:fV isStr b Lf w) (h:w.ranges Tryz.prog 9 uq b r n M left cnt) {s:ByteArray} {v:Value} (hs:s.size≤maxLen) (hl:left (ru s)=true)
  (a2:∀ zd,M.atKey (ru s) zd=.held v):((.string s:Value),v) ∈ Lf:=by
 have J:=h.owns;obtain ⟨es,ck,since,seen,c0,hb,hF,_,_,_,_,_,_,a3,_⟩:=h;obtain ⟨e,he,hk⟩:=a3 _ hl;obtain ⟨y,hy⟩:=hF.reads e he;have a4:Go.WideElems.rg Tryz.prog 9 uq e=y:=by unfold Go.WideElems.rg; rw [hy]; rfl
 rw [a4] at hk;have U:=Go.WideElems.rd_key hy;rw [hk] at U;obtain ⟨x,e1,e2,_⟩:=Maps.keyOf_str Tryz.underlying9 U
 have a5:e.key=.string s:=by
  rw [e1];unfold ru at e2;have:s.data.toList=x:=by simpa using e2
  subst this;cases s;simp [encStr]
 obtain ⟨⟨a7,a8,a0,a6⟩,h2,h3⟩:=id hL;rw [hb] at a0;cases a0;have I:((.string s:Value),e.val) ∈ Lf:=by rw [← a6,← a5]; exact List.mem_map.2 ⟨e,he,rfl⟩
 obtain ⟨v',ps,a1,hR⟩:=J.look_ok DT Tryz.underlying102 (L6 w) rfl (mJ hs);have h4:=kP jh (w:=w) trivial true Tryz.underlying102 hL I;rw [a1] at h4;rw [a2] at hR;simp at h4;unfold uq at hR;simp at hR;rw [← hR.1,h4.1];exact I
def D.tq {E:List Fe} {w0:World} (Lf:List (Value × Value)) (xs:List (vI E w0)):Prop:=(xs.map fun x=>bP x.1.t).Nodup∧∀ p ∈ Lf,∃ x ∈ xs,p.1=.string (bP x.1.t)
theorem values1_in (F:Fence) (n:Nat) (hf:F.fn 123) (b9:F.round=none) (hn:1≤n) (l Bm b:Nat) (E:List Fe) (w0:World) (Lf:List (Value × Value)) (J Jx:List (vI E w0)→World→Prop)
  (hY:∀ U x W,J U W→U.length < Lf.length→YieldAt F (n - 1) Tryz.prog l #[x.1.val] W fun e W'=>
   (e=.returned (.bool true)∧J (U ++ [x]) W'∧KeepsWalks W W')∨(e=.returned (.bool false)∧Jx (U ++ [x]) W'))
  (W:World) (hJ:AbidesFrom W.heap.size J) (hm:W.cell? ⟨Bm,0,none⟩=some (.map (some b))) (hL:fV isStr b Lf W) (hT:iM b W) (hE:∀ p ∈ Lf,∃ x:vI E w0,p=(.string (bP x.1.t),x.1.val)) (hN:Lf.length≤maxLen) (h0:J [] W):
  CallsIn F n Tryz.prog 123 #[.func (.yield l) #[] #[],.pointer (some ⟨Bm,0,none⟩)] W fun e W'=>(∃ v,e=.returned v)∧
   ((∃ xs,tq Lf xs∧J xs W')∨(∃ U,True∧Jx U W')):=by
 obtain ⟨M,a0,a5⟩:=OX hL hT hN;refine callsIn_of_wp Tryz.func123 rfl hf ?_ b9;simp only [Tryz.ntmps123,List.size_toArray,List.length_cons,List.length_nil,Nat.reduceAdd,Nat.reduceSub,Array.replicate_succ,Array.replicate_zero,List.push_toArray,List.append_toArray,List.nil_append,List.cons_append];have HH:=η a5;have HL:=η hL;have HT:=η hT;clear a5 hL hT
 gi_wp2_with (first
  | (gi_at_range; refine wpListIn_range_own _ rfl _ 102 rfl 9 33 DT Tryz.underlying102 _ b Lf.length _ rfl a0 ?_; intro w1 a6 ac bc)
  | gi_in)
 go_frame
 have ap:fV isStr b Lf w1:=HL.out.grown ac (by simp);have aq:J [] w1:=hJ [] W w1 none h0 ac (fun r e=>by cases e);have a7:=η a6;have ae:=η (And.intro ap aq);have bf:=η a0.size_le;clear a6 ap aq a0 ac bc h0 hm
 gi_loopw [4] (fun _ wr=>∃ (left:Lit→Bool) (cnt:Nat) (xs:List (vI E w0)),wr.ranges Tryz.prog 9 uq b W.heap.size Lf.length M left cnt∧xs.length+cnt≤Lf.length∧Collected M left (xs.map fun x=>(bP x.1.t).data.toList)∧fV isStr b Lf wr∧J xs wr)
  (fun _ wr=>wr.rangeLeft b W.heap.size)
 case atStart=>
  exact ⟨_,_,[],a7.out,by simpa using bf.out,Collected.start M,ae.out.1,ae.out.2⟩
 case round=>
  obtain ⟨left,cnt,xs,I,af,hC,a1,ag⟩:=hrel;clear a7 ae
  gi_wp2_with (first
   | (gi_at_next; refine wpListIn_next_ranges _ rfl _ rfl 9 DT uq encStr id (fun bz kl hk=>by obtain ⟨x,hx,_⟩:=Maps.keyOf_str Tryz.underlying9 hk; exact ⟨x,hx⟩) (fun v _ _=>⟨v,rfl⟩) b W.heap.size Lf.length _ _ _ rfl I ?_ ?_)
   | gi_in)
  ·intro bg ar
   have HZ:Hid (tq Lf xs):=η (by
    refine ⟨?_,fun p hp=>?_⟩
    ·have:=hC.1
     rw [show (xs.map fun x=>(bP x.1.t).data.toList)=(xs.map fun x=>bP x.1.t).map (fun s=>s.data.toList) by simp] at this;exact List.Pairwise.of_map _ (fun a b h e=>h (by rw [e])) this
    ·obtain ⟨x,rfl⟩:=hE p hp
     have h1:=HH.out _ _ hp;have h2:=(hC.2 (bP x.1.t).data.toList).2 ⟨h1,ar _⟩;obtain ⟨y,hy,e⟩:=List.mem_map.1 h2
     exact ⟨y,hy,by rw [bytes_inj e]⟩)
   clear I hC af a1 ar bg
   gi_wp2
   go_end0
   exact ⟨⟨_,rfl⟩,.inl ⟨xs,HZ.out,ag⟩⟩
  ·intro x c kl yd yp w2 av a8 a2 hv a3 a9 aw am bh az
   obtain ⟨x',ex,rfl,bi⟩:=Maps.keyOf_str Tryz.underlying9 a8;obtain rfl:x=x':=encStr_inj ex;obtain ⟨s,rfl⟩:∃ s:ByteArray,x=s.data.toList:=⟨⟨x.toArray⟩,rfl⟩;have bj:encStr s.data.toList=.string s:=by cases s; simp [encStr]
   have bk:yd=.held c:=by
    unfold uq at hv;simp at hv;exact hv.1.symm
   subst bk;obtain ⟨X,hX⟩:=hE _ (L8 a1 I (by simpa using bi) a2 a3);simp only [Prod.mk.injEq,Value.string.injEq] at hX;obtain ⟨rfl,rfl⟩:=hX;rw [bj] at az ⊢;obtain ⟨⟨t,c1,ba⟩,bl,bn,aD⟩:=X;obtain ⟨Ae,ce,_,bo⟩:=aZ aD;have aE:c1=.slice Ae t.args.length ce:=bo;subst aE;obtain ⟨X,a4⟩:∃ X:vI E w0,X=⟨⟨t,.slice Ae t.args.length ce,ba⟩,bl,bn,aD⟩:=⟨_,rfl⟩;have aL:X.1.t=t:=by rw [a4]
   have bp:X.1.c1=.slice Ae t.args.length ce:=by rw [a4]
   have aM:(.agg #[.string t.name,.slice Ae t.args.length ce]:Value)=X.1.val:=by rw [a4]; rfl
   dsimp only [Fe.val] at az a2 a3 ⊢;have bq:b ≠ W.heap.size:=I.ne.symm;have aR:fV isStr b Lf w2:=a1.grown am (fun e=>bq (by injection e));have b1:J xs w2:=hJ xs wr w2 (some W.heap.size) ag am (fun r e=>by cases e; exact ⟨Nat.le_refl _,I.iter_walk⟩);have b2:J xs (w2.alloc (.cells #[.string t.name,.slice Ae t.args.length ce] 33)):=hJ xs w2 _ none b1 (World.grownBy_alloc _ _ _) (fun r e=>by cases e);have aa:=a9.alloc (.cells #[.string t.name,.slice Ae t.args.length ce] 33);have ao:fV isStr b Lf (w2.alloc (.cells #[.string t.name,.slice Ae t.args.length ce] 33)):=aR.grown (World.grownBy_alloc _ _ none) (by simp);obtain ⟨fn,tmps,assign,body,hy,hR⟩:=hY xs X _ b2 (by omega);have br:=η I.left_eq;have bt:=η (hC.step a2 a3);have b3:=η aw;have bu:=η af;obtain ⟨⟨bA,bB,b4,_⟩,_,_⟩:=id ao;have b5:=η b4;have b6:=η aa;have bv:=η ao;clear bh hC a2 a3 a8 hv aw af I a9 aa aR ao b1 b2 ag a1 am b4;rw [← aM] at hy;have HX:=η aL
   clear aL bp aM a4
   gi_wp2
   refine hR.mono ?_;rintro e W3 (⟨rfl,bw,b7⟩ | ⟨rfl,b8⟩)
   ·have ab:=η (b6.out.of_walks b7)
    have bx:Hid (fV isStr b Lf W3):=η (bv.out.same (by rw [b5.out]; exact b7.same b _ b5.out rfl));clear hy hR
    gi_wp2
    go_roundw
    case rel=>exact ⟨_,av,xs ++ [X],ab.out,by have:=bu.out; have:=b3.out; simp; omega,by rw [List.map_append,List.map_cons,List.map_nil,HX.out]; exact bt.out,bx.out,bw⟩
    case measure=>rw [ab.out.left_eq,br.out]; exact b3.out
   ·clear hy hR
    gi_wp2
    refine bodyPost_ret (results_none rfl _ _ _) rfl ?_;exact ⟨⟨_,rfl⟩,.inr ⟨xs ++ [X],trivial,b8⟩⟩
theorem values_in (F:Fence) (n:Nat) (hf:F.fn 63) (y:F.round=none) (b:Nat) (w:World):
  CallsIn F n Tryz.prog 63 #[.map (some b)] w fun e w'=>e=.returned (.func (.func 123) #[] #[.pointer (some ⟨w.heap.size,0,none⟩)])∧w'=w.alloc (.cells #[.map (some b)] 102):=by
 refine callsIn_of_wp Tryz.func63 rfl hf ?_ y;simp only [Tryz.ntmps63,List.size_toArray,List.length_cons,List.length_nil,Nat.reduceAdd,Nat.reduceSub,Array.replicate_succ,Array.replicate_zero,List.push_toArray,List.append_toArray,List.nil_append,List.cons_append]
 gi_wp2
 go_ret;exact ⟨rfl,rfl⟩
end Go.Proofs.YtkjinanbccloeaaGreatDoor
namespace Go.Proofs.YtkjinanbccloeaaGreatDoor
open Go.RowKit D
theorem D.Mc {rs:List Ru} (h:dQ rs=0) {r:Ru} (hr:r ∈ rs):jw r:=by
 unfold dQ at h
 split at h
 ·cases h
 ·rename_i h1
  split at h
  ·cases h
  ·split at h
   ·cases h
   ·split at h
    ·cases h
    ·rename_i h4
     have y:=List.all_eq_true.1 (by simpa using h1) r hr;have g4:=List.all_eq_true.1 (by simpa using h4) r hr;unfold dM mF at y;simp only [Bool.and_eq_true,decide_eq_true_eq,List.all_eq_true] at y;obtain ⟨t1,U⟩:=(F8 _ _).1 g4;refine ⟨y.2,y.1.2,y.1.1,fun x I=>?_⟩
     have hb:iw r.body x=true:=by
      rcases I with I | ⟨p,J,I⟩
      ·exact t1 x I
      ·unfold qU at U
       have:=List.all_eq_true.1 (by simpa using U) p J;exact (pU _ _).1 this x I
     have:=(nD _ _).1 hb;rw [fZ] at this
     rcases this with h | ⟨p,J,hv⟩
     ·simp at h
     ·obtain ⟨q1,q2⟩:=List.mem_filter.1 J
      exact ⟨p,q1,by simpa using q2,hv⟩
theorem D.tu {a:A} (h:dO a=true):aN a:=by
 unfold dO jP at h;simp only [Bool.and_eq_true,Bool.not_eq_true',List.any_eq_false] at h;exact ⟨h.1,fun t y=>by simpa using h.2 t y⟩
theorem D.tH {a:A} (h:aN a):dO a=true:=by
 unfold dO jP;simp only [Bool.and_eq_true,Bool.not_eq_true',List.any_eq_false];exact ⟨h.ok,fun t y=>by simpa using h.gr t y⟩
theorem D.Xb {xs:List A} (U:∀ x ∈ xs,aN x) (r:Ru) (t:A):Yz xs r t ↔ iW xs r t:=by
 have J:∀ x ∈ xs,Gr x:=fun x h=>(U x h).gr
 constructor
 ·rintro ⟨σ,rfl,h⟩
  refine ⟨σ,rfl,fun p y I=>?_,fun p y I hm=>?_⟩
  ·exact (qg J (qf _ _)).1 (by rw [h p y,I]; rfl)
  ·have:=(qg J (qf σ p.atom)).2 hm
   rw [h p y,I] at this;cases this
 ·rintro ⟨σ,rfl,h1,h2⟩
  refine ⟨σ,rfl,fun p y=>?_⟩;cases I:p.no
  ·exact (qg J (qf _ _)).2 (h1 p y I)
  ·cases hb:hasB xs (fA σ p.atom)
   ·rfl
   ·exact absurd ((qg J (qf _ _)).1 hb) (h2 p y I)
theorem D.Vj {xs:List A} (U:∀ x ∈ xs,aN x) {r:Ru} (R:jw r) {t:A} (h:iW xs r t):aN t:=by
 obtain ⟨σ,rfl,h1,_⟩:=h;refine ⟨?_,qf _ _⟩;have h0:=R.hok;unfold aX at h0 ⊢;unfold fA;simp only [Bool.and_eq_true,decide_eq_true_eq,List.all_eq_true,List.length_map] at h0 ⊢;refine ⟨h0.1,fun u hu=>?_⟩;obtain ⟨v,hv,rfl⟩:=List.mem_map.1 hu;have g:=h0.2 v hv;unfold iH at *;unfold wJ;cases hvv:v.var
 ·simpa [hvv] using g
 ·obtain ⟨p,hp,hn,y,hy,I,J⟩:=R.tight v.name (.inl ⟨v,hv,hvv,rfl⟩)
  have hm:=(U _ (h1 p hp hn)).names (wJ σ y) (List.mem_map.2 ⟨y,hy,rfl⟩);unfold wJ at hm;rw [I,J] at hm;simpa using hm.2
theorem D.xH {xs:List A} (J:∀ x ∈ xs,aN x) {a:A} (ha:aN a) (x:A):x ∈ dP xs a ↔ x ∈ xs∨x=a:=by
 constructor
 ·exact sJ
 ·intro h
  have U:∀ y ∈ dP xs a,Gr y:=fun y hy=>(sJ hy).elim (fun h=>(J y h).gr) fun h=>h ▸ ha.gr
  have I:Gr x:=h.elim (fun h=>(J x h).gr) fun h=>h ▸ ha.gr
  refine (qg U I).1 ?_;rw [TF]
  rcases h with h | rfl
  ·rw [lG h]; rfl
  ·rw [sH]; simp
theorem D.Md {β:Type} (f:β→A):∀ (l:List β) (out:List A),fJ out=true→(∀ x ∈ out,aN x)→(∀ b ∈ l,aN (f b))→
  fJ (l.foldl (fun o b=>dP o (f b)) out)=true∧(∀ x ∈ l.foldl (fun o b=>dP o (f b)) out,aN x)∧∀ x,x ∈ l.foldl (fun o b=>dP o (f b)) out ↔ x ∈ out∨∃ b ∈ l,f b=x
 | [],out,h1,h2,_=>⟨h1,h2,fun x=>by simp⟩
 | b :: l,out,h1,h2,h3=>by
  have y:=h3 b (List.mem_cons_self ..);obtain ⟨I,J,U⟩:=Md f l (dP out (f b)) (vT h1 _) (fun x hx=>((xH h2 y x).1 hx).elim (h2 x) fun e=>e ▸ y) fun c hc=>h3 c (List.mem_cons_of_mem _ hc)
  refine ⟨I,J,fun x=>?_⟩;rw [List.foldl_cons,U,xH h2 y];constructor
  ·rintro ((h | h) | ⟨c,hc,h⟩)
   ·exact .inl h
   ·exact .inr ⟨b,List.mem_cons_self ..,h.symm⟩
   ·exact .inr ⟨c,List.mem_cons_of_mem _ hc,h⟩
  ·rintro (h | ⟨c,hc,h⟩)
   ·exact .inl (.inl h)
   ·rcases List.mem_cons.1 hc with rfl | hc
    ·exact .inl (.inr h.symm)
    ·exact .inr ⟨c,hc,h⟩
theorem D.G5 {xs:List A} {level:Nat} (hx:∀ x ∈ xs,aN x) {rl:List (Ru × Nat)} (hr:∀ p ∈ rl,jw p.1):fJ (fU xs level rl)=true∧(∀ t ∈ fU xs level rl,aN t)∧∀ t,t ∈ fU xs level rl ↔ ∃ p ∈ rl,p.2=level∧iW xs p.1 t:=by
 have hg:∀ x ∈ xs,Gr x:=fun x h=>(hx x h).gr
 have main:∀ (l:List (Ru × Nat)) (out:List A),(∀ p ∈ l,jw p.1)→fJ out=true→(∀ x ∈ out,aN x)→
   fJ (l.foldl (fun out p=>if p.2=level then Es xs p.1 out else out) out)=true∧(∀ t ∈ l.foldl (fun out p=>if p.2=level then Es xs p.1 out else out) out,aN t)∧
   ∀ t,t ∈ l.foldl (fun out p=>if p.2=level then Es xs p.1 out else out) out ↔ t ∈ out∨∃ p ∈ l,p.2=level∧iW xs p.1 t:=by
  intro l
  induction l with
  | nil=>intro out _ h1 h2; exact ⟨h1,h2,fun t=>by simp⟩
  | cons q l ih=>
   intro out hl h1 h2;have R:=hl q (List.mem_cons_self ..);have hq:=fun p y=>hl p (List.mem_cons_of_mem _ y)
   by_cases hv:q.2=level
   ·have J:∀ t,(∃ b ∈ allB xs q.1.body,bK q.1.head b=t) ↔ iW xs q.1 t:=fun t=>(Ux hg R.tight t).trans (Xb hx q.1 t)
    obtain ⟨g1,g2,g3⟩:=Md (fun b=>bK q.1.head b) (allB xs q.1.body) out h1 h2 fun b hb=>Vj hx R ((J _).1 ⟨b,hb,rfl⟩)
    rw [List.foldl_cons,if_pos hv];obtain ⟨k1,k2,U⟩:=ih (Es xs q.1 out) hq g1 g2;refine ⟨k1,k2,fun t=>?_⟩;rw [U]
    have y:t ∈ Es xs q.1 out ↔ t ∈ out∨iW xs q.1 t:=by
     unfold Es;rw [g3,J]
    rw [y];constructor
    ·rintro ((h | h) | ⟨p,y,h⟩)
     ·exact .inl h
     ·exact .inr ⟨q,List.mem_cons_self ..,hv,h⟩
     ·exact .inr ⟨p,List.mem_cons_of_mem _ y,h⟩
    ·rintro (h | ⟨p,y,I,h⟩)
     ·exact .inl (.inl h)
     ·rcases List.mem_cons.1 y with rfl | y
      ·exact .inl (.inr h)
      ·exact .inr ⟨p,y,I,h⟩
   ·rw [List.foldl_cons,if_neg hv]
    obtain ⟨k1,k2,U⟩:=ih out hq h1 h2;refine ⟨k1,k2,fun t=>?_⟩;rw [U];constructor
    ·rintro (h | ⟨p,y,h⟩)
     ·exact .inl h
     ·exact .inr ⟨p,List.mem_cons_of_mem _ y,h⟩
    ·rintro (h | ⟨p,y,I,h⟩)
     ·exact .inl h
     ·rcases List.mem_cons.1 y with rfl | y
      ·exact absurd I hv
      ·exact .inr ⟨p,y,I,h⟩
 obtain ⟨k1,k2,U⟩:=main rl [] hr rfl (fun x h=>by simp at h)
 exact ⟨k1,k2,fun t=>by
  have:=U t;simp only [List.not_mem_nil,false_or] at this
  exact this⟩
theorem D.jL {xs:List A} (h:fJ xs=true):xs.Nodup:=by
 refine List.pairwise_iff_getElem.2 fun i j J I y e=>?_
 have:=Hy h I y;rw [e,sH] at this;omega
theorem D.xI {xs ys:List A} (h1:fJ xs=true) (I:fJ ys=true) (J:∀ x ∈ xs,aN x) (f2:∀ x ∈ ys,aN x) (h:∀ t,t ∈ xs ↔ t ∈ ys):xs=ys:=by
 refine Po h1 I (fun x y=>tH (J x y)) (fun x y=>tH (f2 x y)) fun a=>?_
 rw [Bool.eq_iff_iff,oO,oO];constructor
 ·rintro ⟨x,y,hc⟩; exact ⟨x,(h x).1 y,hc⟩
 ·rintro ⟨x,y,hc⟩; exact ⟨x,(h x).2 y,hc⟩
def D.jf (B sb mu mp:Nat) (Fb:Nat→Prop) (fr:List Nat) (fs:List A) (rn:List Nat) (w:World):Prop:=
 ∃ y cf Lf I J Lr U bf,kK B sb mu mp y fs.length cf Lf fs bf I rn.length J Lr rn (yI fs) (idxs fs) U w∧(∀ x ∈ bf,Fb x)∧∀ x ∈ fr,Free B sb mu mp (.slice y fs.length cf) (.slice I rn.length J) U x∧x < w.heap.size
section
variable {B sb mu mp:Nat} {Fb:Nat→Prop} {fr:List Nat} {fs:List A} {rn:List Nat} {w w':World}
theorem D.kK.fresh {y:Option Addr} {I cf:Nat} {Lf:List Value} {bf:List Nat} {J:Option Addr} {nr U:Nat} {Lr:List Value} {Lp:List (Value × Value)} {G:WK→List Nat} {ou:List Nat} (h:kK B sb mu mp y I cf Lf fs bf J nr U Lr rn Lp G ou w) {x:Nat} (hx:w.heap.size≤x):Free B sb mu mp (.slice y I cf) (.slice J nr U) ou x:=by
 obtain ⟨l1,l2,l3,_⟩:=h.lo;have hs:=h.oN;exact ⟨fun e=>by have:=(bG h.cF.own e).2; omega,fun e=>by have:=(bG h.cR.own e).2; omega,fun e=>by have:=(h.ous x e).2; omega,by omega⟩
theorem D.jf.more (h:jf B sb mu mp Fb fr fs rn w) (I:Below w.heap.size w w') (xs:List Nat) (J:∀ x ∈ xs,w.heap.size≤x∧x < w'.heap.size):jf B sb mu mp Fb (fr ++ xs) fs rn w':=by
 obtain ⟨Af,cf,Lf,Ar,cr,Lr,ou,bf,S,h1,U⟩:=h;refine ⟨Af,cf,Lf,Ar,cr,Lr,ou,bf,S.later I,h1,fun x y=>?_⟩
 rcases List.mem_append.1 y with g | g
 ·exact ⟨(U x g).1,Nat.lt_of_lt_of_le (U x g).2 I.size⟩
 ·exact ⟨S.fresh (J x g).1,(J x g).2⟩
theorem D.jf.later (h:jf B sb mu mp Fb fr fs rn w) (y:Below w.heap.size w w'):jf B sb mu mp Fb fr fs rn w':=by
 have:=h.more y [] (fun x I=>by simp at I);simpa using this
theorem D.jf.sub (h:jf B sb mu mp Fb fr fs rn w) {y:List Nat} (I:∀ x ∈ y,x ∈ fr):jf B sb mu mp Fb y fs rn w:=by
 obtain ⟨J,cf,Lf,U,cr,Lr,ou,bf,S,h1,h2⟩:=h;exact ⟨J,cf,Lf,U,cr,Lr,ou,bf,S,h1,fun x hx=>h2 x (I x hx)⟩
theorem D.jf.mono (h:jf B sb mu mp Fb fr fs rn w) {Fb':Nat→Prop} (I:∀ x,Fb x→x < w.heap.size→Fb' x):jf B sb mu mp Fb' fr fs rn w:=by
 obtain ⟨J,cf,Lf,U,cr,Lr,ou,bf,S,h1,h2⟩:=h;exact ⟨J,cf,Lf,U,cr,Lr,ou,bf,S,fun x y=>I x (h1 x y) (S.cF.row.lt aj x y),h2⟩
theorem D.jf.other (h:jf B sb mu mp Fb fr fs rn w) {c:Nat} (hc:c ∈ fr) (hb:¬ Fb c) (J:w.heap.size≤w'.heap.size) (I:∀ k,k < w.heap.size→k ≠ c→w'.heap[k]? = w.heap[k]?):jf B sb mu mp Fb fr fs rn w':=by
 obtain ⟨Af,cf,Lf,Ar,cr,Lr,ou,bf,S,h1,U⟩:=h;obtain ⟨l1,l2,l3,_⟩:=S.lo;have hz:=S.oN;obtain ⟨f,r,u,s⟩:=(U c hc).1
 refine ⟨Af,cf,Lf,Ar,cr,Lr,ou,bf,⟨(I sb (by omega) (by omega)).trans S.blk,S.ef,S.er,S.cF.lU aj (fun x y=>I x (bG S.cF.own y).2 (fun e=>f (e ▸ y))) (fun x y=>I x (S.cF.row.lt aj x y) (fun e=>hb (e ▸ h1 x y))),
  S.cR.lU iC (fun x y=>I x (bG S.cR.own y).2 (fun e=>r (e ▸ y))) (fun x y=>by simp at y),S.un.keep (I mu (by omega) (by omega)) (fun x y=>I x (S.ous x y).2 (fun e=>u (e ▸ y))),S.pl.same (I mp (by omega) (by omega)),S.dFR,S.dF,S.dR,S.bfs,S.lo,
  fun x y=>⟨(S.ous x y).1,Nat.lt_of_lt_of_le (S.ous x y).2 J⟩,Nat.le_trans hz J⟩,h1,fun x y=>⟨(U x y).1,Nat.lt_of_lt_of_le (U x y).2 J⟩⟩
theorem D.jf.view (h:jf B sb mu mp Fb fr fs rn w):∃ bs,jq sb fs rn bs w:=by
 obtain ⟨y,cf,Lf,I,J,U,ou,bf,S,h1,h2⟩:=h;obtain ⟨bs,g,_⟩:=S.view 0 (by omega);exact ⟨bs,g⟩
theorem D.jf.lt (h:jf B sb mu mp Fb fr fs rn w):B≤w.heap.size∧sb < B∧∀ x ∈ fr,x < w.heap.size:=by
 obtain ⟨J,cf,Lf,U,cr,Lr,ou,bf,S,h1,y⟩:=h;exact ⟨S.oN,S.lo.1,fun x I=>(y x I).2⟩
theorem Xc (h:jf B sb mu mp Fb fr fs rn w) {a:A} {c1:Value} {ba:List Nat} (ha:aG w [.string a.name,c1] a ba) (J:∀ x ∈ ba,x ∈ fr) (U:∀ x ∈ ba,Fb x) (a0:∀ f ∈ fs,aN f) (hok:aN a) (a1:a ∉ fs) (a2:fs.length≤1000000) (a3:rn.length≤1000000) (rd B0:Nat) (a4:B0≤sb∧B0≤mu∧B0≤mp∧B0≤B):
  Calls Tryz.prog 112 #[.pointer (some ⟨sb,0,none⟩),.agg #[.string a.name,c1],.int .i64 rd] w fun e w'=>e=.returned (.tuple #[])∧Below B0 w w'∧jf B sb mu mp Fb fr (fs ++ [a]) (rn ++ [rd]) w'∧∀ x ∈ fr,w'.heap[x]? = w.heap[x]?:=by
 obtain ⟨Af,cf,Lf,Ar,cr,Lr,ou,bf,S,h1,h2⟩:=h;refine (put_any B sb mu mp Af cf Lf fs bf Ar cr Lr rn (yI fs) ou a c1 ba fr rd w S ha J (fun x y=>(h2 x y).1) (fun x y=>(h2 x y).2) hok.ok (LY a0 hok a1) a2 a3 B0 a4).mono ?_;rintro e w' ⟨rfl,hb,a5,a6,a7,a8,a9,aa,ab,S',I⟩;refine ⟨rfl,hb,⟨a5,a6,a7,a8,a9,aa,ab,bf ++ ba,?_,fun x y=>(List.mem_append.1 y).elim (h1 x) (U x),fun x y=>⟨?_,Nat.lt_of_lt_of_le (h2 x y).2 hb.size⟩⟩,fun x y=>(I x y).2⟩
 ·rw [GY,List.length_append,List.length_append]; exact S'
 ·have:=(I x y).1
  rw [List.length_append,List.length_append]; exact this
end
theorem D.IY.qK {xs:List A} {y:List Nat} {w0 w:World} (h:IY xs y w0 xs.length w) (I:∀ x ∈ y,x < w0.heap.size):Below w0.heap.size w0 w∧jf (w0.heap.size+3) (w0.heap.size+2) w0.heap.size (w0.heap.size+1) (fun x=>x ∈ y) [] xs (List.replicate xs.length 0) w:=by
 obtain ⟨h1,J,cf,Lf,U,cr,Lr,ou,bf,S,h2⟩:=h.all;exact ⟨h1,J,cf,Lf,U,cr,Lr,ou,bf,S,h2,fun x hx=>by simp at hx⟩
end Go.Proofs.YtkjinanbccloeaaGreatDoor
