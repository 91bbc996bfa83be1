/- Of the proof of FnExactDelta: WithS, At, L3A. -/
import Derived.Test.YtiidmgchadagbaaGreatDoorM05
import Derived.Test.YtiidmgchadagbaaGreatDoorM03
import Derived.Test.YtiidmgchadagbaaGreatDoorM04
set_option linter.unusedVariables false
set_option maxHeartbeats 4000000
set_option maxRecDepth 100000
namespace Go.Proofs.YtiidmgchadagbaaGreatDoor
open Go.RowKit D
attribute [local go_sem ↓] Go.wp_at_zero Go.wp_at_succ
theorem RY:(Tryz.prog.info? 9).map (fun i=>(i.zero,i.size,i.bytes))=some (some (.string ⟨#[]⟩),1,16):=by kernel_rfl
theorem D.EK {w:World} {Ad:Option Addr} {n cap:Nat} {xs:List ByteArray} {bs:List Nat} (h:jL w [.slice Ad n cap] xs bs) {w':World} (hb:Below w.heap.size w w'):Lies w' Ad (xs.map Value.string):=by
 intro j u hj;obtain ⟨hlt,rfl⟩:=List.getElem?_eq_some_iff.1 hj;have hlt':j < xs.length:=by simpa using hlt
 obtain ⟨b,o,rfl,_,hc,_⟩:=qF (cZ.below h hb) hlt';exact ⟨_,rfl,by rw [addr_add]; simpa using hc⟩
theorem D.wu {w:World} {v:Value} {xs:List ByteArray} {bs:List Nat} (h:jL w [v] xs bs):∀ s ∈ xs,s.size≤maxLen:=by
 intro s hs;obtain ⟨j,hj,rfl⟩:=List.getElem_of_mem hs;obtain ⟨Ad,cap,rfl,_⟩:=af h;obtain ⟨_,_,_,_,_,_,_,_,hR,_⟩:=jF h hj;exact hR.2.1
theorem D.zD {base e:Nat} {w:World} {v:Value} {ys:List ByteArray} (h:w.ownsRow base e 1 v ys.length (ys.map Value.string)) (hs:∀ s ∈ ys,s.size≤maxLen):∃ b2,jL w [v] ys b2∧∀ b ∈ b2,base≤b:=by
 have hr:aV 1 jk w (ys.map Value.string) ys []:=by
  refine ⟨by simp,fun u hu=>?_,fun _=>[],by simp,fun j hj=>⟨?_,hs _ (List.getElem_mem hj),rfl⟩⟩
  ·obtain ⟨s,_,rfl⟩:=List.mem_map.1 hu
   rfl
  ·rw [Nat.mul_one]
   refine List.ext_getElem? fun i=>?_
   rcases i with _ | i
   ·simp [List.getElem?_drop,hj]
   ·simp; omega
 obtain ⟨b2,h2,h3⟩:=hr.slice h;exact ⟨b2,h2,fun b hb=>(h3 b hb).elim id fun h=>by cases h⟩
def D.WJ (W:World) (n:Nat) (L1 L2:List Value) (c0 c1:Value) (s v:ByteArray) (f:Nat→Bool) (a:Act) (w:World):Prop:=
 ∃ (v7 v8 v9 v10 v11 v12 v13 v14 v15 v16 v17 v18 v19 v20 v21:Value) (o1 o2 o3 o4:Option Nat) (w1:World),a=⟨#[.agg #[c0,c1],.string s,.string v,.pointer (some ⟨W.heap.size,0,none⟩),undef,undef,.pointer (some ⟨W.heap.size+1,0,none⟩),v7,v8,v9,v10,v11,v12,v13,v14,v15,v16,v17,v18,v19,v20,v21],[]⟩∧
  Below (W.heap.size+2) ((W.alloc (.cells #[c0,c1] 141)).alloc (.cells #[.slice none 0 0,.slice none 0 0] 141)) w1∧
  rX (W.heap.size+2) 9 n L1 (.string s) (f 0) (f 3) (f 5) (f 6) v7 v10 v12 v13 o1 o2 w1∧rX (W.heap.size+2) 9 n L2 (.string v) (f 7) (f 10) (f 12) (f 13) v14 v17 v19 v20 o3 o4 w1∧
  (kY o1 o3∧kY o1 o4∧kY o2 o3∧kY o2 o4)∧
  ((f 1=true→v8=.pointer (some ⟨W.heap.size,0,none⟩))∧(f 2=true→v9=c0)∧(f 4=true→v11=.string s)∧(f 8=true→v15=.pointer (some ⟨W.heap.size,1,none⟩))∧(f 9=true→v16=c1)∧(f 11=true→v18=.string v)∧(f 14=true→v21=.agg #[v13,v20]∧f 6=true∧f 13=true))∧
  (f 15=false→w=w1)∧(f 15=true→w=(w1.setCell ⟨W.heap.size+1,0,none⟩ v13).setCell ⟨W.heap.size+1,1,none⟩ v20)∧(f 15=true→∀ i,i < 15→f i=true)
theorem RZ (b:Bd) (s v:ByteArray) (c0 c1:Value) (bs:List Nat) (w:World) (h:jl w [c0,c1] b bs) (hn:b.length≤16777216) (hs:s.size≤maxLen) (hv:v.size≤maxLen):
  Calls Tryz.prog 166 #[.agg #[c0,c1],.string s,.string v] w fun e w'=>Below w.heap.size w w'∧∃ d0 d1 bs',e=.returned (.agg #[d0,d1])∧jl w' [d0,d1] (b ++ [(s,v)]) bs'∧∀ c ∈ bs',w.heap.size≤c:=by
 obtain ⟨x0,x1,b1,b2,hcs,rfl,h1,h2⟩:=h;simp only [List.cons.injEq,and_true] at hcs;obtain ⟨rfl,rfl⟩:=hcs;obtain ⟨A1,p1,rfl,hp1,hm1⟩:=af h1;obtain ⟨A2,p2,rfl,hp2,hm2⟩:=af h2;have hz1:=wu h1;have hz2:=wu h2;have hA:Below w.heap.size w ((w.alloc (.cells #[.slice A1 (b.map (·.1)).length p1,.slice A2 (b.map (·.2)).length p2] 141)).alloc (.cells #[.slice none 0 0,.slice none 0 0] 141)):=((Below.refl _ _).alloc (Nat.le_refl _) _).alloc (by simp) _;have hx:=Bj w (.cells #[.slice A1 (b.map (·.1)).length p1,.slice A2 (b.map (·.2)).length p2] 141) (.cells #[.slice none 0 0,.slice none 0 0] 141);have hl1:=fun w' (hb:Below w.heap.size w w')=>EK h1 hb
 have hl2:=fun w' (hb:Below w.heap.size w w')=>EK h2 hb
 have ho1:∀ u ∈ (b.map (·.1)).map Value.string,Value.oneCell' u=true:=fun u hu=>by obtain ⟨t,_,rfl⟩:=List.mem_map.1 hu; rfl
 have ho2:∀ u ∈ (b.map (·.2)).map Value.string,Value.oneCell' u=true:=fun u hu=>by obtain ⟨t,_,rfl⟩:=List.mem_map.1 hu; rfl
 have hlen1:(b.map (·.1)).length=b.length:=List.length_map ..;have hlen2:(b.map (·.2)).length=b.length:=List.length_map ..;rw [hlen1] at hp1 hx hA;rw [hlen2] at hp2 hx hA;have hml:b.length+1≤maxLen:=by unfold maxLen; omega
 obtain ⟨i0,hi,hy0,hy1,hy2⟩:=info_parts RY;rw [hlen1,hlen2];clear h1 h2;generalize hK1:(b.map (·.1)).map Value.string=L1 at *;generalize hK2:(b.map (·.2)).map Value.string=L2 at *;have hL1:L1.length=b.length:=by rw [← hK1]; simp
 have hL2:L2.length=b.length:=by rw [← hK2]; simp
 go_enter Tryz.func166,Tryz.ntmps166
 go_wp2_with fail
 refine pJ (WJ w b.length L1 L2 (.slice A1 b.length p1) (.slice A2 b.length p2) s v) (by kernel_rfl) (by kernel_rfl) ?_ ?_ ?_
 ·exact ⟨undef,undef,undef,undef,undef,undef,undef,undef,undef,undef,undef,undef,undef,undef,undef,none,none,none,none,_,rfl,(Below.refl _ _).drew,rX.start,rX.start,⟨(fun b h=>by cases h),(fun b h=>by cases h),(fun b h=>by cases h),(fun b h=>by cases h)⟩,⟨(fun h=>by cases h),(fun h=>by cases h),(fun h=>by cases h),(fun h=>by cases h),(fun h=>by cases h),(fun h=>by cases h),(fun h=>by cases h)⟩,fun _=>rfl,(fun h=>by cases h),(fun h=>by cases h)⟩
 ·intro i o ho f a w1 hJ hf haf
  obtain ⟨v7,v8,v9,v10,v11,v12,v13,v14,v15,v16,v17,v18,v19,v20,v21,o1,o2,o3,o4,wi,rfl,hB,C1,C2,⟨d13,d14,d23,d24⟩,⟨e8,e9,e11,e15,e16,e18,e21⟩,hw0,hw15,hall⟩:=hJ;by_cases h15:i=15
  case neg=>
   have h15f:f 15=false:=by
    cases hc:f 15 with
    | false=>rfl
    | true=>
     by_cases hlt:i < 15
     ·exact absurd (hall hc i hlt) (by simp [hf])
     ·exfalso
      rw [Array.getElem?_eq_none (by simp; omega)] at ho;cases ho
   obtain rfl:=hw0 h15f;have hsz:w.heap.size+2≤w1.heap.size:=by have:=hB.size; simp at this; omega
   have hBW:Below w.heap.size w w1:=hA.trans (hB.mono (by simp))
   match i,ho,hf,haf with
   | 0,ho,hf,haf=>
    obtain rfl:=Option.some.inj ho;rw [hf] at C1;have hA2:Below w1.heap.size w1 (w1.alloc (.cells #[] 9)):=(Below.refl _ _).alloc (Nat.le_refl _) _;refine wpOp_step rfl (fun K' hK=>?_);go_simp;refine hK _ _ ?_;exact ⟨(.slice (some ⟨w1.heap.size,0,none⟩) 0 0),v8,v9,v10,v11,v12,v13,v14,v15,v16,v17,v18,v19,v20,v21,(some w1.heap.size),o2,o3,o4,_,rfl,hB.alloc hsz _,(C1.RD hsz),(C2.below hA2),⟨(kY.new C2.i1).symm,(kY.new C2.i2).symm,d23,d24⟩,⟨e8,e9,e11,e15,e16,e18,e21⟩,fun _=>rfl,fun h=>absurd (h15f.symm.trans h) (by decide),fun h=>absurd (h15f.symm.trans h) (by decide)⟩
   | 1,ho,hf,haf=>
    obtain rfl:=Option.some.inj ho;refine wpOp_step rfl (fun K' hK=>?_);go_simp;refine hK _ _ ?_;exact ⟨v7,(.pointer (some ⟨w.heap.size,0,none⟩)),v9,v10,v11,v12,v13,v14,v15,v16,v17,v18,v19,v20,v21,o1,o2,o3,o4,_,rfl,hB,C1,C2,⟨d13,d14,d23,d24⟩,⟨fun _=>rfl,e9,e11,e15,e16,e18,e21⟩,fun _=>rfl,fun h=>absurd (h15f.symm.trans h) (by decide),fun h=>absurd (h15f.symm.trans h) (by decide)⟩
   | 2,ho,hf,haf=>
    obtain rfl:=Option.some.inj ho;simp [Region.binds] at haf;have f1:=haf;have g1:=e8 f1;subst g1;have hc:w1.cell? ⟨w.heap.size,0,none⟩=some (.slice A1 b.length p1):=(hB.cell (p:=⟨w.heap.size,0,none⟩) (by simp)).trans (by go_simp);refine wpOp_step rfl (fun K' hK=>?_);go_simp;refine hK _ _ ?_;exact ⟨v7,_,(.slice A1 b.length p1),v10,v11,v12,v13,v14,v15,v16,v17,v18,v19,v20,v21,o1,o2,o3,o4,_,rfl,hB,C1,C2,⟨d13,d14,d23,d24⟩,⟨e8,fun _=>rfl,e11,e15,e16,e18,e21⟩,fun _=>rfl,fun h=>absurd (h15f.symm.trans h) (by decide),fun h=>absurd (h15f.symm.trans h) (by decide)⟩
   | 3,ho,hf,haf=>
    obtain rfl:=Option.some.inj ho;simp [Region.binds] at haf;obtain ⟨f0,f2⟩:=haf;have g:=e9 f2;subst g;rw [hf,f0] at C1;have hE:=C1.e_ rfl rfl;refine wpOp_step rfl (fun K' hK=>?_);refine iC rfl (.tmp 7) (.tmp 9) 139 rfl (w.heap.size+2) 9 i0 (.string ⟨#[]⟩) 1 16 Tryz.underlying139 hi hy0 hy1 hy2 rfl (by omega) v7 0 [] rfl hE.2.1 A1 b.length p1 L1 rfl (by rw [hL1,Nat.mul_one]) (hl1 w1 hBW) ho1 (by omega) (by omega) hsz (fun A cap w2 hown hg hloc=>hK _ _ ?_);rw [Nat.zero_add] at hown hloc ⊢;rw [List.nil_append] at hown;have hs2:=hg.size;have hB2:=iV hB hE.2.1 (Nat.le_refl _) hsz hg;have hN:rX (w.heap.size+2) 9 b.length L1 (.string s) (f 0) true (f 5) (f 6) v7 (.slice A b.length cap) v12 v13 (Value.slice A b.length cap).ownBlock o2 w2:=by rw [f0]; exact C1.fG hsz hown hg hs2 hloc (jq hown)
    have hap:∀ q,IV (w.heap.size+2) w1 q→kY o1 q→kY (Value.slice A b.length cap).ownBlock q:=fun q hq hd t ht=>by
     rcases hloc with hl | hl
     ·rw [hl] at ht; exact hd t (hE.2.2 t ht)
     ·rw [hl] at ht; simp at ht; intro e'; have:=(hq t e').2; omega
    have hbe:=C2.beside hg hs2 (fun t ht=>d13 t (hE.2.2 t ht)) (fun t ht=>d14 t (hE.2.2 t ht));exact ⟨v7,v8,_,(.slice A b.length cap),v11,v12,v13,v14,v15,v16,v17,v18,v19,v20,v21,((Value.slice A b.length cap).ownBlock),o2,o3,o4,_,rfl,hB2,hN,hbe,⟨hap _ C2.i1 d13,hap _ C2.i2 d14,d23,d24⟩,⟨e8,e9,e11,e15,e16,e18,e21⟩,fun _=>rfl,fun h=>absurd (h15f.symm.trans h) (by decide),fun h=>absurd (h15f.symm.trans h) (by decide)⟩
   | 4,ho,hf,haf=>
    obtain rfl:=Option.some.inj ho;refine wpOp_step rfl (fun K' hK=>?_);go_simp;refine hK _ _ ?_;exact ⟨v7,v8,v9,v10,(.string s),v12,v13,v14,v15,v16,v17,v18,v19,v20,v21,o1,o2,o3,o4,_,rfl,hB,C1,C2,⟨d13,d14,d23,d24⟩,⟨e8,e9,fun _=>rfl,e15,e16,e18,e21⟩,fun _=>rfl,fun h=>absurd (h15f.symm.trans h) (by decide),fun h=>absurd (h15f.symm.trans h) (by decide)⟩
   | 5,ho,hf,haf=>
    obtain rfl:=Option.some.inj ho;simp [Region.binds] at haf;have f4:=haf;have g4:=e11 f4;subst g4;rw [hf] at C1;have hA2:Below w1.heap.size w1 (w1.alloc (.cells #[.string s] 9)):=(Below.refl _ _).alloc (Nat.le_refl _) _;refine wpOp_step rfl (fun K' hK=>?_);go_simp;refine hK _ _ ?_;exact ⟨v7,v8,v9,v10,_,(.slice (some ⟨w1.heap.size,0,none⟩) 1 1),v13,v14,v15,v16,v17,v18,v19,v20,v21,o1,(some w1.heap.size),o3,o4,_,rfl,hB.alloc hsz _,(C1.stepS hsz),(C2.below hA2),⟨d13,d14,(kY.new C2.i1).symm,(kY.new C2.i2).symm⟩,⟨e8,e9,e11,e15,e16,e18,e21⟩,fun _=>rfl,fun h=>absurd (h15f.symm.trans h) (by decide),fun h=>absurd (h15f.symm.trans h) (by decide)⟩
   | 6,ho,hf,haf=>
    obtain rfl:=Option.some.inj ho;simp [Region.binds] at haf;obtain ⟨f3,f5,_⟩:=haf;have hbe0:f 0=true:=C1.hr f3;rw [hf,f3,f5,hbe0] at C1;have hR:=C1.r_ rfl rfl;obtain ⟨l,rfl,hl,_⟩:=C1.s_ rfl rfl;refine wpOp_step rfl (fun K' hK=>?_);refine iC rfl (.tmp 10) (.tmp 12) 139 rfl (w.heap.size+2) 9 i0 (.string ⟨#[]⟩) 1 16 Tryz.underlying139 hi hy0 hy1 hy2 rfl (by omega) v10 b.length L1 rfl hR.2.1 (some ⟨l,0,none⟩) 1 1 [.string s] rfl rfl (aS hl) (fun u hu=>by rw [List.mem_singleton.1 hu]; rfl) (by omega) (by omega) hsz (fun A cap w2 hown hg hloc=>hK _ _ ?_);have hs2:=hg.size;have hB2:=iV hB hR.2.1 (Nat.le_refl _) hsz hg;have hN:rX (w.heap.size+2) 9 b.length L1 (.string s) (f 0) (f 3) (f 5) true v7 v10 (.slice (some ⟨l,0,none⟩) 1 1) (.slice A (b.length+1) cap) (Value.slice A (b.length+1) cap).ownBlock o2 w2:=by rw [hbe0,f3,f5]; exact C1.RF hsz hown hg hs2 hloc (jq hown)
    have hap:∀ q,IV (w.heap.size+2) w1 q→kY o1 q→kY (Value.slice A (b.length+1) cap).ownBlock q:=fun q hq hd t ht=>by
     rcases hloc with hl | hl
     ·rw [hl] at ht; exact hd t (hR.2.2 t ht)
     ·rw [hl] at ht; simp at ht; intro e'; have:=(hq t e').2; omega
    have hbe:=C2.beside hg hs2 (fun t ht=>d13 t (hR.2.2 t ht)) (fun t ht=>d14 t (hR.2.2 t ht));exact ⟨v7,v8,v9,v10,v11,_,(.slice A (b.length+1) cap),v14,v15,v16,v17,v18,v19,v20,v21,((Value.slice A (b.length+1) cap).ownBlock),o2,o3,o4,_,rfl,hB2,hN,hbe,⟨hap _ C2.i1 d13,hap _ C2.i2 d14,d23,d24⟩,⟨e8,e9,e11,e15,e16,e18,fun h=>absurd ((e21 h).2.1.symm.trans hf) (by decide)⟩,fun _=>rfl,fun h=>absurd (h15f.symm.trans h) (by decide),fun h=>absurd (h15f.symm.trans h) (by decide)⟩
   | 7,ho,hf,haf=>
    obtain rfl:=Option.some.inj ho;rw [hf] at C2;have hA2:Below w1.heap.size w1 (w1.alloc (.cells #[] 9)):=(Below.refl _ _).alloc (Nat.le_refl _) _;refine wpOp_step rfl (fun K' hK=>?_);go_simp;refine hK _ _ ?_;exact ⟨v7,v8,v9,v10,v11,v12,v13,(.slice (some ⟨w1.heap.size,0,none⟩) 0 0),v15,v16,v17,v18,v19,v20,v21,o1,o2,(some w1.heap.size),o4,_,rfl,hB.alloc hsz _,(C1.below hA2),(C2.RD hsz),⟨kY.new C1.i1,d14,kY.new C1.i2,d24⟩,⟨e8,e9,e11,e15,e16,e18,e21⟩,fun _=>rfl,fun h=>absurd (h15f.symm.trans h) (by decide),fun h=>absurd (h15f.symm.trans h) (by decide)⟩
   | 8,ho,hf,haf=>
    obtain rfl:=Option.some.inj ho;refine wpOp_step rfl (fun K' hK=>?_);go_simp;refine hK _ _ ?_;exact ⟨v7,v8,v9,v10,v11,v12,v13,v14,(.pointer (some ⟨w.heap.size,1,none⟩)),v16,v17,v18,v19,v20,v21,o1,o2,o3,o4,_,rfl,hB,C1,C2,⟨d13,d14,d23,d24⟩,⟨e8,e9,e11,fun _=>rfl,e16,e18,e21⟩,fun _=>rfl,fun h=>absurd (h15f.symm.trans h) (by decide),fun h=>absurd (h15f.symm.trans h) (by decide)⟩
   | 9,ho,hf,haf=>
    obtain rfl:=Option.some.inj ho;simp [Region.binds] at haf;have f8:=haf;have g8:=e15 f8;subst g8;have hc:w1.cell? ⟨w.heap.size,1,none⟩=some (.slice A2 b.length p2):=(hB.cell (p:=⟨w.heap.size,1,none⟩) (by simp)).trans (by go_simp);refine wpOp_step rfl (fun K' hK=>?_);go_simp;refine hK _ _ ?_;exact ⟨v7,v8,v9,v10,v11,v12,v13,v14,_,(.slice A2 b.length p2),v17,v18,v19,v20,v21,o1,o2,o3,o4,_,rfl,hB,C1,C2,⟨d13,d14,d23,d24⟩,⟨e8,e9,e11,e15,fun _=>rfl,e18,e21⟩,fun _=>rfl,fun h=>absurd (h15f.symm.trans h) (by decide),fun h=>absurd (h15f.symm.trans h) (by decide)⟩
   | 10,ho,hf,haf=>
    obtain rfl:=Option.some.inj ho;simp [Region.binds] at haf;obtain ⟨f7,f9,f6⟩:=haf;have g:=e16 f9;subst g;rw [hf,f7] at C2;have hE:=C2.e_ rfl rfl;refine wpOp_step rfl (fun K' hK=>?_);refine iC rfl (.tmp 14) (.tmp 16) 139 rfl (w.heap.size+2) 9 i0 (.string ⟨#[]⟩) 1 16 Tryz.underlying139 hi hy0 hy1 hy2 rfl (by omega) v14 0 [] rfl hE.2.1 A2 b.length p2 L2 rfl (by rw [hL2,Nat.mul_one]) (hl2 w1 hBW) ho2 (by omega) (by omega) hsz (fun A cap w2 hown hg hloc=>hK _ _ ?_);rw [Nat.zero_add] at hown hloc ⊢;rw [List.nil_append] at hown;have hs2:=hg.size;have hB2:=iV hB hE.2.1 (Nat.le_refl _) hsz hg;have hN:rX (w.heap.size+2) 9 b.length L2 (.string v) (f 7) true (f 12) (f 13) v14 (.slice A b.length cap) v19 v20 (Value.slice A b.length cap).ownBlock o4 w2:=by rw [f7]; exact C2.fG hsz hown hg hs2 hloc (jq hown)
    have hap:∀ q,IV (w.heap.size+2) w1 q→kY o3 q→kY (Value.slice A b.length cap).ownBlock q:=fun q hq hd t ht=>by
     rcases hloc with hl | hl
     ·rw [hl] at ht; exact hd t (hE.2.2 t ht)
     ·rw [hl] at ht; simp at ht; intro e'; have:=(hq t e').2; omega
    have hbe:=C1.beside hg hs2 (fun t ht=>d13.symm t (hE.2.2 t ht)) (fun t ht=>d23.symm t (hE.2.2 t ht));exact ⟨v7,v8,v9,v10,v11,v12,v13,v14,v15,_,(.slice A b.length cap),v18,v19,v20,v21,o1,o2,((Value.slice A b.length cap).ownBlock),o4,_,rfl,hB2,hbe,hN,⟨(hap _ C1.i1 d13.symm).symm,d14,(hap _ C1.i2 d23.symm).symm,d24⟩,⟨e8,e9,e11,e15,e16,e18,e21⟩,fun _=>rfl,fun h=>absurd (h15f.symm.trans h) (by decide),fun h=>absurd (h15f.symm.trans h) (by decide)⟩
   | 11,ho,hf,haf=>
    obtain rfl:=Option.some.inj ho;refine wpOp_step rfl (fun K' hK=>?_);go_simp;refine hK _ _ ?_;exact ⟨v7,v8,v9,v10,v11,v12,v13,v14,v15,v16,v17,(.string v),v19,v20,v21,o1,o2,o3,o4,_,rfl,hB,C1,C2,⟨d13,d14,d23,d24⟩,⟨e8,e9,e11,e15,e16,fun _=>rfl,e21⟩,fun _=>rfl,fun h=>absurd (h15f.symm.trans h) (by decide),fun h=>absurd (h15f.symm.trans h) (by decide)⟩
   | 12,ho,hf,haf=>
    obtain rfl:=Option.some.inj ho;simp [Region.binds] at haf;have f11:=haf;have g11:=e18 f11;subst g11;rw [hf] at C2;have hA2:Below w1.heap.size w1 (w1.alloc (.cells #[.string v] 9)):=(Below.refl _ _).alloc (Nat.le_refl _) _;refine wpOp_step rfl (fun K' hK=>?_);go_simp;refine hK _ _ ?_;exact ⟨v7,v8,v9,v10,v11,v12,v13,v14,v15,v16,v17,_,(.slice (some ⟨w1.heap.size,0,none⟩) 1 1),v20,v21,o1,o2,o3,(some w1.heap.size),_,rfl,hB.alloc hsz _,(C1.below hA2),(C2.stepS hsz),⟨d13,kY.new C1.i1,d23,kY.new C1.i2⟩,⟨e8,e9,e11,e15,e16,e18,e21⟩,fun _=>rfl,fun h=>absurd (h15f.symm.trans h) (by decide),fun h=>absurd (h15f.symm.trans h) (by decide)⟩
   | 13,ho,hf,haf=>
    obtain rfl:=Option.some.inj ho;simp [Region.binds] at haf;obtain ⟨f10,f12,_⟩:=haf;have hbe0:f 7=true:=C2.hr f10;rw [hf,f10,f12,hbe0] at C2;have hR:=C2.r_ rfl rfl;obtain ⟨l,rfl,hl,_⟩:=C2.s_ rfl rfl;refine wpOp_step rfl (fun K' hK=>?_);refine iC rfl (.tmp 17) (.tmp 19) 139 rfl (w.heap.size+2) 9 i0 (.string ⟨#[]⟩) 1 16 Tryz.underlying139 hi hy0 hy1 hy2 rfl (by omega) v17 b.length L2 rfl hR.2.1 (some ⟨l,0,none⟩) 1 1 [.string v] rfl rfl (aS hl) (fun u hu=>by rw [List.mem_singleton.1 hu]; rfl) (by omega) (by omega) hsz (fun A cap w2 hown hg hloc=>hK _ _ ?_);have hs2:=hg.size;have hB2:=iV hB hR.2.1 (Nat.le_refl _) hsz hg;have hN:rX (w.heap.size+2) 9 b.length L2 (.string v) (f 7) (f 10) (f 12) true v14 v17 (.slice (some ⟨l,0,none⟩) 1 1) (.slice A (b.length+1) cap) (Value.slice A (b.length+1) cap).ownBlock o4 w2:=by rw [hbe0,f10,f12]; exact C2.RF hsz hown hg hs2 hloc (jq hown)
    have hap:∀ q,IV (w.heap.size+2) w1 q→kY o3 q→kY (Value.slice A (b.length+1) cap).ownBlock q:=fun q hq hd t ht=>by
     rcases hloc with hl | hl
     ·rw [hl] at ht; exact hd t (hR.2.2 t ht)
     ·rw [hl] at ht; simp at ht; intro e'; have:=(hq t e').2; omega
    have hbe:=C1.beside hg hs2 (fun t ht=>d13.symm t (hR.2.2 t ht)) (fun t ht=>d23.symm t (hR.2.2 t ht));exact ⟨v7,v8,v9,v10,v11,v12,v13,v14,v15,v16,v17,v18,_,(.slice A (b.length+1) cap),v21,o1,o2,((Value.slice A (b.length+1) cap).ownBlock),o4,_,rfl,hB2,hbe,hN,⟨(hap _ C1.i1 d13.symm).symm,d14,(hap _ C1.i2 d23.symm).symm,d24⟩,⟨e8,e9,e11,e15,e16,e18,fun h=>absurd ((e21 h).2.2.symm.trans hf) (by decide)⟩,fun _=>rfl,fun h=>absurd (h15f.symm.trans h) (by decide),fun h=>absurd (h15f.symm.trans h) (by decide)⟩
   | 14,ho,hf,haf=>
    obtain rfl:=Option.some.inj ho;simp [Region.binds] at haf;obtain ⟨f6,f13⟩:=haf;obtain ⟨⟨A3,q3,rfl⟩,_⟩:=C1.f_ f6;obtain ⟨⟨A4,q4,rfl⟩,_⟩:=C2.f_ f13;refine wpOp_step rfl (fun K' hK=>?_);go_simp;refine hK _ _ ?_;exact ⟨v7,v8,v9,v10,v11,v12,_,v14,v15,v16,v17,v18,v19,_,_,o1,o2,o3,o4,_,rfl,hB,C1,C2,⟨d13,d14,d23,d24⟩,⟨e8,e9,e11,e15,e16,e18,fun _=>⟨rfl,f6,f13⟩⟩,fun _=>rfl,fun h=>absurd (h15f.symm.trans h) (by decide),fun h=>absurd (h15f.symm.trans h) (by decide)⟩
   | k+15,ho,hf,haf=>
    rw [Array.getElem?_eq_none (by simp; omega)] at ho;cases ho
  case pos=>
   subst h15;obtain rfl:=Option.some.inj ho;simp [Region.binds] at haf;obtain ⟨f14,f13,f0,f1,f2,f3,f4,f5,f6,f7,f8,f9,f10,f11,f12,_⟩:=haf;have g:=(e21 f14).1;subst g;obtain rfl:=hw0 hf;have hbx:w1.heap[w.heap.size+1]? = some (.cells #[.slice none 0 0,.slice none 0 0] 141 (0,0)):=(hB.block _ (show w.heap.size+1 < w.heap.size+2 by omega)).trans hx.2;have hfz:∀ k,w1.frozen? ⟨w.heap.size+1,k,none⟩=false:=fun k=>by simp [World.frozen?,hbx]
   have hcc0:w1.cell? ⟨w.heap.size+1,0,none⟩=some (.slice none 0 0):=by simp [World.cell?,hbx]
   have hcc1:w1.cell? ⟨w.heap.size+1,1,none⟩=some (.slice none 0 0):=by simp [World.cell?,hbx]
   have hf0:=hfz 0;have hf1:=hfz 1;obtain ⟨⟨A3,q3,rfl⟩,_⟩:=C1.f_ f6;obtain ⟨⟨A4,q4,rfl⟩,_⟩:=C2.f_ f13;refine wpOp_step rfl (fun K' hK=>?_);go_simp;refine hK _ _ ?_;refine ⟨_,_,_,_,_,_,_,_,_,_,_,_,_,_,_,o1,o2,o3,o4,w1,rfl,hB,C1,C2,⟨d13,d14,d23,d24⟩,⟨fun _=>rfl,fun _=>rfl,fun _=>rfl,fun _=>rfl,fun _=>rfl,fun _=>rfl,fun _=>⟨rfl,f6,f13⟩⟩,(fun h=>by cases h),fun _=>rfl,fun _ i hi=>?_⟩
   match i,hi with
   | 0,_=>exact f0
   | 1,_=>exact f1
   | 2,_=>exact f2
   | 3,_=>exact f3
   | 4,_=>exact f4
   | 5,_=>exact f5
   | 6,_=>exact f6
   | 7,_=>exact f7
   | 8,_=>exact f8
   | 9,_=>exact f9
   | 10,_=>exact f10
   | 11,_=>exact f11
   | 12,_=>exact f12
   | 13,_=>exact f13
   | 14,_=>exact f14
   | q+15,h=>omega
 ·intro f a w' hf hJ
  obtain ⟨v7,v8,v9,v10,v11,v12,v13,v14,v15,v16,v17,v18,v19,v20,v21,o1,o2,o3,o4,w1,rfl,hB,C1,C2,⟨d13,d14,d23,d24⟩,⟨e8,e9,e11,e15,e16,e18,e21⟩,hw0,hw15,hall⟩:=hJ;obtain rfl:=hw15 (hf 15 (by simp));obtain ⟨⟨A3,q3,rfl⟩,ho3,_⟩:=C1.f_ (hf 6 (by simp));obtain ⟨⟨A4,q4,rfl⟩,ho4,_⟩:=C2.f_ (hf 13 (by simp));have hbx:w1.heap[w.heap.size+1]? = some (.cells #[.slice none 0 0,.slice none 0 0] 141 (0,0)):=(hB.block _ (show w.heap.size+1 < w.heap.size+2 by omega)).trans hx.2;have hfin:=bZ (o:=1) (u:=.slice A4 (b.length+1) q4) (bZ (o:=0) (u:=.slice A3 (b.length+1) q3) hbx);have hc0:((w1.setCell ⟨w.heap.size+1,0,none⟩ (.slice A3 (b.length+1) q3)).setCell ⟨w.heap.size+1,1,none⟩ (.slice A4 (b.length+1) q4)).cell? ⟨w.heap.size+1,0,none⟩=some (.slice A3 (b.length+1) q3):=by simp [World.cell?,hfin]
  have hc1:((w1.setCell ⟨w.heap.size+1,0,none⟩ (.slice A3 (b.length+1) q3)).setCell ⟨w.heap.size+1,1,none⟩ (.slice A4 (b.length+1) q4)).cell? ⟨w.heap.size+1,1,none⟩=some (.slice A4 (b.length+1) q4):=by simp [World.cell?,hfin]
  have hBW:Below w.heap.size w w1:=hA.trans (hB.mono (by simp));have hBF:=η ((hBW.setCell (p:=⟨w.heap.size+1,0,none⟩) (by simp) (.slice A3 (b.length+1) q3)).setCell (p:=⟨w.heap.size+1,1,none⟩) (by simp) (.slice A4 (b.length+1) q4))
  have hs3:=sJ (w':=(w1.setCell ⟨w.heap.size+1,0,none⟩ (.slice A3 (b.length+1) q3)).setCell ⟨w.heap.size+1,1,none⟩ (.slice A4 (b.length+1) q4)) ho3 fun t ht=>by
   have:=(jq ho3 t ht).1;rw [Below.heap_setCell _ _ _ _ (by show t ≠ w.heap.size+1; omega),Below.heap_setCell _ _ _ _ (by show t ≠ w.heap.size+1; omega)]
  have hs4:=sJ (w':=(w1.setCell ⟨w.heap.size+1,0,none⟩ (.slice A3 (b.length+1) q3)).setCell ⟨w.heap.size+1,1,none⟩ (.slice A4 (b.length+1) q4)) ho4 fun t ht=>by
   have:=(jq ho4 t ht).1;rw [Below.heap_setCell _ _ _ _ (by show t ≠ w.heap.size+1; omega),Below.heap_setCell _ _ _ _ (by show t ≠ w.heap.size+1; omega)]
  have hfinal:Hid (∃ bs',jl ((w1.setCell ⟨w.heap.size+1,0,none⟩ (.slice A3 (b.length+1) q3)).setCell ⟨w.heap.size+1,1,none⟩ (.slice A4 (b.length+1) q4)) [.slice A3 (b.length+1) q3,.slice A4 (b.length+1) q4] (b ++ [(s,v)]) bs'∧∀ c ∈ bs',w.heap.size≤c):=η (by
   obtain ⟨g1,k1,r1⟩:=zD (ys:=(b ++ [(s,v)]).map (·.1)) (by rw [List.map_append,List.length_append,hlen1,List.map_append,hK1]; exact hs3) (fun t ht=>by
    rw [List.map_append] at ht
    rcases List.mem_append.1 ht with ht | ht
    ·exact hz1 t ht
    ·rw [List.mem_singleton.1 ht]; exact hs)
   obtain ⟨g2,k2,r2⟩:=zD (ys:=(b ++ [(s,v)]).map (·.2)) (by rw [List.map_append,List.length_append,hlen2,List.map_append,hK2]; exact hs4) (fun t ht=>by
    rw [List.map_append] at ht
    rcases List.mem_append.1 ht with ht | ht
    ·exact hz2 t ht
    ·rw [List.mem_singleton.1 ht]; exact hv)
   exact ⟨_,⟨_,_,g1,g2,rfl,rfl,k1,k2⟩,fun c hc=>(List.mem_append.1 hc).elim (fun hc=>Nat.le_trans (Nat.le_add_right _ _) (r1 c hc)) (fun hc=>Nat.le_trans (Nat.le_add_right _ _) (r2 c hc))⟩)
  clear C1 C2 d13 d14 d23 d24 e8 e9 e11 e15 e16 e18 e21 hw0 hw15 hall ho3 ho4 hs3 hs4 hB hBW hbx hfin hA hx hl1 hl2 hz1 hz2;go_wp2;exact bodyPost_ret (v:=.agg #[.slice A3 (b.length+1) q3,.slice A4 (b.length+1) q4]) (by simp [results,Tryz.results166,go_sem,hc0,hc1]) rfl ⟨hBF.out,_,_,_,rfl,hfinal.out.choose_spec⟩
theorem xA (xs:List A) (a:A) (v d0 d1:Value) (bs b2:List Nat) (w:World) (h:aI w [v] xs bs) (h2:aU w [d0,d1] a b2) (hs:ig xs=true):
  Calls Tryz.prog 97 #[v,.agg #[d0,d1]] w fun e w'=>e=.returned (.tuple #[.int .i64 (pl xs a),.bool (hasB xs a)])∧Below w.heap.size w w':=by
 obtain ⟨Ad,cap,rfl,hl,hm⟩:=af h;obtain ⟨Aa,ca,rfl,rfl⟩:=bJ h2;have hlm:=au (Nat.le_trans hl hm);clear hm;have hA0:Below w.heap.size w (w.alloc (.cells #[.string a.name,.slice Aa a.args.length ca] 68)):=(Below.refl _ _).alloc (Nat.le_refl _) _
 go_enter Tryz.func97,Tryz.ntmps97
 go_wp2
 go_loopw [6] (fun i wr=>∃ k:Nat,k≤xs.length∧i=.int .i64 k∧LC xs a k∧Below w.heap.size w wr∧wr.cell? ⟨w.heap.size,0,none⟩=some (.string a.name)∧wr.cell? ⟨w.heap.size,1,none⟩=some (.slice Aa a.args.length ca)∧w.heap.size < wr.heap.size) (fun i _=>xs.length - (intOf i).toNat)
 case atStart=>exact ⟨0,Nat.zero_le _,rfl,OU _ _,hA0,by go_simp,by go_simp,by simp⟩
 case round=>
  obtain ⟨k,hk,rfl,hall,hb,s0,s1,hgt⟩:=hrel;have HA:=η hall;clear hall hA0;by_cases hlt:k < xs.length
  ·have hk0:(0:Int)≤(k:Int):=by omega
   have hk1:(k:Int) < (xs.length:Int):=by omega
   obtain ⟨b,o,Ae,ce,bk,rfl,_,c0,c1,hel,_⟩:=dG (ai.below h hb) hlt;have hD:Below wr.heap.size wr wr.drew:=Below.drew (Below.refl _ _);have hcm:=fun w' (hb':Below wr.heap.size wr w')=>ED xs[k] a _ _ _ _ bk b2 w' (aj.below hel hb') (aj.below h2 (hb.trans (hb'.mono hb.size)))
   clear h h2 hel;by_cases hc:bQ xs[k] a < 0
   ·have HC:=η (OV HA.out hlt hc)
    go_wp2
    go_region_held3 (fun w'=>w'.cell? ⟨b,o+k * 2,none⟩=some (.string xs[k].name)∧w'.cell? ⟨b,o+k * 2+1,none⟩=some (.slice Ae xs[k].args.length ce)∧w'.cell? ⟨w.heap.size,0,none⟩=some (.string a.name)∧w'.cell? ⟨w.heap.size,1,none⟩=some (.slice Aa a.args.length ca))
     (first | go_keep | exact ⟨y0,y1,y2,y3⟩)
     (first | (go_at_call 92; refine (hcm _ hD).mono ?_; rintro e w2 ⟨rfl,hw2⟩; have y0:=cell_later hw2 c0; have y1:=cell_later hw2 c1; have y2:=cell_later hw2 s0; have y3:=cell_later hw2 s1))
    have B2:=hb.trans ((hD.trans hw2).mono hb.size);clear hcm;go_wp2;go_roundw
    case rel=>exact ⟨k+1,by omega,by go_num,HC.out,B2,y2,y3,Nat.lt_of_lt_of_le hgt (hD.trans hw2).size⟩
    case measure=>simp [intOf]; omega
   ·have HP:=η (Ir hs hk HA.out (fun _=>hc))
    have HH:=η (VN hs hlt HA.out hc);go_wp2
    go_region_held3 (fun w'=>w'.cell? ⟨b,o+k * 2,none⟩=some (.string xs[k].name)∧w'.cell? ⟨b,o+k * 2+1,none⟩=some (.slice Ae xs[k].args.length ce)∧w'.cell? ⟨w.heap.size,0,none⟩=some (.string a.name)∧w'.cell? ⟨w.heap.size,1,none⟩=some (.slice Aa a.args.length ca))
     (first | go_keep | exact ⟨y0,y1,y2,y3⟩)
     (first | (go_at_call 92; refine (hcm _ hD).mono ?_; rintro e w2 ⟨rfl,hw2⟩; have y0:=cell_later hw2 c0; have y1:=cell_later hw2 c1; have y2:=cell_later hw2 s0; have y3:=cell_later hw2 s1))
    have B2:=hb.trans ((hD.trans hw2).mono hb.size);have hE:=hD.trans hw2;have hcm2:=hcm _ (hE.trans ((Below.refl _ _).drew.mono hE.size));have hD2:Below w2.heap.size w2 w2.drew:=Below.drew (Below.refl _ _);clear hcm;go_wp2
    go_region_held3 (fun w'=>w'.cell? ⟨b,o+k * 2,none⟩=some (.string xs[k].name)∧w'.cell? ⟨b,o+k * 2+1,none⟩=some (.slice Ae xs[k].args.length ce)∧w'.cell? ⟨w.heap.size,0,none⟩=some (.string a.name)∧w'.cell? ⟨w.heap.size,1,none⟩=some (.slice Aa a.args.length ca))
     (first | go_keep | exact ⟨z0,z1,z2,z3⟩)
     (first | (go_at_call 92; refine (hcm2).mono ?_; rintro e w3 ⟨rfl,hw3⟩; have z0:=cell_later hw3 y0; have z1:=cell_later hw3 y1; have z2:=cell_later hw3 y2; have z3:=cell_later hw3 y3))
    have B3:=B2.trans ((hD2.trans hw3).mono B2.size);go_wp2;go_ret2;exact ⟨by rw [← HP.out,HH.out]; rfl,B3⟩
  ·have he:=η (show k=xs.length by omega)
   have hk1:decide ((k:Int) < (xs.length:Int))=false:=decide_eq_false (by omega);go_wp2
   go_quiet (fail)
   go_wp2
   go_quiet (fail)
   go_wp2;go_ret2;have hA:=HA.out;refine ⟨?_,below_drewN (below_drewN hb _) _⟩;rw [← Ir hs hk hA (fun h=>absurd h hlt),UJ (by rw [← he.out]; exact hA)];rfl
theorem D.UU {a k n c o:Nat} (e:(Value.slice (some ⟨a+1+1,o,none⟩) n c).ownBlock=some k):a≤k:=by
 have:a+1+1=k:=by simpa [Value.ownBlock] using e
 omega
theorem BP (a:A) (c0 c1:Value) (bs:List Nat) (w:World) (h:aU w [c0,c1] a bs) (hn:a.args.length≤16777216):
  Calls Tryz.prog 94 #[.agg #[c0,c1]] w (vJ aU a w.heap.size w):=by
 have ht:=eH h;have hnm:a.name.size≤maxLen:=by obtain ⟨_,_,hn,_⟩:=h; exact hn
 obtain ⟨Ad,cap,rfl,rfl⟩:=bJ h;obtain ⟨i0,hi,hz0,hz1,hz2⟩:=info_parts Ez;obtain ⟨L,b2,hrow,_,hsrc⟩:=qJ qI (by omega) ht;have HL:=η (fun w' (hb:Below w.heap.size w w')=>IE hrow (by omega) hsrc (aH.lt ht) hb);have HR:=η hrow;clear h ht hrow hsrc;have hA:=((Below.refl w.heap.size w).alloc (Nat.le_refl _) (.cells #[.string a.name,.slice Ad a.args.length cap] 68)).alloc (by simp) (.cells #[.string ⟨#[]⟩,.slice none 0 0] 68)
 have HE:Hid ((((w.alloc (.cells #[.string a.name,.slice Ad a.args.length cap] 68)).alloc (.cells #[.string ⟨#[]⟩,.slice none 0 0] 68)).alloc (.cells #[] 109)).heap[w.heap.size+1+1]? = some (.cells #[] 109 (0,0))):=η (by
  have:=heap_alloc_new ((w.alloc (.cells #[.string a.name,.slice Ad a.args.length cap] 68)).alloc (.cells #[.string ⟨#[]⟩,.slice none 0 0] 68)) (.cells #[] 109)
  simpa using this)
 have HO:Hid ((((w.alloc (.cells #[.string a.name,.slice Ad a.args.length cap] 68)).alloc (.cells #[.string ⟨#[]⟩,.slice none 0 0] 68)).alloc (.cells #[] 109)).ownsRow (w.heap.size+2) 109 2 (.slice (some ⟨w.heap.size+1+1,0,none⟩) 0 0) 0 []):=η (yJ HE.out (by omega));have HI:Hid (Lies (((w.alloc (.cells #[.string a.name,.slice Ad a.args.length cap] 68)).alloc (.cells #[.string ⟨#[]⟩,.slice none 0 0] 68)).alloc (.cells #[] 109)) Ad L):=η (HL.out _ (hA.alloc (by simp <;> omega) _));have hlen:=HR.out.len;have hone:=HR.out.one;have h63:0+a.args.length≤maxLen:=by unfold maxLen; omega
 have hby:(0+a.args.length) * 24≤140737488355328:=by omega
 have hbs:w.heap.size+2≤(((w.alloc (.cells #[.string a.name,.slice Ad a.args.length cap] 68)).alloc (.cells #[.string ⟨#[]⟩,.slice none 0 0] 68)).alloc (.cells #[] 109)).heap.size:=by simp
 have H1:=η hlen;have H2:=η hone;have H3:=η h63;have H4:=η hby;have H5:=η hbs;have X0:Hid ((((w.alloc (.cells #[.string a.name,.slice Ad a.args.length cap] 68)).alloc (.cells #[.string ⟨#[]⟩,.slice none 0 0] 68)).alloc (.cells #[] 109)).cell? ⟨w.heap.size,0,none⟩=some (.string a.name)):=η (by go_simp);have X1:Hid ((((w.alloc (.cells #[.string a.name,.slice Ad a.args.length cap] 68)).alloc (.cells #[.string ⟨#[]⟩,.slice none 0 0] 68)).alloc (.cells #[] 109)).cell? ⟨w.heap.size,1,none⟩=some (.slice Ad a.args.length cap)):=η (by go_simp);have X2:Hid ((((w.alloc (.cells #[.string a.name,.slice Ad a.args.length cap] 68)).alloc (.cells #[.string ⟨#[]⟩,.slice none 0 0] 68)).alloc (.cells #[] 109)).cell? ⟨w.heap.size+1,0,none⟩=some (.string ⟨#[]⟩)):=η (by go_simp);have X3:Hid ((((w.alloc (.cells #[.string a.name,.slice Ad a.args.length cap] 68)).alloc (.cells #[.string ⟨#[]⟩,.slice none 0 0] 68)).alloc (.cells #[] 109)).cell? ⟨w.heap.size+1,1,none⟩=some (.slice none 0 0)):=η (by go_simp)
 have F0:Hid ((((w.alloc (.cells #[.string a.name,.slice Ad a.args.length cap] 68)).alloc (.cells #[.string ⟨#[]⟩,.slice none 0 0] 68)).alloc (.cells #[] 109)).frozen? ⟨w.heap.size+1,0,none⟩=false):=η (by go_simp);have F1:Hid ((((w.alloc (.cells #[.string a.name,.slice Ad a.args.length cap] 68)).alloc (.cells #[.string ⟨#[]⟩,.slice none 0 0] 68)).alloc (.cells #[] 109)).frozen? ⟨w.heap.size+1,1,none⟩=false):=η (by go_simp);clear hlen hone h63 hby hbs HE HL
 go_enter Tryz.func94,Tryz.ntmps94
 go_wp2
 go_region_held3 (fun w'=>w'.cell? ⟨w.heap.size,0,none⟩=some (.string a.name)∧w'.cell? ⟨w.heap.size,1,none⟩=some (.slice Ad a.args.length cap))
  (first | go_keep | exact ⟨q0,q1⟩)
  ((refine iC (by rfl) _ _ _ (by rfl) (w.heap.size+2) 109 i0 (.agg #[.bool false,.string ⟨#[]⟩]) 2 24 Tryz.underlying66 hi hz0 hz1 hz2 rfl (by omega) (.slice (some ⟨w.heap.size+1+1,0,none⟩) 0 0) 0 [] (by rfl) HO.out Ad a.args.length cap L (by rfl) H1.out HI.out H2.out H3.out H4.out H5.out ?_; intro A1 cp w1 hown hgrow hloc; clear hloc; simp only [Nat.zero_add,List.nil_append] at hown ⊢; have q0:=hgrow.cell X0.out (own_ne (a:=w.heap.size) (b:=w.heap.size+1+1) (by omega)); have q1:=hgrow.cell X1.out (own_ne (a:=w.heap.size) (b:=w.heap.size+1+1) (by omega)); have q2:=hgrow.cell X2.out (own_ne (a:=w.heap.size+1) (b:=w.heap.size+1+1) (by omega)); have q3:=hgrow.cell X3.out (own_ne (a:=w.heap.size+1) (b:=w.heap.size+1+1) (by omega)); have g0:=(hgrow.frozen_far _ (lt_of_cell X2.out) (own_ne (a:=w.heap.size+1) (b:=w.heap.size+1+1) (by omega))).trans F0.out; have g1:=(hgrow.frozen_far _ (lt_of_cell X3.out) (own_ne (a:=w.heap.size+1) (b:=w.heap.size+1+1) (by omega))).trans F1.out))
 obtain ⟨b3,hR3,hN3⟩:=EC HR.out hown;have hne:∀ c ∈ b3,c ≠ w.heap.size+1:=fun c hc e=>by have:=(hN3.own c hc).1; omega
 have B2:Below w.heap.size w w1:=(hA.alloc (by simp <;> omega) _).drew.grown hgrow (by simp <;> omega) (fun k e=>UU e);go_wp2;refine bodyPost_ret (v:=.agg #[.string a.name,.slice A1 a.args.length cp]) (by simp [results,Tryz.results94,go_sem,q2,q3]) rfl ⟨(B2.setCell (by simp) _).setCell (by simp) _,_,b3,rfl,⟨_,rfl,hnm,aH.keep hR3 fun c hc=>?_⟩,(hN3.mono (by omega)).keep fun c hc=>?_⟩
 all_goals rw [Below.heap_setCell _ _ _ _ (hne c hc),Below.heap_setCell _ _ _ _ (hne c hc)]
end Go.Proofs.YtiidmgchadagbaaGreatDoor
