/- Of the proof of FnDeltaNeeds: WithS, At, L3A. -/
import Derived.Test.YtkjinanbccloeaaGreatDoorE05
set_option linter.unusedVariables false
set_option maxHeartbeats 4000000
set_option maxRecDepth 100000
namespace Go.Proofs.YtkjinanbccloeaaGreatDoor
open Go.RowKit D
attribute [local go_sem ↓] Go.wp_at_zero Go.wp_at_succ
theorem UZ:(Tryz.prog.info? 9).map (fun i=>(i.zero,i.size,i.bytes))=some (some (.string ⟨#[]⟩),1,16):=by kernel_rfl
theorem D.Hu {w:World} {J:Option Addr} {n cap:Nat} {xs:List ByteArray} {bs:List Nat} (h:iF w [.slice J n cap] xs bs) {w':World} (hb:Below w.heap.size w w'):Lies w' J (xs.map Value.string):=by
 intro j u U;obtain ⟨I,rfl⟩:=List.getElem?_eq_some_iff.1 U;have y:j < xs.length:=by simpa using I
 obtain ⟨b,o,rfl,_,hc,_⟩:=nD (bP.below h hb) y;exact ⟨_,rfl,by rw [addr_add]; simpa using hc⟩
theorem D.xB {w:World} {v:Value} {xs:List ByteArray} {bs:List Nat} (h:iF w [v] xs bs):∀ s ∈ xs,s.size≤maxLen:=by
 intro s y;obtain ⟨j,I,rfl⟩:=List.getElem_of_mem y;obtain ⟨U,cap,rfl,_⟩:=aj h;obtain ⟨_,_,_,_,_,_,_,_,J,_⟩:=jC h I;exact J.2.1
theorem D.CJ {base e:Nat} {w:World} {v:Value} {ys:List ByteArray} (h:w.ownsRow base e 1 v ys.length (ys.map Value.string)) (J:∀ s ∈ ys,s.size≤maxLen):∃ y,iF w [v] ys y∧∀ b ∈ y,base≤b:=by
 have hr:aT 1 jI w (ys.map Value.string) ys []:=by
  refine ⟨by simp,fun u U=>?_,fun _=>[],by simp,fun j I=>⟨?_,J _ (δ I),rfl⟩⟩
  ·obtain ⟨s,_,rfl⟩:=List.mem_map.1 U
   rfl
  ·rw [Nat.mul_one]
   refine List.ext_getElem? fun i=>?_
   rcases i with _ | i
   ·simp [List.getElem?_drop,I]
   ·simp; omega
 obtain ⟨y,h2,h3⟩:=hr.slice h;exact ⟨y,h2,fun b hb=>(h3 b hb).elim id fun h=>by cases h⟩
def D.WJ (W:World) (n:Nat) (L1 L2:List Value) (c0 c1:Value) (s v:ByteArray) (f:Nat→Bool) (a:Act) (w:World):Prop:=
 ∃ (v7 v8 v9 J U a0 y a1 a2 a3 a4 a5 a6 I a7:Value) (o1 o2 o3 o4:Option Nat) (w1:World),a=⟨#[.agg #[c0,c1],.string s,.string v,.pointer (some ⟨W.heap.size,0,none⟩),undef,undef,.pointer (some ⟨W.heap.size+1,0,none⟩),v7,v8,v9,J,U,a0,y,a1,a2,a3,a4,a5,a6,I,a7],[]⟩∧
  Below (W.heap.size+2) ((W.alloc (.cells #[c0,c1] 234)).alloc (.cells #[.slice none 0 0,.slice none 0 0] 234)) w1∧
  ug (W.heap.size+2) 9 n L1 (.string s) (f 0) (f 3) (f 5) (f 6) v7 J a0 y o1 o2 w1∧ug (W.heap.size+2) 9 n L2 (.string v) (f 7) (f 10) (f 12) (f 13) a1 a4 a6 I o3 o4 w1∧
  (lU o1 o3∧lU o1 o4∧lU o2 o3∧lU o2 o4)∧
  ((f 1=true→v8=.pointer (some ⟨W.heap.size,0,none⟩))∧(f 2=true→v9=c0)∧(f 4=true→U=.string s)∧(f 8=true→a2=.pointer (some ⟨W.heap.size,1,none⟩))∧(f 9=true→a3=c1)∧(f 11=true→a5=.string v)∧(f 14=true→a7=.agg #[y,I]∧f 6=true∧f 13=true))∧
  (f 15=false→w=w1)∧(f 15=true→w=(w1.setCell ⟨W.heap.size+1,0,none⟩ y).setCell ⟨W.heap.size+1,1,none⟩ I)∧(f 15=true→∀ i,i < 15→f i=true)
theorem U0 (b:Bd) (s v:ByteArray) (c0 c1:Value) (bs:List Nat) (w:World) (h:jE w [c0,c1] b bs) (hn:b.length≤16777216) (hs:s.size≤maxLen) (hv:v.size≤maxLen):
  Calls Tryz.prog 263 #[.agg #[c0,c1],.string s,.string v] w fun e w'=>Below w.heap.size w w'∧∃ d0 d1 bs',e=.returned (.agg #[d0,d1])∧jE w' [d0,d1] (b ++ [(s,v)]) bs'∧∀ c ∈ bs',w.heap.size≤c:=by
 obtain ⟨x0,x1,b1,b2,bp,rfl,h1,h2⟩:=h;simp only [List.cons.injEq,and_true] at bp;obtain ⟨rfl,rfl⟩:=bp;obtain ⟨A1,p1,rfl,bA,ca⟩:=aj h1;obtain ⟨A2,p2,rfl,bB,cb⟩:=aj h2;have bq:=xB h1;have br:=xB h2;have hA:Below w.heap.size w ((w.alloc (.cells #[.slice A1 (b.map (·.1)).length p1,.slice A2 (b.map (·.2)).length p2] 234)).alloc (.cells #[.slice none 0 0,.slice none 0 0] 234)):=(ζ).alloc (by simp) _;have hx:=kZ w (.cells #[.slice A1 (b.map (·.1)).length p1,.slice A2 (b.map (·.2)).length p2] 234) (.cells #[.slice none 0 0,.slice none 0 0] 234);have bt:=fun w' (hb:Below w.heap.size w w')=>Hu h1 hb
 have bu:=fun w' (hb:Below w.heap.size w w')=>Hu h2 hb
 have bE:∀ u ∈ (b.map (·.1)).map Value.string,Value.oneCell' u=true:=fun u hu=>by obtain ⟨t,_,rfl⟩:=List.mem_map.1 hu; rfl
 have bL:∀ u ∈ (b.map (·.2)).map Value.string,Value.oneCell' u=true:=fun u hu=>by obtain ⟨t,_,rfl⟩:=List.mem_map.1 hu; rfl
 have aM:(b.map (·.1)).length=b.length:=List.length_map ..;have hlen2:(b.map (·.2)).length=b.length:=List.length_map ..;rw [aM] at bA hx hA;rw [hlen2] at bB hx hA;have cc:b.length+1≤maxLen:=by unfold maxLen; omega
 obtain ⟨i0,hi,bg,bh,bi⟩:=info_parts UZ;rw [aM,hlen2];clear h1 h2;generalize hK1:(b.map (·.1)).map Value.string=L1 at *;generalize hK2:(b.map (·.2)).map Value.string=L2 at *;have bO:L1.length=b.length:=by rw [← hK1]; simp
 have bR:L2.length=b.length:=by rw [← hK2]; simp
 go_enter Tryz.func263,Tryz.ntmps263
 go_wp2_with fail
 refine qo (WJ w b.length L1 L2 (.slice A1 b.length p1) (.slice A2 b.length p2) s v) (by kernel_rfl) (by kernel_rfl) ?_ ?_ ?_
 ·exact ⟨undef,undef,undef,undef,undef,undef,undef,undef,undef,undef,undef,undef,undef,undef,undef,none,none,none,none,_,rfl,ϑ.drew,ug.start,ug.start,⟨(fun b h=>by cases h),(fun b h=>by cases h),(fun b h=>by cases h),(fun b h=>by cases h)⟩,⟨(fun h=>by cases h),(fun h=>by cases h),(fun h=>by cases h),(fun h=>by cases h),(fun h=>by cases h),(fun h=>by cases h),(fun h=>by cases h)⟩,fun _=>rfl,(fun h=>by cases h),(fun h=>by cases h)⟩
 ·intro i o ho f a w1 hJ hf I
  obtain ⟨v7,v8,v9,a6,ar,af,ag,a3,av,aw,a7,az,am,ao,aq,o1,o2,o3,o4,wi,rfl,hB,C1,C2,⟨a0,a4,a5,ae⟩,⟨e8,e9,a8,a9,aa,ab,ac⟩,bj,b7,b8⟩:=hJ;by_cases bX:i=15
  case neg=>
   have y:f 15=false:=by
    cases hc:f 15 with
    | false=>rfl
    | true=>
     by_cases c3:i < 15
     ·exact absurd (b8 hc i c3) (by simp [hf])
     ·exfalso
      rw [Array.getElem?_eq_none (by simp; omega)] at ho;cases ho
   obtain rfl:=bj y;have a1:w.heap.size+2≤w1.heap.size:=by have:=hB.size; simp at this; omega
   have b9:Below w.heap.size w w1:=hA.trans (hB.mono (by simp))
   match i,ho,hf,I with
   | 0,ho,hf,I=>
    obtain rfl:=Option.some.inj ho;rw [hf] at C1;have aR:Below w1.heap.size w1 (w1.alloc (.cells #[] 9)):=ζ;refine wpOp_step rfl (fun K' hK=>?_);go_simp;refine hK _ _ ?_;exact ⟨(.slice (some ⟨w1.heap.size,0,none⟩) 0 0),v8,v9,a6,ar,af,ag,a3,av,aw,a7,az,am,ao,aq,(some w1.heap.size),o2,o3,o4,_,rfl,hB.alloc a1 _,(C1.UK a1),(C2.below aR),⟨(lU.new C2.i1).symm,(lU.new C2.i2).symm,a5,ae⟩,⟨e8,e9,a8,a9,aa,ab,ac⟩,fun _=>rfl,Φ y,Φ y⟩
   | 1,ho,hf,I=>
    obtain rfl:=Option.some.inj ho;refine wpOp_step rfl (fun K' hK=>?_);go_simp;refine hK _ _ ?_;exact ⟨v7,(.pointer (some ⟨w.heap.size,0,none⟩)),v9,a6,ar,af,ag,a3,av,aw,a7,az,am,ao,aq,o1,o2,o3,o4,_,rfl,hB,C1,C2,⟨a0,a4,a5,ae⟩,⟨fun _=>rfl,e9,a8,a9,aa,ab,ac⟩,fun _=>rfl,Φ y,Φ y⟩
   | 2,ho,hf,I=>
    obtain rfl:=Option.some.inj ho;simp [Region.binds] at I;have f1:=I;have g1:=e8 f1;subst g1;have hc:w1.cell? ⟨w.heap.size,0,none⟩=some (.slice A1 b.length p1):=(hB.cell (p:=⟨w.heap.size,0,none⟩) (by simp)).trans (by go_simp);refine wpOp_step rfl (fun K' hK=>?_);go_simp;refine hK _ _ ?_;exact ⟨v7,_,(.slice A1 b.length p1),a6,ar,af,ag,a3,av,aw,a7,az,am,ao,aq,o1,o2,o3,o4,_,rfl,hB,C1,C2,⟨a0,a4,a5,ae⟩,⟨e8,fun _=>rfl,a8,a9,aa,ab,ac⟩,fun _=>rfl,Φ y,Φ y⟩
   | 3,ho,hf,I=>
    obtain rfl:=Option.some.inj ho;simp [Region.binds] at I;obtain ⟨f0,f2⟩:=I;have g:=e9 f2;subst g;rw [hf,f0] at C1;have hE:=C1.e_ rfl rfl;refine wpOp_step rfl (fun K' hK=>?_);refine iJ rfl (.tmp 7) (.tmp 9) 44 rfl (w.heap.size+2) 9 i0 (.string ⟨#[]⟩) 1 16 Tryz.underlying44 hi bg bh bi rfl (by omega) v7 0 [] rfl hE.2.1 A1 b.length p1 L1 rfl (by rw [bO,Nat.mul_one]) (bt w1 b9) bE (by omega) (by omega) a1 (fun A cap w2 U hg a2=>hK _ _ ?_);rw [Nat.zero_add] at U a2 ⊢;rw [List.nil_append] at U;have aD:=hg.size;have b3:=iQ hB hE.2.1 ν a1 hg;have hN:ug (w.heap.size+2) 9 b.length L1 (.string s) (f 0) true (f 5) (f 6) v7 (.slice A b.length cap) af ag (Value.slice A b.length cap).ownBlock o2 w2:=by rw [f0]; exact C1.fU a1 U hg aD a2 (jJ U)
    have aE:∀ q,KR (w.heap.size+2) w1 q→lU o1 q→lU (Value.slice A b.length cap).ownBlock q:=fun q hq hd t J=>by
     rcases a2 with hl | hl
     ·rw [hl] at J; exact hd t (hE.2.2 t J)
     ·rw [hl] at J; simp at J; intro e'; have:=(hq t e').2; omega
    have b4:=C2.beside hg aD (fun t J=>a0 t (hE.2.2 t J)) (fun t J=>a4 t (hE.2.2 t J));exact ⟨v7,v8,_,(.slice A b.length cap),ar,af,ag,a3,av,aw,a7,az,am,ao,aq,((Value.slice A b.length cap).ownBlock),o2,o3,o4,_,rfl,b3,hN,b4,⟨aE _ C2.i1 a0,aE _ C2.i2 a4,a5,ae⟩,⟨e8,e9,a8,a9,aa,ab,ac⟩,fun _=>rfl,Φ y,Φ y⟩
   | 4,ho,hf,I=>
    obtain rfl:=Option.some.inj ho;refine wpOp_step rfl (fun K' hK=>?_);go_simp;refine hK _ _ ?_;exact ⟨v7,v8,v9,a6,(.string s),af,ag,a3,av,aw,a7,az,am,ao,aq,o1,o2,o3,o4,_,rfl,hB,C1,C2,⟨a0,a4,a5,ae⟩,⟨e8,e9,fun _=>rfl,a9,aa,ab,ac⟩,fun _=>rfl,Φ y,Φ y⟩
   | 5,ho,hf,I=>
    obtain rfl:=Option.some.inj ho;simp [Region.binds] at I;have f4:=I;have g4:=a8 f4;subst g4;rw [hf] at C1;have aR:Below w1.heap.size w1 (w1.alloc (.cells #[.string s] 9)):=ζ;refine wpOp_step rfl (fun K' hK=>?_);go_simp;refine hK _ _ ?_;exact ⟨v7,v8,v9,a6,_,(.slice (some ⟨w1.heap.size,0,none⟩) 1 1),ag,a3,av,aw,a7,az,am,ao,aq,o1,(some w1.heap.size),o3,o4,_,rfl,hB.alloc a1 _,(C1.stepS a1),(C2.below aR),⟨a0,a4,(lU.new C2.i1).symm,(lU.new C2.i2).symm⟩,⟨e8,e9,a8,a9,aa,ab,ac⟩,fun _=>rfl,Φ y,Φ y⟩
   | 6,ho,hf,I=>
    obtain rfl:=Option.some.inj ho;simp [Region.binds] at I;obtain ⟨f3,f5,_⟩:=I;have aL:f 0=true:=C1.hr f3;rw [hf,f3,f5,aL] at C1;have hR:=C1.r_ rfl rfl;obtain ⟨l,rfl,hl,_⟩:=C1.s_ rfl rfl;refine wpOp_step rfl (fun K' hK=>?_);refine iJ rfl (.tmp 10) (.tmp 12) 44 rfl (w.heap.size+2) 9 i0 (.string ⟨#[]⟩) 1 16 Tryz.underlying44 hi bg bh bi rfl (by omega) a6 b.length L1 rfl hR.2.1 (some ⟨l,0,none⟩) 1 1 [.string s] rfl rfl (aP hl) (fun u hu=>by rw [ώ.1 hu]; rfl) (by omega) (by omega) a1 (fun A cap w2 U hg a2=>hK _ _ ?_);have aD:=hg.size;have b3:=iQ hB hR.2.1 ν a1 hg;have hN:ug (w.heap.size+2) 9 b.length L1 (.string s) (f 0) (f 3) (f 5) true v7 a6 (.slice (some ⟨l,0,none⟩) 1 1) (.slice A (b.length+1) cap) (Value.slice A (b.length+1) cap).ownBlock o2 w2:=by rw [aL,f3,f5]; exact C1.UL a1 U hg aD a2 (jJ U)
    have aE:∀ q,KR (w.heap.size+2) w1 q→lU o1 q→lU (Value.slice A (b.length+1) cap).ownBlock q:=fun q hq hd t J=>by
     rcases a2 with hl | hl
     ·rw [hl] at J; exact hd t (hR.2.2 t J)
     ·rw [hl] at J; simp at J; intro e'; have:=(hq t e').2; omega
    have b4:=C2.beside hg aD (fun t J=>a0 t (hR.2.2 t J)) (fun t J=>a4 t (hR.2.2 t J));exact ⟨v7,v8,v9,a6,ar,_,(.slice A (b.length+1) cap),a3,av,aw,a7,az,am,ao,aq,((Value.slice A (b.length+1) cap).ownBlock),o2,o3,o4,_,rfl,b3,hN,b4,⟨aE _ C2.i1 a0,aE _ C2.i2 a4,a5,ae⟩,⟨e8,e9,a8,a9,aa,ab,fun h=>absurd ((ac h).2.1.symm.trans hf) (by decide)⟩,fun _=>rfl,Φ y,Φ y⟩
   | 7,ho,hf,I=>
    obtain rfl:=Option.some.inj ho;rw [hf] at C2;have aR:Below w1.heap.size w1 (w1.alloc (.cells #[] 9)):=ζ;refine wpOp_step rfl (fun K' hK=>?_);go_simp;refine hK _ _ ?_;exact ⟨v7,v8,v9,a6,ar,af,ag,(.slice (some ⟨w1.heap.size,0,none⟩) 0 0),av,aw,a7,az,am,ao,aq,o1,o2,(some w1.heap.size),o4,_,rfl,hB.alloc a1 _,(C1.below aR),(C2.UK a1),⟨lU.new C1.i1,a4,lU.new C1.i2,ae⟩,⟨e8,e9,a8,a9,aa,ab,ac⟩,fun _=>rfl,Φ y,Φ y⟩
   | 8,ho,hf,I=>
    obtain rfl:=Option.some.inj ho;refine wpOp_step rfl (fun K' hK=>?_);go_simp;refine hK _ _ ?_;exact ⟨v7,v8,v9,a6,ar,af,ag,a3,(.pointer (some ⟨w.heap.size,1,none⟩)),aw,a7,az,am,ao,aq,o1,o2,o3,o4,_,rfl,hB,C1,C2,⟨a0,a4,a5,ae⟩,⟨e8,e9,a8,fun _=>rfl,aa,ab,ac⟩,fun _=>rfl,Φ y,Φ y⟩
   | 9,ho,hf,I=>
    obtain rfl:=Option.some.inj ho;simp [Region.binds] at I;have f8:=I;have g8:=a9 f8;subst g8;have hc:w1.cell? ⟨w.heap.size,1,none⟩=some (.slice A2 b.length p2):=(hB.cell (p:=⟨w.heap.size,1,none⟩) (by simp)).trans (by go_simp);refine wpOp_step rfl (fun K' hK=>?_);go_simp;refine hK _ _ ?_;exact ⟨v7,v8,v9,a6,ar,af,ag,a3,_,(.slice A2 b.length p2),a7,az,am,ao,aq,o1,o2,o3,o4,_,rfl,hB,C1,C2,⟨a0,a4,a5,ae⟩,⟨e8,e9,a8,a9,fun _=>rfl,ab,ac⟩,fun _=>rfl,Φ y,Φ y⟩
   | 10,ho,hf,I=>
    obtain rfl:=Option.some.inj ho;simp [Region.binds] at I;obtain ⟨f7,f9,f6⟩:=I;have g:=aa f9;subst g;rw [hf,f7] at C2;have hE:=C2.e_ rfl rfl;refine wpOp_step rfl (fun K' hK=>?_);refine iJ rfl (.tmp 14) (.tmp 16) 44 rfl (w.heap.size+2) 9 i0 (.string ⟨#[]⟩) 1 16 Tryz.underlying44 hi bg bh bi rfl (by omega) a3 0 [] rfl hE.2.1 A2 b.length p2 L2 rfl (by rw [bR,Nat.mul_one]) (bu w1 b9) bL (by omega) (by omega) a1 (fun A cap w2 U hg a2=>hK _ _ ?_);rw [Nat.zero_add] at U a2 ⊢;rw [List.nil_append] at U;have aD:=hg.size;have b3:=iQ hB hE.2.1 ν a1 hg;have hN:ug (w.heap.size+2) 9 b.length L2 (.string v) (f 7) true (f 12) (f 13) a3 (.slice A b.length cap) am ao (Value.slice A b.length cap).ownBlock o4 w2:=by rw [f7]; exact C2.fU a1 U hg aD a2 (jJ U)
    have aE:∀ q,KR (w.heap.size+2) w1 q→lU o3 q→lU (Value.slice A b.length cap).ownBlock q:=fun q hq hd t J=>by
     rcases a2 with hl | hl
     ·rw [hl] at J; exact hd t (hE.2.2 t J)
     ·rw [hl] at J; simp at J; intro e'; have:=(hq t e').2; omega
    have b4:=C1.beside hg aD (fun t J=>a0.symm t (hE.2.2 t J)) (fun t J=>a5.symm t (hE.2.2 t J));exact ⟨v7,v8,v9,a6,ar,af,ag,a3,av,_,(.slice A b.length cap),az,am,ao,aq,o1,o2,((Value.slice A b.length cap).ownBlock),o4,_,rfl,b3,b4,hN,⟨(aE _ C1.i1 a0.symm).symm,a4,(aE _ C1.i2 a5.symm).symm,ae⟩,⟨e8,e9,a8,a9,aa,ab,ac⟩,fun _=>rfl,Φ y,Φ y⟩
   | 11,ho,hf,I=>
    obtain rfl:=Option.some.inj ho;refine wpOp_step rfl (fun K' hK=>?_);go_simp;refine hK _ _ ?_;exact ⟨v7,v8,v9,a6,ar,af,ag,a3,av,aw,a7,(.string v),am,ao,aq,o1,o2,o3,o4,_,rfl,hB,C1,C2,⟨a0,a4,a5,ae⟩,⟨e8,e9,a8,a9,aa,fun _=>rfl,ac⟩,fun _=>rfl,Φ y,Φ y⟩
   | 12,ho,hf,I=>
    obtain rfl:=Option.some.inj ho;simp [Region.binds] at I;have bl:=I;have c4:=ab bl;subst c4;rw [hf] at C2;have aR:Below w1.heap.size w1 (w1.alloc (.cells #[.string v] 9)):=ζ;refine wpOp_step rfl (fun K' hK=>?_);go_simp;refine hK _ _ ?_;exact ⟨v7,v8,v9,a6,ar,af,ag,a3,av,aw,a7,_,(.slice (some ⟨w1.heap.size,0,none⟩) 1 1),ao,aq,o1,o2,o3,(some w1.heap.size),_,rfl,hB.alloc a1 _,(C1.below aR),(C2.stepS a1),⟨a0,lU.new C1.i1,a5,lU.new C1.i2⟩,⟨e8,e9,a8,a9,aa,ab,ac⟩,fun _=>rfl,Φ y,Φ y⟩
   | 13,ho,hf,I=>
    obtain rfl:=Option.some.inj ho;simp [Region.binds] at I;obtain ⟨bc,f12,_⟩:=I;have aL:f 7=true:=C2.hr bc;rw [hf,bc,f12,aL] at C2;have hR:=C2.r_ rfl rfl;obtain ⟨l,rfl,hl,_⟩:=C2.s_ rfl rfl;refine wpOp_step rfl (fun K' hK=>?_);refine iJ rfl (.tmp 17) (.tmp 19) 44 rfl (w.heap.size+2) 9 i0 (.string ⟨#[]⟩) 1 16 Tryz.underlying44 hi bg bh bi rfl (by omega) a7 b.length L2 rfl hR.2.1 (some ⟨l,0,none⟩) 1 1 [.string v] rfl rfl (aP hl) (fun u hu=>by rw [ώ.1 hu]; rfl) (by omega) (by omega) a1 (fun A cap w2 U hg a2=>hK _ _ ?_);have aD:=hg.size;have b3:=iQ hB hR.2.1 ν a1 hg;have hN:ug (w.heap.size+2) 9 b.length L2 (.string v) (f 7) (f 10) (f 12) true a3 a7 (.slice (some ⟨l,0,none⟩) 1 1) (.slice A (b.length+1) cap) (Value.slice A (b.length+1) cap).ownBlock o4 w2:=by rw [aL,bc,f12]; exact C2.UL a1 U hg aD a2 (jJ U)
    have aE:∀ q,KR (w.heap.size+2) w1 q→lU o3 q→lU (Value.slice A (b.length+1) cap).ownBlock q:=fun q hq hd t J=>by
     rcases a2 with hl | hl
     ·rw [hl] at J; exact hd t (hR.2.2 t J)
     ·rw [hl] at J; simp at J; intro e'; have:=(hq t e').2; omega
    have b4:=C1.beside hg aD (fun t J=>a0.symm t (hR.2.2 t J)) (fun t J=>a5.symm t (hR.2.2 t J));exact ⟨v7,v8,v9,a6,ar,af,ag,a3,av,aw,a7,az,_,(.slice A (b.length+1) cap),aq,o1,o2,((Value.slice A (b.length+1) cap).ownBlock),o4,_,rfl,b3,b4,hN,⟨(aE _ C1.i1 a0.symm).symm,a4,(aE _ C1.i2 a5.symm).symm,ae⟩,⟨e8,e9,a8,a9,aa,ab,fun h=>absurd ((ac h).2.2.symm.trans hf) (by decide)⟩,fun _=>rfl,Φ y,Φ y⟩
   | 14,ho,hf,I=>
    obtain rfl:=Option.some.inj ho;simp [Region.binds] at I;obtain ⟨f6,b5⟩:=I;obtain ⟨⟨A3,q3,rfl⟩,_⟩:=C1.f_ f6;obtain ⟨⟨A4,q4,rfl⟩,_⟩:=C2.f_ b5;refine wpOp_step rfl (fun K' hK=>?_);go_simp;refine hK _ _ ?_;exact ⟨v7,v8,v9,a6,ar,af,_,a3,av,aw,a7,az,am,_,_,o1,o2,o3,o4,_,rfl,hB,C1,C2,⟨a0,a4,a5,ae⟩,⟨e8,e9,a8,a9,aa,ab,fun _=>⟨rfl,f6,b5⟩⟩,fun _=>rfl,Φ y,Φ y⟩
   | k+15,ho,hf,I=>
    rw [Array.getElem?_eq_none (by simp; omega)] at ho;cases ho
  case pos=>
   subst bX;obtain rfl:=Option.some.inj ho;simp [Region.binds] at I;obtain ⟨bv,b5,f0,f1,f2,f3,f4,f5,f6,f7,f8,f9,bc,bl,f12,_⟩:=I;have g:=(ac bv).1;subst g;obtain rfl:=bj hf;have b6:w1.heap[w.heap.size+1]? = some (.cells #[.slice none 0 0,.slice none 0 0] 234 (0,0)):=(hB.block _ (show w.heap.size+1 < w.heap.size+2 by omega)).trans hx.2;have bw:∀ k,w1.frozen? ⟨w.heap.size+1,k,none⟩=false:=fun k=>by simp [World.frozen?,b6]
   have c8:w1.cell? ⟨w.heap.size+1,0,none⟩=some (.slice none 0 0):=by simp [World.cell?,b6]
   have c9:w1.cell? ⟨w.heap.size+1,1,none⟩=some (.slice none 0 0):=by simp [World.cell?,b6]
   have cd:=bw 0;have ce:=bw 1;obtain ⟨⟨A3,q3,rfl⟩,_⟩:=C1.f_ f6;obtain ⟨⟨A4,q4,rfl⟩,_⟩:=C2.f_ b5;refine wpOp_step rfl (fun K' hK=>?_);go_simp;refine hK _ _ ?_;refine ⟨_,_,_,_,_,_,_,_,_,_,_,_,_,_,_,o1,o2,o3,o4,w1,rfl,hB,C1,C2,⟨a0,a4,a5,ae⟩,⟨fun _=>rfl,fun _=>rfl,fun _=>rfl,fun _=>rfl,fun _=>rfl,fun _=>rfl,fun _=>⟨rfl,f6,b5⟩⟩,(fun h=>by cases h),fun _=>rfl,fun _ i hi=>?_⟩
   match i,hi with
   | 0,_=>exact f0
   | 1,_=>exact f1
   | 2,_=>exact f2
   | 3,_=>exact f3
   | 4,_=>exact f4
   | 5,_=>exact f5
   | 6,_=>exact f6
   | 7,_=>exact f7
   | 8,_=>exact f8
   | 9,_=>exact f9
   | 10,_=>exact bc
   | 11,_=>exact bl
   | 12,_=>exact f12
   | 13,_=>exact b5
   | 14,_=>exact bv
   | q+15,h=>omega
 ·intro f a w' hf hJ
  obtain ⟨v7,v8,v9,a6,ar,af,ag,a3,av,aw,a7,az,am,ao,aq,o1,o2,o3,o4,w1,rfl,hB,C1,C2,⟨a0,a4,a5,ae⟩,⟨e8,e9,a8,a9,aa,ab,ac⟩,bj,b7,b8⟩:=hJ;obtain rfl:=b7 (hf 15 (by simp));obtain ⟨⟨A3,q3,rfl⟩,bn,_⟩:=C1.f_ (hf 6 (by simp));obtain ⟨⟨A4,q4,rfl⟩,bo,_⟩:=C2.f_ (hf 13 (by simp));have b6:w1.heap[w.heap.size+1]? = some (.cells #[.slice none 0 0,.slice none 0 0] 234 (0,0)):=(hB.block _ (show w.heap.size+1 < w.heap.size+2 by omega)).trans hx.2;have bf:=bY (o:=1) (u:=.slice A4 (b.length+1) q4) (bY (o:=0) (u:=.slice A3 (b.length+1) q3) b6);have c5:((w1.setCell ⟨w.heap.size+1,0,none⟩ (.slice A3 (b.length+1) q3)).setCell ⟨w.heap.size+1,1,none⟩ (.slice A4 (b.length+1) q4)).cell? ⟨w.heap.size+1,0,none⟩=some (.slice A3 (b.length+1) q3):=by simp [World.cell?,bf]
  have c6:((w1.setCell ⟨w.heap.size+1,0,none⟩ (.slice A3 (b.length+1) q3)).setCell ⟨w.heap.size+1,1,none⟩ (.slice A4 (b.length+1) q4)).cell? ⟨w.heap.size+1,1,none⟩=some (.slice A4 (b.length+1) q4):=by simp [World.cell?,bf]
  have b9:Below w.heap.size w w1:=hA.trans (hB.mono (by simp));have c7:=η ((b9.setCell (p:=⟨w.heap.size+1,0,none⟩) (by simp) (.slice A3 (b.length+1) q3)).setCell (p:=⟨w.heap.size+1,1,none⟩) (by simp) (.slice A4 (b.length+1) q4))
  have bx:=uy (w':=(w1.setCell ⟨w.heap.size+1,0,none⟩ (.slice A3 (b.length+1) q3)).setCell ⟨w.heap.size+1,1,none⟩ (.slice A4 (b.length+1) q4)) bn fun t J=>by
   have:=(jJ bn t J).1;rw [π _ _ _ _ (by show t ≠ w.heap.size+1; omega),π _ _ _ _ (by show t ≠ w.heap.size+1; omega)]
  have bz:=uy (w':=(w1.setCell ⟨w.heap.size+1,0,none⟩ (.slice A3 (b.length+1) q3)).setCell ⟨w.heap.size+1,1,none⟩ (.slice A4 (b.length+1) q4)) bo fun t J=>by
   have:=(jJ bo t J).1;rw [π _ _ _ _ (by show t ≠ w.heap.size+1; omega),π _ _ _ _ (by show t ≠ w.heap.size+1; omega)]
  have bk:Hid (∃ bs',jE ((w1.setCell ⟨w.heap.size+1,0,none⟩ (.slice A3 (b.length+1) q3)).setCell ⟨w.heap.size+1,1,none⟩ (.slice A4 (b.length+1) q4)) [.slice A3 (b.length+1) q3,.slice A4 (b.length+1) q4] (b ++ [(s,v)]) bs'∧∀ c ∈ bs',w.heap.size≤c):=η (by
   obtain ⟨g1,k1,r1⟩:=CJ (ys:=(b ++ [(s,v)]).map (·.1)) (by rw [List.map_append,χ,aM,List.map_append,hK1]; exact bx) (fun t J=>by
    rw [List.map_append] at J
    rcases μ.1 J with J | J
    ·exact bq t J
    ·rw [ώ.1 J]; exact hs)
   obtain ⟨g2,k2,r2⟩:=CJ (ys:=(b ++ [(s,v)]).map (·.2)) (by rw [List.map_append,χ,hlen2,List.map_append,hK2]; exact bz) (fun t J=>by
    rw [List.map_append] at J
    rcases μ.1 J with J | J
    ·exact br t J
    ·rw [ώ.1 J]; exact hv)
   exact ⟨_,⟨_,_,g1,g2,rfl,rfl,k1,k2⟩,fun c hc=>(μ.1 hc).elim (fun hc=>τ (Nat.le_add_right _ _) (r1 c hc)) (fun hc=>τ (Nat.le_add_right _ _) (r2 c hc))⟩)
  clear C1 C2 a0 a4 a5 ae e8 e9 a8 a9 aa ab ac bj b7 b8 bn bo bx bz hB b9 b6 bf hA hx bt bu bq br;go_wp2;exact bodyPost_ret (v:=.agg #[.slice A3 (b.length+1) q3,.slice A4 (b.length+1) q4]) (by simp [results,Tryz.results263,go_sem,c5,c6]) rfl ⟨c7.out,_,_,_,rfl,bk.out.choose_spec⟩
theorem yE (xs:List A) (a:A) (v d0 d1:Value) (bs b2:List Nat) (w:World) (h:aC w [v] xs bs) (h2:aJ w [d0,d1] a b2) (hs:gm xs=true):
  Calls Tryz.prog 98 #[v,.agg #[d0,d1]] w fun e w'=>e=.returned (.tuple #[.int .i64 (pl xs a),.bool (hasB xs a)])∧Below w.heap.size w w':=by
 obtain ⟨Ad,cap,rfl,hl,hm⟩:=aj h;obtain ⟨Aa,ca,rfl,rfl⟩:=bG h2;have a8:=ay (τ hl hm);clear hm;have a1:Below w.heap.size w (w.alloc (.cells #[.string a.name,.slice Aa a.args.length ca] 33)):=ζ
 go_enter Tryz.func98,Tryz.ntmps98
 go_wp2
 go_loopw [6] (fun i wr=>∃ k:Nat,k≤xs.length∧i=.int .i64 k∧OA xs a k∧Below w.heap.size w wr∧wr.cell? ⟨w.heap.size,0,none⟩=some (.string a.name)∧wr.cell? ⟨w.heap.size,1,none⟩=some (.slice Aa a.args.length ca)∧w.heap.size < wr.heap.size) (fun i _=>xs.length - (intOf i).toNat)
 case atStart=>exact ⟨0,ε,rfl,QZ _ _,a1,by go_simp,by go_simp,by simp⟩
 case round=>
  obtain ⟨k,hk,rfl,a0,hb,s0,s1,a5⟩:=hrel;have HA:=η a0;clear a0 a1;by_cases U:k < xs.length
  ·have a9:(0:Int)≤(k:Int):=by omega
   have a6:(k:Int) < (xs.length:Int):=by omega
   obtain ⟨b,o,Ae,ce,bk,rfl,_,c0,c1,a2,_⟩:=dL (au.below h hb) U;have hD:Below wr.heap.size wr wr.drew:=Below.drew ϑ;have I:=fun w' (a3:Below wr.heap.size wr w')=>Hf xs[k] a _ _ _ _ bk b2 w' (ak.below a2 a3) (ak.below h2 (hb.trans (a3.mono hb.size)))
   clear h h2 a2;by_cases hc:bV xs[k] a < 0
   ·have HC:=η (Q7 HA.out U hc)
    go_wp2
    go_region_held3 (fun w'=>w'.cell? ⟨b,o+k * 2,none⟩=some (.string xs[k].name)∧w'.cell? ⟨b,o+k * 2+1,none⟩=some (.slice Ae xs[k].args.length ce)∧w'.cell? ⟨w.heap.size,0,none⟩=some (.string a.name)∧w'.cell? ⟨w.heap.size,1,none⟩=some (.slice Aa a.args.length ca))
     (first | go_keep | exact ⟨y0,y1,y2,y3⟩)
     (first | (go_at_call 157; refine (I _ hD).mono ?_; rintro e w2 ⟨rfl,y⟩; have y0:=ξ y c0; have y1:=ξ y c1; have y2:=ξ y s0; have y3:=ξ y s1))
    have B2:=hb.trans ((hD.trans y).mono hb.size);clear I;go_wp2;go_roundw
    case rel=>exact ⟨k+1,by omega,by go_num,HC.out,B2,y2,y3,κ a5 (hD.trans y).size⟩
    case measure=>simp [intOf]; omega
   ·have HP:=η (KA hs hk HA.out (fun _=>hc))
    have HH:=η (Ye hs U HA.out hc);go_wp2
    go_region_held3 (fun w'=>w'.cell? ⟨b,o+k * 2,none⟩=some (.string xs[k].name)∧w'.cell? ⟨b,o+k * 2+1,none⟩=some (.slice Ae xs[k].args.length ce)∧w'.cell? ⟨w.heap.size,0,none⟩=some (.string a.name)∧w'.cell? ⟨w.heap.size,1,none⟩=some (.slice Aa a.args.length ca))
     (first | go_keep | exact ⟨y0,y1,y2,y3⟩)
     (first | (go_at_call 157; refine (I _ hD).mono ?_; rintro e w2 ⟨rfl,y⟩; have y0:=ξ y c0; have y1:=ξ y c1; have y2:=ξ y s0; have y3:=ξ y s1))
    have B2:=hb.trans ((hD.trans y).mono hb.size);have hE:=hD.trans y;have a4:=I _ (hE.trans (ϑ.drew.mono hE.size));have a7:Below w2.heap.size w2 w2.drew:=Below.drew ϑ;clear I;go_wp2
    go_region_held3 (fun w'=>w'.cell? ⟨b,o+k * 2,none⟩=some (.string xs[k].name)∧w'.cell? ⟨b,o+k * 2+1,none⟩=some (.slice Ae xs[k].args.length ce)∧w'.cell? ⟨w.heap.size,0,none⟩=some (.string a.name)∧w'.cell? ⟨w.heap.size,1,none⟩=some (.slice Aa a.args.length ca))
     (first | go_keep | exact ⟨z0,z1,z2,z3⟩)
     (first | (go_at_call 157; refine (a4).mono ?_; rintro e w3 ⟨rfl,J⟩; have z0:=ξ J y0; have z1:=ξ J y1; have z2:=ξ J y2; have z3:=ξ J y3))
    have B3:=B2.trans ((a7.trans J).mono B2.size);go_wp2;go_ret2;exact ⟨by rw [← HP.out,HH.out]; rfl,B3⟩
  ·have he:=η (show k=xs.length by omega)
   have a6:decide ((k:Int) < (xs.length:Int))=false:=decide_eq_false (by omega);go_wp2
   go_quiet (fail)
   go_wp2
   go_quiet (fail)
   go_wp2;go_ret2;have hA:=HA.out;refine ⟨?_,below_drewN (below_drewN hb _) _⟩;rw [← KA hs hk hA (fun h=>absurd h U),Xe (by rw [← he.out]; exact hA)];rfl
theorem D.Xm {a k n c o:Nat} (e:(Value.slice (some ⟨a+1+1,o,none⟩) n c).ownBlock=some k):a≤k:=by
 have:a+1+1=k:=by simpa [Value.ownBlock] using e
 omega
theorem Ez (a:A) (c0 c1:Value) (bs:List Nat) (w:World) (h:aJ w [c0,c1] a bs) (hn:a.args.length≤16777216):
  Calls Tryz.prog 170 #[.agg #[c0,c1]] w (Uu aJ a w.heap.size w):=by
 have ht:=dM h;have a8:a.name.size≤maxLen:=by obtain ⟨_,_,hn,_⟩:=h; exact hn
 obtain ⟨I,cap,rfl,rfl⟩:=bG h;obtain ⟨i0,hi,a9,aa,ab⟩:=info_parts G8;obtain ⟨L,b2,J,_,U⟩:=rH lF (by omega) ht;have HL:=η (fun w' (hb:Below w.heap.size w w')=>KH J (by omega) U (aQ.lt ht) hb);have HR:=η J;clear h ht J U;have hA:=((Below.refl w.heap.size w).alloc ν (.cells #[.string a.name,.slice I a.args.length cap] 33)).alloc (by simp) (.cells #[.string ⟨#[]⟩,.slice none 0 0] 33)
 have HE:Hid ((((w.alloc (.cells #[.string a.name,.slice I a.args.length cap] 33)).alloc (.cells #[.string ⟨#[]⟩,.slice none 0 0] 33)).alloc (.cells #[] 91)).heap[w.heap.size+1+1]? = some (.cells #[] 91 (0,0))):=η (by
  have:=ω ((w.alloc (.cells #[.string a.name,.slice I a.args.length cap] 33)).alloc (.cells #[.string ⟨#[]⟩,.slice none 0 0] 33)) (.cells #[] 91)
  simpa using this)
 have HO:Hid ((((w.alloc (.cells #[.string a.name,.slice I a.args.length cap] 33)).alloc (.cells #[.string ⟨#[]⟩,.slice none 0 0] 33)).alloc (.cells #[] 91)).ownsRow (w.heap.size+2) 91 2 (.slice (some ⟨w.heap.size+1+1,0,none⟩) 0 0) 0 []):=η (zJ HE.out (by omega));have HI:Hid (Lies (((w.alloc (.cells #[.string a.name,.slice I a.args.length cap] 33)).alloc (.cells #[.string ⟨#[]⟩,.slice none 0 0] 33)).alloc (.cells #[] 91)) I L):=η (HL.out _ (hA.alloc (by simp <;> omega) _));have hlen:=HR.out.len;have a0:=HR.out.one;have a2:0+a.args.length≤maxLen:=by unfold maxLen; omega
 have a3:(0+a.args.length) * 24≤140737488355328:=by omega
 have a4:w.heap.size+2≤(((w.alloc (.cells #[.string a.name,.slice I a.args.length cap] 33)).alloc (.cells #[.string ⟨#[]⟩,.slice none 0 0] 33)).alloc (.cells #[] 91)).heap.size:=by simp
 have H1:=η hlen;have H2:=η a0;have H3:=η a2;have H4:=η a3;have H5:=η a4;have X0:Hid ((((w.alloc (.cells #[.string a.name,.slice I a.args.length cap] 33)).alloc (.cells #[.string ⟨#[]⟩,.slice none 0 0] 33)).alloc (.cells #[] 91)).cell? ⟨w.heap.size,0,none⟩=some (.string a.name)):=η (by go_simp);have X1:Hid ((((w.alloc (.cells #[.string a.name,.slice I a.args.length cap] 33)).alloc (.cells #[.string ⟨#[]⟩,.slice none 0 0] 33)).alloc (.cells #[] 91)).cell? ⟨w.heap.size,1,none⟩=some (.slice I a.args.length cap)):=η (by go_simp);have X2:Hid ((((w.alloc (.cells #[.string a.name,.slice I a.args.length cap] 33)).alloc (.cells #[.string ⟨#[]⟩,.slice none 0 0] 33)).alloc (.cells #[] 91)).cell? ⟨w.heap.size+1,0,none⟩=some (.string ⟨#[]⟩)):=η (by go_simp);have X3:Hid ((((w.alloc (.cells #[.string a.name,.slice I a.args.length cap] 33)).alloc (.cells #[.string ⟨#[]⟩,.slice none 0 0] 33)).alloc (.cells #[] 91)).cell? ⟨w.heap.size+1,1,none⟩=some (.slice none 0 0)):=η (by go_simp)
 have F0:Hid ((((w.alloc (.cells #[.string a.name,.slice I a.args.length cap] 33)).alloc (.cells #[.string ⟨#[]⟩,.slice none 0 0] 33)).alloc (.cells #[] 91)).frozen? ⟨w.heap.size+1,0,none⟩=false):=η (by go_simp);have F1:Hid ((((w.alloc (.cells #[.string a.name,.slice I a.args.length cap] 33)).alloc (.cells #[.string ⟨#[]⟩,.slice none 0 0] 33)).alloc (.cells #[] 91)).frozen? ⟨w.heap.size+1,1,none⟩=false):=η (by go_simp);clear hlen a0 a2 a3 a4 HE HL
 go_enter Tryz.func170,Tryz.ntmps170
 go_wp2
 go_region_held3 (fun w'=>w'.cell? ⟨w.heap.size,0,none⟩=some (.string a.name)∧w'.cell? ⟨w.heap.size,1,none⟩=some (.slice I a.args.length cap))
  (first | go_keep | exact ⟨q0,q1⟩)
  ((refine iJ (by rfl) _ _ _ (by rfl) (w.heap.size+2) 91 i0 (.agg #[.bool false,.string ⟨#[]⟩]) 2 24 Tryz.underlying31 hi a9 aa ab rfl (by omega) (.slice (some ⟨w.heap.size+1+1,0,none⟩) 0 0) 0 [] (by rfl) HO.out I a.args.length cap L (by rfl) H1.out HI.out H2.out H3.out H4.out H5.out ?_; intro A1 cp w1 a1 y a5; clear a5; simp only [Nat.zero_add,List.nil_append] at a1 ⊢; have q0:=y.cell X0.out (own_ne (a:=w.heap.size) (b:=w.heap.size+1+1) (by omega)); have q1:=y.cell X1.out (own_ne (a:=w.heap.size) (b:=w.heap.size+1+1) (by omega)); have q2:=y.cell X2.out (own_ne (a:=w.heap.size+1) (b:=w.heap.size+1+1) (by omega)); have q3:=y.cell X3.out (own_ne (a:=w.heap.size+1) (b:=w.heap.size+1+1) (by omega)); have g0:=(y.frozen_far _ (lt_of_cell X2.out) (own_ne (a:=w.heap.size+1) (b:=w.heap.size+1+1) (by omega))).trans F0.out; have g1:=(y.frozen_far _ (lt_of_cell X3.out) (own_ne (a:=w.heap.size+1) (b:=w.heap.size+1+1) (by omega))).trans F1.out))
 obtain ⟨b3,ac,a6⟩:=G9 HR.out a1;have a7:∀ c ∈ b3,c ≠ w.heap.size+1:=fun c hc e=>by have:=(a6.own c hc).1; omega
 have B2:Below w.heap.size w w1:=(hA.alloc (by simp <;> omega) _).drew.grown y (by simp <;> omega) (fun k e=>Xm e);go_wp2;refine bodyPost_ret (v:=.agg #[.string a.name,.slice A1 a.args.length cp]) (by simp [results,Tryz.results170,go_sem,q2,q3]) rfl ⟨(B2.setCell (by simp) _).setCell (by simp) _,_,b3,rfl,⟨_,rfl,a8,aQ.keep ac fun c hc=>?_⟩,(a6.mono (by omega)).keep fun c hc=>?_⟩
 all_goals rw [π _ _ _ _ (a7 c hc),π _ _ _ _ (a7 c hc)]
end Go.Proofs.YtkjinanbccloeaaGreatDoor
