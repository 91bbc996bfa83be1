/- Of the proof of FnExactProofOk: EqP, GetB, WithS, At. -/
import Derived.Test.YtlmngncogomgeaaGreatDoorM03
import Derived.Test.YtlmngncogomgeaaGreatDoorM05
import Derived.Test.YtlmngncogomgeaaGreatDoorM04
set_option linter.unusedVariables false
set_option maxHeartbeats 4000000
set_option maxRecDepth 100000
namespace Go.Proofs.YtlmngncogomgeaaGreatDoor
open Go.RowKit D
attribute [local go_sem ↓] Go.wp_at_zero Go.wp_at_succ
theorem Ij (p:Pt) (c0 c1 c2 d0 d1 d2:Value) (b1 b2:List Nat) (w:World) (h1:nC w [c0,c1,c2] p b1) (I:nC w [d0,d1,d2] p b2):
  Calls Tryz.prog 151 #[.agg #[c0,c1,c2],.agg #[d0,d1,d2]] w (Yes w.heap.size w):=by
 have a1:=eX h1;have a2:=eX I;obtain ⟨Ad,cap,rfl,rfl,rfl⟩:=nD h1;obtain ⟨Ae,y,rfl,rfl,rfl⟩:=nD I;have hq:=fun w' (hb:Below w.heap.size w w')=>nI p.atom _ _ _ _ b1 b2 w' (ak.below a1 hb) (ak.below a2 hb)
 clear h1 I a1 a2;have J:=((Below.refl w.heap.size w).alloc ν (.cells #[.bool p.no,.string p.atom.name,.slice Ad p.atom.args.length cap] 209)).alloc (by simp) (.cells #[.bool p.no,.string p.atom.name,.slice Ae p.atom.args.length y] 209)
 go_enter Tryz.func151,Tryz.ntmps151
 go_wp2_with fail
 refine (hq _ J).mono ?_;rintro e w' ⟨rfl,U⟩;go_wp2;go_ret;exact ⟨rfl,J.trans (U.mono J.size)⟩
theorem FI (I:List Pt) (v1 v2:Value) (b1 b2:List Nat) (w:World) (h1:gJ w [v1] I b1) (h2:gJ w [v2] I b2):
  Calls Tryz.prog 88 #[v1,v2] w (Yes w.heap.size w):=by
 obtain ⟨Ad,cap,rfl,hl,hm⟩:=ai h1;obtain ⟨a7,cap2,rfl,a8,a2⟩:=ai h2;have a9:=ay (τ hl hm);clear hm a2
 go_enter Tryz.func88,Tryz.ntmps88
 go_wp2
 go_loopw [5] (fun i wr=>∃ k:Nat,k≤I.length∧i=.int .i64 k∧Below w.heap.size w wr) (fun i _=>I.length - (intOf i).toNat)
 case atStart=>exact ⟨0,ε,rfl,ϑ⟩
 case round=>
  obtain ⟨k,hk,rfl,U⟩:=hrel;by_cases a0:k < I.length
  ·obtain ⟨b,o,Ae,ce,bk,rfl,_,c0,c1,c2,a1,_⟩:=eU (aU.below h1 U) a0
   obtain ⟨b',o',a3,a4,a5,rfl,_,d0,d1,d2,J,_⟩:=eU (aU.below h2 U) a0;clear h1 h2;have H1:=η (pJ.below a1 (Below.drew ϑ));have H2:=η (pJ.below J (Below.drew ϑ));have a6:(k:Int) < (I.length:Int):=by omega
   have aa:(0:Int)≤(k:Int):=by omega
   clear a1 J;go_wp2
   go_region_held3 (fun w'=>w'.cell? ⟨b,o+k * 3,none⟩=some (.bool I[k].no)∧w'.cell? ⟨b,o+k * 3+1,none⟩=some (.string I[k].atom.name)∧w'.cell? ⟨b,o+k * 3+2,none⟩=some (.slice Ae I[k].atom.args.length ce)∧w'.cell? ⟨b',o'+k * 3,none⟩=some (.bool I[k].no)∧w'.cell? ⟨b',o'+k * 3+1,none⟩=some (.string I[k].atom.name)∧w'.cell? ⟨b',o'+k * 3+2,none⟩=some (.slice a3 I[k].atom.args.length a4)) (first | go_keep | exact ⟨ξ y c0,ξ y c1,ξ y c2,ξ y d0,ξ y d1,ξ y d2⟩)
    (first | (go_at_call 151; refine (Ij I[k] _ _ _ _ _ _ bk a5 _ H1.out H2.out).mono ?_; rintro e w' ⟨rfl,y⟩))
   go_wp2;go_roundw
   case rel=>exact ⟨k+1,by omega,by go_num,U.trans ((Below.drew ϑ).trans (y.mono U.size))⟩
   case measure=>simp [intOf]; omega
  ·have he:k=I.length:=by omega
   subst he;go_wp2;go_ret;exact ⟨rfl,U⟩
theorem D.Oo {b:Bd} {n:ByteArray} {k:Nat} (h:k < b.length):eY (b.drop k) n=if b[k].1=n then some b[k].2 else eY (b.drop (k+1)) n:=by
 rw [List.drop_eq_getElem_cons h,eY]
theorem D.toList_eq {a b:ByteArray}:(a.toList == b.toList)=decide (a=b):=by
 rw [ByteArray.toList_eq,ByteArray.toList_eq,Bool.eq_iff_iff];simp only [beq_iff_eq,decide_eq_true_eq];exact ⟨fun h=>ByteArray.ext (Array.toList_inj.1 h),fun h=>by rw [h]⟩
theorem get_any (b:Bd) (s:ByteArray) (c0 c1:Value) (bs:List Nat) (w:World) (h:iC w [c0,c1] b bs):
  Calls Tryz.prog 181 #[.agg #[c0,c1],.string s] w fun e w'=>e=.returned (.tuple #[.string (iR b s),.bool (eY b s).isSome])∧Below w.heap.size w w':=by
 obtain ⟨x0,x1,b1,b2,a0,rfl,h1,h2⟩:=h;simp only [List.cons.injEq,and_true] at a0;obtain ⟨rfl,rfl⟩:=a0;obtain ⟨A1,p1,rfl,a1,a2⟩:=ai h1;obtain ⟨A2,p2,rfl,a4,a5⟩:=ai h2;have J:(b.map (·.1)).length=b.length:=List.length_map ..;have hlen2:(b.map (·.2)).length=b.length:=List.length_map ..;rw [J] at a1 h1 ⊢;rw [hlen2] at a4 h2 ⊢;have hmx:=ay (τ a1 a2);clear a2 a5
 go_enter Tryz.func181,Tryz.ntmps181
 go_wp2
 go_loopw [6] (fun i wr=>∃ k:Nat,k≤b.length∧i=.int .i64 k∧eY b s=eY (b.drop k) s∧Below w.heap.size w wr∧wr.cell? ⟨w.heap.size,0,none⟩=some (.slice A1 b.length p1)∧wr.cell? ⟨w.heap.size,1,none⟩=some (.slice A2 b.length p2)) (fun i _=>b.length - (intOf i).toNat)
 case atStart=>exact ⟨0,ε,rfl,rfl,ζ,by go_simp,by go_simp⟩
 case round=>
  obtain ⟨k,hk,rfl,hg,hb,y0,y1⟩:=hrel;by_cases I:k < b.length
  ·obtain ⟨d1,o1,rfl,_,e1,_⟩:=pK (bV.below h1 hb) (k:=k) (by simpa using I)
   obtain ⟨d2,o2,rfl,_,e2,_⟩:=pK (bV.below h2 hb) (k:=k) (by simpa using I);rw [List.getElem_map] at e1 e2;have HG:=η (hg.trans (Oo I));have a3:(k:Int) < (b.length:Int):=by omega
   have a6:(0:Int)≤(k:Int):=by omega
   clear h1 h2 hg;generalize b[k].1=x at *;generalize b[k].2=y at *;cases hs:(x.toList == s.toList)
   ·have U:=η (show eY b s=eY (b.drop (k+1)) s by
     rw [HG.out,if_neg];rw [toList_eq] at hs
     exact of_decide_eq_false hs)
    clear HG;go_wp2;go_roundw
    case rel=>exact ⟨k+1,I,by go_num,U.out,hb,y0,y1⟩
    case measure=>simp [intOf]; omega
   ·have U:=η (show eY b s=some y by
     rw [HG.out,if_pos];rw [toList_eq] at hs
     exact of_decide_eq_true hs)
    have HV:Hid (iR b s=y):=η (by unfold iR; rw [U.out]; rfl);clear HG;go_wp2;go_ret2;exact ⟨by rw [HV.out,U.out]; rfl,hb⟩
  ·have he:k=b.length:=by omega
   have a3:¬ (k:Int) < (b.length:Int):=by omega
   have U:=η (show eY b s=none by rw [hg,he,List.drop_eq_nil_of_le ν]; rfl);have HV:Hid (iR b s=⟨#[]⟩):=η (by unfold iR; rw [U.out]; rfl);clear hg h1 h2;go_wp2;go_ret2;exact ⟨by rw [HV.out,U.out]; rfl,hb⟩
theorem QL:(Tryz.prog.info? 9).map (fun i=>(i.zero,i.size,i.bytes))=some (some (.string ⟨#[]⟩),1,16):=by kernel_rfl
theorem D.Ee {w:World} {J:Option Addr} {n cap:Nat} {xs:List ByteArray} {U:List Nat} (h:jA w [.slice J n cap] xs U) {w':World} (hb:Below w.heap.size w w'):Lies w' J (xs.map Value.string):=by
 intro j u hj;obtain ⟨I,rfl⟩:=List.getElem?_eq_some_iff.1 hj;have y:j < xs.length:=by simpa using I
 obtain ⟨b,o,rfl,_,hc,_⟩:=pK (bV.below h hb) y;exact ⟨_,rfl,by rw [addr_add]; simpa using hc⟩
theorem D.vw {w:World} {v:Value} {xs:List ByteArray} {y:List Nat} (h:jA w [v] xs y):∀ s ∈ xs,s.size≤maxLen:=by
 intro s I;obtain ⟨j,J,rfl⟩:=List.getElem_of_mem I;obtain ⟨Ad,cap,rfl,_⟩:=ai h;obtain ⟨_,_,_,_,_,_,_,_,U,_⟩:=gW h J;exact U.2.1
theorem D.zy {base e:Nat} {w:World} {v:Value} {ys:List ByteArray} (h:w.ownsRow base e 1 v ys.length (ys.map Value.string)) (I:∀ s ∈ ys,s.size≤maxLen):∃ b2,jA w [v] ys b2∧∀ b ∈ b2,base≤b:=by
 have hr:aV 1 jy w (ys.map Value.string) ys []:=by
  refine ⟨by simp,fun u J=>?_,fun _=>[],by simp,fun j y=>⟨?_,I _ (δ y),rfl⟩⟩
  ·obtain ⟨s,_,rfl⟩:=List.mem_map.1 J
   rfl
  ·rw [Nat.mul_one]
   refine List.ext_getElem? fun i=>?_
   rcases i with _ | i
   ·simp [List.getElem?_drop,y]
   ·simp; omega
 obtain ⟨b2,U,h3⟩:=hr.slice h;exact ⟨b2,U,fun b hb=>(h3 b hb).elim id fun h=>by cases h⟩
def D.WJ (W:World) (n:Nat) (L1 L2:List Value) (c0 c1:Value) (s v:ByteArray) (f:Nat→Bool) (a:Act) (w:World):Prop:=
 ∃ (v7 v8 v9 J U a0 y a1 a2 a3 a4 a5 a6 I a7:Value) (o1 o2 o3 o4:Option Nat) (w1:World),a=⟨#[.agg #[c0,c1],.string s,.string v,.pointer (some ⟨W.heap.size,0,none⟩),undef,undef,.pointer (some ⟨W.heap.size+1,0,none⟩),v7,v8,v9,J,U,a0,y,a1,a2,a3,a4,a5,a6,I,a7],[]⟩∧
  Below (W.heap.size+2) ((W.alloc (.cells #[c0,c1] 198)).alloc (.cells #[.slice none 0 0,.slice none 0 0] 198)) w1∧
  qL (W.heap.size+2) 9 n L1 (.string s) (f 0) (f 3) (f 5) (f 6) v7 J a0 y o1 o2 w1∧qL (W.heap.size+2) 9 n L2 (.string v) (f 7) (f 10) (f 12) (f 13) a1 a4 a6 I o3 o4 w1∧
  (kC o1 o3∧kC o1 o4∧kC o2 o3∧kC o2 o4)∧
  ((f 1=true→v8=.pointer (some ⟨W.heap.size,0,none⟩))∧(f 2=true→v9=c0)∧(f 4=true→U=.string s)∧(f 8=true→a2=.pointer (some ⟨W.heap.size,1,none⟩))∧(f 9=true→a3=c1)∧(f 11=true→a5=.string v)∧(f 14=true→a7=.agg #[y,I]∧f 6=true∧f 13=true))∧
  (f 15=false→w=w1)∧(f 15=true→w=(w1.setCell ⟨W.heap.size+1,0,none⟩ y).setCell ⟨W.heap.size+1,1,none⟩ I)∧(f 15=true→∀ i,i < 15→f i=true)
theorem QM (b:Bd) (s v:ByteArray) (c0 c1:Value) (bs:List Nat) (w:World) (h:iC w [c0,c1] b bs) (hn:b.length≤16777216) (hs:s.size≤maxLen) (hv:v.size≤maxLen):
  Calls Tryz.prog 182 #[.agg #[c0,c1],.string s,.string v] w fun e w'=>Below w.heap.size w w'∧∃ d0 d1 bs',e=.returned (.agg #[d0,d1])∧iC w' [d0,d1] (b ++ [(s,v)]) bs'∧∀ c ∈ bs',w.heap.size≤c:=by
 obtain ⟨x0,x1,b1,b2,bo,rfl,h1,h2⟩:=h;simp only [List.cons.injEq,and_true] at bo;obtain ⟨rfl,rfl⟩:=bo;obtain ⟨A1,p1,rfl,bz,c9⟩:=ai h1;obtain ⟨A2,p2,rfl,bA,ca⟩:=ai h2;have bp:=vw h1;have bq:=vw h2;have hA:Below w.heap.size w ((w.alloc (.cells #[.slice A1 (b.map (·.1)).length p1,.slice A2 (b.map (·.2)).length p2] 198)).alloc (.cells #[.slice none 0 0,.slice none 0 0] 198)):=(ζ).alloc (by simp) _;have hx:=Qo w (.cells #[.slice A1 (b.map (·.1)).length p1,.slice A2 (b.map (·.2)).length p2] 198) (.cells #[.slice none 0 0,.slice none 0 0] 198);have br:=fun w' (hb:Below w.heap.size w w')=>Ee h1 hb
 have bt:=fun w' (hb:Below w.heap.size w w')=>Ee h2 hb
 have bB:∀ u ∈ (b.map (·.1)).map Value.string,Value.oneCell' u=true:=fun u hu=>by obtain ⟨t,_,rfl⟩:=List.mem_map.1 hu; rfl
 have bE:∀ u ∈ (b.map (·.2)).map Value.string,Value.oneCell' u=true:=fun u hu=>by obtain ⟨t,_,rfl⟩:=List.mem_map.1 hu; rfl
 have aL:(b.map (·.1)).length=b.length:=List.length_map ..;have hlen2:(b.map (·.2)).length=b.length:=List.length_map ..;rw [aL] at bz hx hA;rw [hlen2] at bA hx hA;have cb:b.length+1≤maxLen:=by unfold maxLen; omega
 obtain ⟨i0,hi,bf,bg,bh⟩:=info_parts QL;rw [aL,hlen2];clear h1 h2;generalize hK1:(b.map (·.1)).map Value.string=L1 at *;generalize hK2:(b.map (·.2)).map Value.string=L2 at *;have bL:L1.length=b.length:=by rw [← hK1]; simp
 have bO:L2.length=b.length:=by rw [← hK2]; simp
 go_enter Tryz.func182,Tryz.ntmps182
 go_wp2_with fail
 refine nZ (WJ w b.length L1 L2 (.slice A1 b.length p1) (.slice A2 b.length p2) s v) (by kernel_rfl) (by kernel_rfl) ?_ ?_ ?_
 ·exact ⟨undef,undef,undef,undef,undef,undef,undef,undef,undef,undef,undef,undef,undef,undef,undef,none,none,none,none,_,rfl,ϑ.drew,qL.start,qL.start,⟨(fun b h=>by cases h),(fun b h=>by cases h),(fun b h=>by cases h),(fun b h=>by cases h)⟩,⟨(fun h=>by cases h),(fun h=>by cases h),(fun h=>by cases h),(fun h=>by cases h),(fun h=>by cases h),(fun h=>by cases h),(fun h=>by cases h)⟩,fun _=>rfl,(fun h=>by cases h),(fun h=>by cases h)⟩
 ·intro i o ho f a w1 hJ hf I
  obtain ⟨v7,v8,v9,a6,aq,af,ag,a3,ar,av,a7,aw,am,ao,ap,o1,o2,o3,o4,wi,rfl,hB,C1,C2,⟨a0,a4,a5,ae⟩,⟨e8,e9,a8,a9,aa,ab,ac⟩,bi,b6,b7⟩:=hJ;by_cases bR:i=15
  case neg=>
   have y:f 15=false:=by
    cases hc:f 15 with
    | false=>rfl
    | true=>
     by_cases bX:i < 15
     ·exact absurd (b7 hc i bX) (by simp [hf])
     ·exfalso
      rw [Array.getElem?_eq_none (by simp; omega)] at ho;cases ho
   obtain rfl:=bi y;have a1:w.heap.size+2≤w1.heap.size:=by have:=hB.size; simp at this; omega
   have b8:Below w.heap.size w w1:=hA.trans (hB.mono (by simp))
   match i,ho,hf,I with
   | 0,ho,hf,I=>
    obtain rfl:=Option.some.inj ho;rw [hf] at C1;have aM:Below w1.heap.size w1 (w1.alloc (.cells #[] 9)):=ζ;refine wpOp_step rfl (fun K' hK=>?_);go_simp;refine hK _ _ ?_;exact ⟨(.slice (some ⟨w1.heap.size,0,none⟩) 0 0),v8,v9,a6,aq,af,ag,a3,ar,av,a7,aw,am,ao,ap,(some w1.heap.size),o2,o3,o4,_,rfl,hB.alloc a1 _,(C1.Qz a1),(C2.below aM),⟨(kC.new C2.i1).symm,(kC.new C2.i2).symm,a5,ae⟩,⟨e8,e9,a8,a9,aa,ab,ac⟩,fun _=>rfl,Φ y,Φ y⟩
   | 1,ho,hf,I=>
    obtain rfl:=Option.some.inj ho;refine wpOp_step rfl (fun K' hK=>?_);go_simp;refine hK _ _ ?_;exact ⟨v7,(.pointer (some ⟨w.heap.size,0,none⟩)),v9,a6,aq,af,ag,a3,ar,av,a7,aw,am,ao,ap,o1,o2,o3,o4,_,rfl,hB,C1,C2,⟨a0,a4,a5,ae⟩,⟨fun _=>rfl,e9,a8,a9,aa,ab,ac⟩,fun _=>rfl,Φ y,Φ y⟩
   | 2,ho,hf,I=>
    obtain rfl:=Option.some.inj ho;simp [Region.binds] at I;have f1:=I;have g1:=e8 f1;subst g1;have hc:w1.cell? ⟨w.heap.size,0,none⟩=some (.slice A1 b.length p1):=(hB.cell (p:=⟨w.heap.size,0,none⟩) (by simp)).trans (by go_simp);refine wpOp_step rfl (fun K' hK=>?_);go_simp;refine hK _ _ ?_;exact ⟨v7,_,(.slice A1 b.length p1),a6,aq,af,ag,a3,ar,av,a7,aw,am,ao,ap,o1,o2,o3,o4,_,rfl,hB,C1,C2,⟨a0,a4,a5,ae⟩,⟨e8,fun _=>rfl,a8,a9,aa,ab,ac⟩,fun _=>rfl,Φ y,Φ y⟩
   | 3,ho,hf,I=>
    obtain rfl:=Option.some.inj ho;simp [Region.binds] at I;obtain ⟨f0,f2⟩:=I;have g:=e9 f2;subst g;rw [hf,f0] at C1;have hE:=C1.e_ rfl rfl;refine wpOp_step rfl (fun K' hK=>?_);refine gG rfl (.tmp 7) (.tmp 9) 132 rfl (w.heap.size+2) 9 i0 (.string ⟨#[]⟩) 1 16 Tryz.underlying132 hi bf bg bh rfl (by omega) v7 0 [] rfl hE.2.1 A1 b.length p1 L1 rfl (by rw [bL,Nat.mul_one]) (br w1 b8) bB (by omega) (by omega) a1 (fun A cap w2 U hg a2=>hK _ _ ?_);rw [Nat.zero_add] at U a2 ⊢;rw [List.nil_append] at U;have az:=hg.size;have aR:=gX hB hE.2.1 ν a1 hg;have hN:qL (w.heap.size+2) 9 b.length L1 (.string s) (f 0) true (f 5) (f 6) v7 (.slice A b.length cap) af ag (Value.slice A b.length cap).ownBlock o2 w2:=by rw [f0]; exact C1.dZ a1 U hg az a2 (ja U)
    have aD:∀ q,Hy (w.heap.size+2) w1 q→kC o1 q→kC (Value.slice A b.length cap).ownBlock q:=fun q hq hd t J=>by
     rcases a2 with hl | hl
     ·rw [hl] at J; exact hd t (hE.2.2 t J)
     ·rw [hl] at J; simp at J; intro e'; have:=(hq t e').2; omega
    have b3:=C2.beside hg az (fun t J=>a0 t (hE.2.2 t J)) (fun t J=>a4 t (hE.2.2 t J));exact ⟨v7,v8,_,(.slice A b.length cap),aq,af,ag,a3,ar,av,a7,aw,am,ao,ap,((Value.slice A b.length cap).ownBlock),o2,o3,o4,_,rfl,aR,hN,b3,⟨aD _ C2.i1 a0,aD _ C2.i2 a4,a5,ae⟩,⟨e8,e9,a8,a9,aa,ab,ac⟩,fun _=>rfl,Φ y,Φ y⟩
   | 4,ho,hf,I=>
    obtain rfl:=Option.some.inj ho;refine wpOp_step rfl (fun K' hK=>?_);go_simp;refine hK _ _ ?_;exact ⟨v7,v8,v9,a6,(.string s),af,ag,a3,ar,av,a7,aw,am,ao,ap,o1,o2,o3,o4,_,rfl,hB,C1,C2,⟨a0,a4,a5,ae⟩,⟨e8,e9,fun _=>rfl,a9,aa,ab,ac⟩,fun _=>rfl,Φ y,Φ y⟩
   | 5,ho,hf,I=>
    obtain rfl:=Option.some.inj ho;simp [Region.binds] at I;have f4:=I;have g4:=a8 f4;subst g4;rw [hf] at C1;have aM:Below w1.heap.size w1 (w1.alloc (.cells #[.string s] 9)):=ζ;refine wpOp_step rfl (fun K' hK=>?_);go_simp;refine hK _ _ ?_;exact ⟨v7,v8,v9,a6,_,(.slice (some ⟨w1.heap.size,0,none⟩) 1 1),ag,a3,ar,av,a7,aw,am,ao,ap,o1,(some w1.heap.size),o3,o4,_,rfl,hB.alloc a1 _,(C1.stepS a1),(C2.below aM),⟨a0,a4,(kC.new C2.i1).symm,(kC.new C2.i2).symm⟩,⟨e8,e9,a8,a9,aa,ab,ac⟩,fun _=>rfl,Φ y,Φ y⟩
   | 6,ho,hf,I=>
    obtain rfl:=Option.some.inj ho;simp [Region.binds] at I;obtain ⟨f3,f5,_⟩:=I;have aE:f 0=true:=C1.hr f3;rw [hf,f3,f5,aE] at C1;have hR:=C1.r_ rfl rfl;obtain ⟨l,rfl,hl,_⟩:=C1.s_ rfl rfl;refine wpOp_step rfl (fun K' hK=>?_);refine gG rfl (.tmp 10) (.tmp 12) 132 rfl (w.heap.size+2) 9 i0 (.string ⟨#[]⟩) 1 16 Tryz.underlying132 hi bf bg bh rfl (by omega) a6 b.length L1 rfl hR.2.1 (some ⟨l,0,none⟩) 1 1 [.string s] rfl rfl (aS hl) (fun u hu=>by rw [ώ.1 hu]; rfl) (by omega) (by omega) a1 (fun A cap w2 U hg a2=>hK _ _ ?_);have az:=hg.size;have aR:=gX hB hR.2.1 ν a1 hg;have hN:qL (w.heap.size+2) 9 b.length L1 (.string s) (f 0) (f 3) (f 5) true v7 a6 (.slice (some ⟨l,0,none⟩) 1 1) (.slice A (b.length+1) cap) (Value.slice A (b.length+1) cap).ownBlock o2 w2:=by rw [aE,f3,f5]; exact C1.QA a1 U hg az a2 (ja U)
    have aD:∀ q,Hy (w.heap.size+2) w1 q→kC o1 q→kC (Value.slice A (b.length+1) cap).ownBlock q:=fun q hq hd t J=>by
     rcases a2 with hl | hl
     ·rw [hl] at J; exact hd t (hR.2.2 t J)
     ·rw [hl] at J; simp at J; intro e'; have:=(hq t e').2; omega
    have b3:=C2.beside hg az (fun t J=>a0 t (hR.2.2 t J)) (fun t J=>a4 t (hR.2.2 t J));exact ⟨v7,v8,v9,a6,aq,_,(.slice A (b.length+1) cap),a3,ar,av,a7,aw,am,ao,ap,((Value.slice A (b.length+1) cap).ownBlock),o2,o3,o4,_,rfl,aR,hN,b3,⟨aD _ C2.i1 a0,aD _ C2.i2 a4,a5,ae⟩,⟨e8,e9,a8,a9,aa,ab,fun h=>absurd ((ac h).2.1.symm.trans hf) (by decide)⟩,fun _=>rfl,Φ y,Φ y⟩
   | 7,ho,hf,I=>
    obtain rfl:=Option.some.inj ho;rw [hf] at C2;have aM:Below w1.heap.size w1 (w1.alloc (.cells #[] 9)):=ζ;refine wpOp_step rfl (fun K' hK=>?_);go_simp;refine hK _ _ ?_;exact ⟨v7,v8,v9,a6,aq,af,ag,(.slice (some ⟨w1.heap.size,0,none⟩) 0 0),ar,av,a7,aw,am,ao,ap,o1,o2,(some w1.heap.size),o4,_,rfl,hB.alloc a1 _,(C1.below aM),(C2.Qz a1),⟨kC.new C1.i1,a4,kC.new C1.i2,ae⟩,⟨e8,e9,a8,a9,aa,ab,ac⟩,fun _=>rfl,Φ y,Φ y⟩
   | 8,ho,hf,I=>
    obtain rfl:=Option.some.inj ho;refine wpOp_step rfl (fun K' hK=>?_);go_simp;refine hK _ _ ?_;exact ⟨v7,v8,v9,a6,aq,af,ag,a3,(.pointer (some ⟨w.heap.size,1,none⟩)),av,a7,aw,am,ao,ap,o1,o2,o3,o4,_,rfl,hB,C1,C2,⟨a0,a4,a5,ae⟩,⟨e8,e9,a8,fun _=>rfl,aa,ab,ac⟩,fun _=>rfl,Φ y,Φ y⟩
   | 9,ho,hf,I=>
    obtain rfl:=Option.some.inj ho;simp [Region.binds] at I;have f8:=I;have g8:=a9 f8;subst g8;have hc:w1.cell? ⟨w.heap.size,1,none⟩=some (.slice A2 b.length p2):=(hB.cell (p:=⟨w.heap.size,1,none⟩) (by simp)).trans (by go_simp);refine wpOp_step rfl (fun K' hK=>?_);go_simp;refine hK _ _ ?_;exact ⟨v7,v8,v9,a6,aq,af,ag,a3,_,(.slice A2 b.length p2),a7,aw,am,ao,ap,o1,o2,o3,o4,_,rfl,hB,C1,C2,⟨a0,a4,a5,ae⟩,⟨e8,e9,a8,a9,fun _=>rfl,ab,ac⟩,fun _=>rfl,Φ y,Φ y⟩
   | 10,ho,hf,I=>
    obtain rfl:=Option.some.inj ho;simp [Region.binds] at I;obtain ⟨f7,f9,f6⟩:=I;have g:=aa f9;subst g;rw [hf,f7] at C2;have hE:=C2.e_ rfl rfl;refine wpOp_step rfl (fun K' hK=>?_);refine gG rfl (.tmp 14) (.tmp 16) 132 rfl (w.heap.size+2) 9 i0 (.string ⟨#[]⟩) 1 16 Tryz.underlying132 hi bf bg bh rfl (by omega) a3 0 [] rfl hE.2.1 A2 b.length p2 L2 rfl (by rw [bO,Nat.mul_one]) (bt w1 b8) bE (by omega) (by omega) a1 (fun A cap w2 U hg a2=>hK _ _ ?_);rw [Nat.zero_add] at U a2 ⊢;rw [List.nil_append] at U;have az:=hg.size;have aR:=gX hB hE.2.1 ν a1 hg;have hN:qL (w.heap.size+2) 9 b.length L2 (.string v) (f 7) true (f 12) (f 13) a3 (.slice A b.length cap) am ao (Value.slice A b.length cap).ownBlock o4 w2:=by rw [f7]; exact C2.dZ a1 U hg az a2 (ja U)
    have aD:∀ q,Hy (w.heap.size+2) w1 q→kC o3 q→kC (Value.slice A b.length cap).ownBlock q:=fun q hq hd t J=>by
     rcases a2 with hl | hl
     ·rw [hl] at J; exact hd t (hE.2.2 t J)
     ·rw [hl] at J; simp at J; intro e'; have:=(hq t e').2; omega
    have b3:=C1.beside hg az (fun t J=>a0.symm t (hE.2.2 t J)) (fun t J=>a5.symm t (hE.2.2 t J));exact ⟨v7,v8,v9,a6,aq,af,ag,a3,ar,_,(.slice A b.length cap),aw,am,ao,ap,o1,o2,((Value.slice A b.length cap).ownBlock),o4,_,rfl,aR,b3,hN,⟨(aD _ C1.i1 a0.symm).symm,a4,(aD _ C1.i2 a5.symm).symm,ae⟩,⟨e8,e9,a8,a9,aa,ab,ac⟩,fun _=>rfl,Φ y,Φ y⟩
   | 11,ho,hf,I=>
    obtain rfl:=Option.some.inj ho;refine wpOp_step rfl (fun K' hK=>?_);go_simp;refine hK _ _ ?_;exact ⟨v7,v8,v9,a6,aq,af,ag,a3,ar,av,a7,(.string v),am,ao,ap,o1,o2,o3,o4,_,rfl,hB,C1,C2,⟨a0,a4,a5,ae⟩,⟨e8,e9,a8,a9,aa,fun _=>rfl,ac⟩,fun _=>rfl,Φ y,Φ y⟩
   | 12,ho,hf,I=>
    obtain rfl:=Option.some.inj ho;simp [Region.binds] at I;have bk:=I;have c3:=ab bk;subst c3;rw [hf] at C2;have aM:Below w1.heap.size w1 (w1.alloc (.cells #[.string v] 9)):=ζ;refine wpOp_step rfl (fun K' hK=>?_);go_simp;refine hK _ _ ?_;exact ⟨v7,v8,v9,a6,aq,af,ag,a3,ar,av,a7,_,(.slice (some ⟨w1.heap.size,0,none⟩) 1 1),ao,ap,o1,o2,o3,(some w1.heap.size),_,rfl,hB.alloc a1 _,(C1.below aM),(C2.stepS a1),⟨a0,kC.new C1.i1,a5,kC.new C1.i2⟩,⟨e8,e9,a8,a9,aa,ab,ac⟩,fun _=>rfl,Φ y,Φ y⟩
   | 13,ho,hf,I=>
    obtain rfl:=Option.some.inj ho;simp [Region.binds] at I;obtain ⟨b9,f12,_⟩:=I;have aE:f 7=true:=C2.hr b9;rw [hf,b9,f12,aE] at C2;have hR:=C2.r_ rfl rfl;obtain ⟨l,rfl,hl,_⟩:=C2.s_ rfl rfl;refine wpOp_step rfl (fun K' hK=>?_);refine gG rfl (.tmp 17) (.tmp 19) 132 rfl (w.heap.size+2) 9 i0 (.string ⟨#[]⟩) 1 16 Tryz.underlying132 hi bf bg bh rfl (by omega) a7 b.length L2 rfl hR.2.1 (some ⟨l,0,none⟩) 1 1 [.string v] rfl rfl (aS hl) (fun u hu=>by rw [ώ.1 hu]; rfl) (by omega) (by omega) a1 (fun A cap w2 U hg a2=>hK _ _ ?_);have az:=hg.size;have aR:=gX hB hR.2.1 ν a1 hg;have hN:qL (w.heap.size+2) 9 b.length L2 (.string v) (f 7) (f 10) (f 12) true a3 a7 (.slice (some ⟨l,0,none⟩) 1 1) (.slice A (b.length+1) cap) (Value.slice A (b.length+1) cap).ownBlock o4 w2:=by rw [aE,b9,f12]; exact C2.QA a1 U hg az a2 (ja U)
    have aD:∀ q,Hy (w.heap.size+2) w1 q→kC o3 q→kC (Value.slice A (b.length+1) cap).ownBlock q:=fun q hq hd t J=>by
     rcases a2 with hl | hl
     ·rw [hl] at J; exact hd t (hR.2.2 t J)
     ·rw [hl] at J; simp at J; intro e'; have:=(hq t e').2; omega
    have b3:=C1.beside hg az (fun t J=>a0.symm t (hR.2.2 t J)) (fun t J=>a5.symm t (hR.2.2 t J));exact ⟨v7,v8,v9,a6,aq,af,ag,a3,ar,av,a7,aw,_,(.slice A (b.length+1) cap),ap,o1,o2,((Value.slice A (b.length+1) cap).ownBlock),o4,_,rfl,aR,b3,hN,⟨(aD _ C1.i1 a0.symm).symm,a4,(aD _ C1.i2 a5.symm).symm,ae⟩,⟨e8,e9,a8,a9,aa,ab,fun h=>absurd ((ac h).2.2.symm.trans hf) (by decide)⟩,fun _=>rfl,Φ y,Φ y⟩
   | 14,ho,hf,I=>
    obtain rfl:=Option.some.inj ho;simp [Region.binds] at I;obtain ⟨f6,b4⟩:=I;obtain ⟨⟨A3,q3,rfl⟩,_⟩:=C1.f_ f6;obtain ⟨⟨A4,q4,rfl⟩,_⟩:=C2.f_ b4;refine wpOp_step rfl (fun K' hK=>?_);go_simp;refine hK _ _ ?_;exact ⟨v7,v8,v9,a6,aq,af,_,a3,ar,av,a7,aw,am,_,_,o1,o2,o3,o4,_,rfl,hB,C1,C2,⟨a0,a4,a5,ae⟩,⟨e8,e9,a8,a9,aa,ab,fun _=>⟨rfl,f6,b4⟩⟩,fun _=>rfl,Φ y,Φ y⟩
   | k+15,ho,hf,I=>
    rw [Array.getElem?_eq_none (by simp; omega)] at ho;cases ho
  case pos=>
   subst bR;obtain rfl:=Option.some.inj ho;simp [Region.binds] at I;obtain ⟨bu,b4,f0,f1,f2,f3,f4,f5,f6,f7,f8,f9,b9,bk,f12,_⟩:=I;have g:=(ac bu).1;subst g;obtain rfl:=bi hf;have b5:w1.heap[w.heap.size+1]? = some (.cells #[.slice none 0 0,.slice none 0 0] 198 (0,0)):=(hB.block _ (show w.heap.size+1 < w.heap.size+2 by omega)).trans hx.2;have bv:∀ k,w1.frozen? ⟨w.heap.size+1,k,none⟩=false:=fun k=>by simp [World.frozen?,b5]
   have c7:w1.cell? ⟨w.heap.size+1,0,none⟩=some (.slice none 0 0):=by simp [World.cell?,b5]
   have c8:w1.cell? ⟨w.heap.size+1,1,none⟩=some (.slice none 0 0):=by simp [World.cell?,b5]
   have cc:=bv 0;have cd:=bv 1;obtain ⟨⟨A3,q3,rfl⟩,_⟩:=C1.f_ f6;obtain ⟨⟨A4,q4,rfl⟩,_⟩:=C2.f_ b4;refine wpOp_step rfl (fun K' hK=>?_);go_simp;refine hK _ _ ?_;refine ⟨_,_,_,_,_,_,_,_,_,_,_,_,_,_,_,o1,o2,o3,o4,w1,rfl,hB,C1,C2,⟨a0,a4,a5,ae⟩,⟨fun _=>rfl,fun _=>rfl,fun _=>rfl,fun _=>rfl,fun _=>rfl,fun _=>rfl,fun _=>⟨rfl,f6,b4⟩⟩,(fun h=>by cases h),fun _=>rfl,fun _ i hi=>?_⟩
   match i,hi with
   | 0,_=>exact f0
   | 1,_=>exact f1
   | 2,_=>exact f2
   | 3,_=>exact f3
   | 4,_=>exact f4
   | 5,_=>exact f5
   | 6,_=>exact f6
   | 7,_=>exact f7
   | 8,_=>exact f8
   | 9,_=>exact f9
   | 10,_=>exact b9
   | 11,_=>exact bk
   | 12,_=>exact f12
   | 13,_=>exact b4
   | 14,_=>exact bu
   | q+15,h=>omega
 ·intro f a w' hf hJ
  obtain ⟨v7,v8,v9,a6,aq,af,ag,a3,ar,av,a7,aw,am,ao,ap,o1,o2,o3,o4,w1,rfl,hB,C1,C2,⟨a0,a4,a5,ae⟩,⟨e8,e9,a8,a9,aa,ab,ac⟩,bi,b6,b7⟩:=hJ;obtain rfl:=b6 (hf 15 (by simp));obtain ⟨⟨A3,q3,rfl⟩,bl,_⟩:=C1.f_ (hf 6 (by simp));obtain ⟨⟨A4,q4,rfl⟩,bn,_⟩:=C2.f_ (hf 13 (by simp));have b5:w1.heap[w.heap.size+1]? = some (.cells #[.slice none 0 0,.slice none 0 0] 198 (0,0)):=(hB.block _ (show w.heap.size+1 < w.heap.size+2 by omega)).trans hx.2;have bc:=bY (o:=1) (u:=.slice A4 (b.length+1) q4) (bY (o:=0) (u:=.slice A3 (b.length+1) q3) b5);have c4:((w1.setCell ⟨w.heap.size+1,0,none⟩ (.slice A3 (b.length+1) q3)).setCell ⟨w.heap.size+1,1,none⟩ (.slice A4 (b.length+1) q4)).cell? ⟨w.heap.size+1,0,none⟩=some (.slice A3 (b.length+1) q3):=by simp [World.cell?,bc]
  have c5:((w1.setCell ⟨w.heap.size+1,0,none⟩ (.slice A3 (b.length+1) q3)).setCell ⟨w.heap.size+1,1,none⟩ (.slice A4 (b.length+1) q4)).cell? ⟨w.heap.size+1,1,none⟩=some (.slice A4 (b.length+1) q4):=by simp [World.cell?,bc]
  have b8:Below w.heap.size w w1:=hA.trans (hB.mono (by simp));have c6:=η ((b8.setCell (p:=⟨w.heap.size+1,0,none⟩) (by simp) (.slice A3 (b.length+1) q3)).setCell (p:=⟨w.heap.size+1,1,none⟩) (by simp) (.slice A4 (b.length+1) q4))
  have bw:=qP (w':=(w1.setCell ⟨w.heap.size+1,0,none⟩ (.slice A3 (b.length+1) q3)).setCell ⟨w.heap.size+1,1,none⟩ (.slice A4 (b.length+1) q4)) bl fun t J=>by
   have:=(ja bl t J).1;rw [π _ _ _ _ (by show t ≠ w.heap.size+1; omega),π _ _ _ _ (by show t ≠ w.heap.size+1; omega)]
  have bx:=qP (w':=(w1.setCell ⟨w.heap.size+1,0,none⟩ (.slice A3 (b.length+1) q3)).setCell ⟨w.heap.size+1,1,none⟩ (.slice A4 (b.length+1) q4)) bn fun t J=>by
   have:=(ja bn t J).1;rw [π _ _ _ _ (by show t ≠ w.heap.size+1; omega),π _ _ _ _ (by show t ≠ w.heap.size+1; omega)]
  have bj:Hid (∃ bs',iC ((w1.setCell ⟨w.heap.size+1,0,none⟩ (.slice A3 (b.length+1) q3)).setCell ⟨w.heap.size+1,1,none⟩ (.slice A4 (b.length+1) q4)) [.slice A3 (b.length+1) q3,.slice A4 (b.length+1) q4] (b ++ [(s,v)]) bs'∧∀ c ∈ bs',w.heap.size≤c):=η (by
   obtain ⟨g1,k1,r1⟩:=zy (ys:=(b ++ [(s,v)]).map (·.1)) (by rw [List.map_append,χ,aL,List.map_append,hK1]; exact bw) (fun t J=>by
    rw [List.map_append] at J
    rcases μ.1 J with J | J
    ·exact bp t J
    ·rw [ώ.1 J]; exact hs)
   obtain ⟨g2,k2,r2⟩:=zy (ys:=(b ++ [(s,v)]).map (·.2)) (by rw [List.map_append,χ,hlen2,List.map_append,hK2]; exact bx) (fun t J=>by
    rw [List.map_append] at J
    rcases μ.1 J with J | J
    ·exact bq t J
    ·rw [ώ.1 J]; exact hv)
   exact ⟨_,⟨_,_,g1,g2,rfl,rfl,k1,k2⟩,fun c hc=>(μ.1 hc).elim (fun hc=>τ (Nat.le_add_right _ _) (r1 c hc)) (fun hc=>τ (Nat.le_add_right _ _) (r2 c hc))⟩)
  clear C1 C2 a0 a4 a5 ae e8 e9 a8 a9 aa ab ac bi b6 b7 bl bn bw bx hB b8 b5 bc hA hx br bt bp bq;go_wp2;exact bodyPost_ret (v:=.agg #[.slice A3 (b.length+1) q3,.slice A4 (b.length+1) q4]) (by simp [results,Tryz.results182,go_sem,c4,c5]) rfl ⟨c6.out,_,_,_,rfl,bj.out.choose_spec⟩
theorem wP (xs:List A) (a:A) (v d0 d1:Value) (bs b2:List Nat) (w:World) (h:aQ w [v] xs bs) (h2:aP w [d0,d1] a b2) (hs:iF xs=true):
  Calls Tryz.prog 126 #[v,.agg #[d0,d1]] w fun e w'=>e=.returned (.tuple #[.int .i64 (pl xs a),.bool (hasB xs a)])∧Below w.heap.size w w':=by
 obtain ⟨Ad,cap,rfl,hl,hm⟩:=ai h;obtain ⟨Aa,ca,rfl,rfl⟩:=bK h2;have a8:=ay (τ hl hm);clear hm;have a1:Below w.heap.size w (w.alloc (.cells #[.string a.name,.slice Aa a.args.length ca] 40)):=ζ
 go_enter Tryz.func126,Tryz.ntmps126
 go_wp2
 go_loopw [6] (fun i wr=>∃ k:Nat,k≤xs.length∧i=.int .i64 k∧E8 xs a k∧Below w.heap.size w wr∧wr.cell? ⟨w.heap.size,0,none⟩=some (.string a.name)∧wr.cell? ⟨w.heap.size,1,none⟩=some (.slice Aa a.args.length ca)∧w.heap.size < wr.heap.size) (fun i _=>xs.length - (intOf i).toNat)
 case atStart=>exact ⟨0,ε,rfl,DZ _ _,a1,by go_simp,by go_simp,by simp⟩
 case round=>
  obtain ⟨k,hk,rfl,a0,hb,s0,s1,a5⟩:=hrel;have HA:=η a0;clear a0 a1;by_cases U:k < xs.length
  ·have a9:(0:Int)≤(k:Int):=by omega
   have a6:(k:Int) < (xs.length:Int):=by omega
   obtain ⟨b,o,Ae,ce,bk,rfl,_,c0,c1,a2,_⟩:=dQ (au.below h hb) U;have hD:Below wr.heap.size wr wr.drew:=Below.drew ϑ;have I:=fun w' (a3:Below wr.heap.size wr w')=>D6 xs[k] a _ _ _ _ bk b2 w' (ak.below a2 a3) (ak.below h2 (hb.trans (a3.mono hb.size)))
   clear h h2 a2;by_cases hc:dJ xs[k] a < 0
   ·have HC:=η (N7 HA.out U hc)
    go_wp2
    go_region_held3 (fun w'=>w'.cell? ⟨b,o+k * 2,none⟩=some (.string xs[k].name)∧w'.cell? ⟨b,o+k * 2+1,none⟩=some (.slice Ae xs[k].args.length ce)∧w'.cell? ⟨w.heap.size,0,none⟩=some (.string a.name)∧w'.cell? ⟨w.heap.size,1,none⟩=some (.slice Aa a.args.length ca))
     (first | go_keep | exact ⟨y0,y1,y2,y3⟩)
     (first | (go_at_call 130; refine (I _ hD).mono ?_; rintro e w2 ⟨rfl,y⟩; have y0:=ξ y c0; have y1:=ξ y c1; have y2:=ξ y s0; have y3:=ξ y s1))
    have B2:=hb.trans ((hD.trans y).mono hb.size);clear I;go_wp2;go_roundw
    case rel=>exact ⟨k+1,by omega,by go_num,HC.out,B2,y2,y3,κ a5 (hD.trans y).size⟩
    case measure=>simp [intOf]; omega
   ·have HP:=η (AY hs hk HA.out (fun _=>hc))
    have HH:=η (Ql hs U HA.out hc);go_wp2
    go_region_held3 (fun w'=>w'.cell? ⟨b,o+k * 2,none⟩=some (.string xs[k].name)∧w'.cell? ⟨b,o+k * 2+1,none⟩=some (.slice Ae xs[k].args.length ce)∧w'.cell? ⟨w.heap.size,0,none⟩=some (.string a.name)∧w'.cell? ⟨w.heap.size,1,none⟩=some (.slice Aa a.args.length ca))
     (first | go_keep | exact ⟨y0,y1,y2,y3⟩)
     (first | (go_at_call 130; refine (I _ hD).mono ?_; rintro e w2 ⟨rfl,y⟩; have y0:=ξ y c0; have y1:=ξ y c1; have y2:=ξ y s0; have y3:=ξ y s1))
    have B2:=hb.trans ((hD.trans y).mono hb.size);have hE:=hD.trans y;have a4:=I _ (hE.trans (ϑ.drew.mono hE.size));have a7:Below w2.heap.size w2 w2.drew:=Below.drew ϑ;clear I;go_wp2
    go_region_held3 (fun w'=>w'.cell? ⟨b,o+k * 2,none⟩=some (.string xs[k].name)∧w'.cell? ⟨b,o+k * 2+1,none⟩=some (.slice Ae xs[k].args.length ce)∧w'.cell? ⟨w.heap.size,0,none⟩=some (.string a.name)∧w'.cell? ⟨w.heap.size,1,none⟩=some (.slice Aa a.args.length ca))
     (first | go_keep | exact ⟨z0,z1,z2,z3⟩)
     (first | (go_at_call 130; refine (a4).mono ?_; rintro e w3 ⟨rfl,J⟩; have z0:=ξ J y0; have z1:=ξ J y1; have z2:=ξ J y2; have z3:=ξ J y3))
    have B3:=B2.trans ((a7.trans J).mono B2.size);go_wp2;go_ret2;exact ⟨by rw [← HP.out,HH.out]; rfl,B3⟩
  ·have he:=η (show k=xs.length by omega)
   have a6:decide ((k:Int) < (xs.length:Int))=false:=decide_eq_false (by omega);go_wp2
   go_quiet (fail)
   go_wp2
   go_quiet (fail)
   go_wp2;go_ret2;have hA:=HA.out;refine ⟨?_,below_drewN (below_drewN hb _) _⟩;rw [← AY hs hk hA (fun h=>absurd h U),Nk (by rw [← he.out]; exact hA)];rfl
end Go.Proofs.YtlmngncogomgeaaGreatDoor
