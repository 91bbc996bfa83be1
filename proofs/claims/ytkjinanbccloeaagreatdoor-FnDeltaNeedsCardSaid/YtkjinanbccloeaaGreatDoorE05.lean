/- Of the proof of FnDeltaNeeds: BindP, Open, SplP, Term, Txt, CopyA, RdrP, Srch, GetB. -/
import Derived.Lib.SplitLaws
import Derived.Test.YtkjinanbccloeaaGreatDoorE03
import Derived.Test.YtkjinanbccloeaaGreatDoorE04
set_option linter.unusedVariables false
set_option maxHeartbeats 2000000
set_option maxRecDepth 100000
namespace Go.Proofs.YtkjinanbccloeaaGreatDoor
namespace D
open Go.RowKit
abbrev Bd:=List (ByteArray × ByteArray)
def gI:Bd→ByteArray→Option ByteArray
 | [],_=>none
 | p :: b,n=>if p.1=n then some p.2 else gI b n
def jB (b:Bd) (n:ByteArray):ByteArray:=(gI b n).getD ⟨#[]⟩
def cZ:List T→List T→Bd→Bd × Bool
 | t :: ts,f :: fs,b=>
  if t.var then
   match gI b t.name with
   | some v=>if v=f.name then cZ ts fs b else (b,false)
   | none=>cZ ts fs (b ++ [(t.name,f.name)])
  else if t.name=f.name then cZ ts fs b else (b,false)
 | _,_,b=>(b,true)
def aG (a f:A) (b:Bd):Bd × Bool:=if a.name=f.name∧a.args.length=f.args.length then cZ a.args f.args b else (b,false)
def dO (b:Bd) (t:T):T:=⟨false,if t.var then jB b t.name else t.name⟩
def cO (a:A) (b:Bd):A:=⟨a.name,a.args.map (dO b)⟩
def jE:Rel Bd:=fun w cs b bs=>∃ s v y I,cs = [s,v]∧bs=y ++ I∧iF w [s] (b.map (·.1)) y∧iF w [v] (b.map (·.2)) I
theorem dm:Good jE:=
 ⟨fun h J=>by
   obtain ⟨s,v,U,b2,h1,rfl,y,I⟩:=h
   exact ⟨s,v,U,b2,h1,rfl,bP.keep y fun b hb=>J b (Ξ _ hb),bP.keep I fun b hb=>J b (Ω _ hb)⟩,
  fun h b hb=>by
   obtain ⟨s,v,U,b2,h1,rfl,y,I⟩:=h
   rcases μ.1 hb with hb | hb
   ·exact bP.lt y b hb
   ·exact bP.lt I b hb⟩
def uD:Rel (List Bd):=iU 2 jE
theorem nN:Good uD:=iO dm (by omega)
end D
namespace D
open Go.RowKit Go.Deep Go.ChangeShapes Go.WideShapes
def Opens {α:Type} (P:Program) (e:TypeId) (R:Rel α):Prop:=
 ∀ (H:Type) (enc:TypeId × Value→H) (w:World) (spare:Nat→Bool) (held:Bool) (fuel:Nat) (cs:List Value) (y:DataW H × List MemPlace),
  DataW.trod enc P w 0 spare held fuel e cs=some y→∃ x bs,R w cs x bs
theorem La {α:Type} {P:Program} {t e:TypeId} {n:Nat} {R:Rel α} (ht:P.underlying t=some (.slice e)) (hC:P.cellsOf e=n) (hn:0 < n) (hR:Opens P e R):Opens P t (iU n R):=by
 intro H enc w spare held fuel cs y h
 rcases open_slice ht h with ⟨rfl,_⟩ | ⟨a,len,cap,m,n',Dd,Pl,rfl,_,hl,hm,a2,_,hi⟩
 ·exact ⟨[],[],none,0,rfl,ν,by unfold maxLen; omega,fun _=>rfl,fun h=>absurd rfl h⟩
 ·have a5:len≤m:=by rw [a2]; split <;> omega
  by_cases h0:len=0
  ·subst h0
   exact ⟨[],[],some a,cap,rfl,hl,hm,fun _=>rfl,fun h=>absurd rfl h⟩
  ·have hex:∀ k,k < len→∃ p:List Value × α × List Nat,p.1.length=n∧(∀ j v,p.1[j]? = some v→w.cell? (a.add (k * n+j))=some v)∧R w p.1 p.2.1 p.2.2:=by
    intro k hk;obtain ⟨U,hc,a3⟩:=hi k (by omega);rw [hC] at hc;obtain ⟨_,hlen,J⟩:=World.cells?_some hc;obtain ⟨x,bs,hx⟩:=hR H enc w spare held n' U _ a3;refine ⟨(U,x,bs),hlen,fun j v hv=>?_,hx⟩
    have a4:j < n:=by
     have:=(List.getElem?_eq_some_iff.1 hv).1;dsimp only at this;omega
    have:=J j a4;rw [add_add] at this;rw [this]; exact hv
   obtain ⟨p0,_⟩:=hex 0 (by omega);haveI:Inhabited (List Value × α × List Nat):=⟨p0⟩;obtain ⟨f,hf⟩:=choose_lt hex
   have a0:a.spot=none:=by
    obtain ⟨q1,q2,_⟩:=hf 0 (by omega);obtain ⟨v,hv⟩:∃ v,(f 0).1[0]? = some v:=⟨_,Ψ (by omega)⟩;have h1:=q2 0 v hv;have h2:a.add (0 * n+0)=a:=by simp [Addr.add]
    rw [h2] at h1;exact World.cell?_spot h1
   obtain ⟨b,o,sp⟩:=a;dsimp only at a0;subst a0
   have a1:∀ i,(⟨b,o,none⟩:Addr).add i=⟨b,o+i,none⟩:=by
    intro i; unfold Addr.add; split <;> simp_all
   have I:((List.range len).map fun k=>(f k).2.1).length=len:=by simp
   refine ⟨(List.range len).map fun k=>(f k).2.1,b :: (List.range len).flatMap fun k=>(f k).2.2,some ⟨b,o,none⟩,cap,by rw [I],by rw [I]; exact hl,hm,fun h=>?_,fun _=>⟨b,o,rfl,fun k=>(f k).1,fun k=>(f k).2.2,by rw [I],fun k x hx=>?_⟩⟩
   ·have:=congrArg List.length h; rw [I] at this; exact absurd this h0
   ·obtain ⟨hk,rfl⟩:=List.getElem?_eq_some_iff.1 hx
    rw [I] at hk;obtain ⟨q1,q2,q3⟩:=hf k hk;refine ⟨q1,fun j v hv=>?_,?_⟩
    ·rw [← a1]; exact q2 j v hv
    ·simp only [List.getElem_map,List.getElem_range]; exact q3
theorem OX {P:Program} {t:TypeId} (J:P.underlying t=some (.int .u8)):Opens P t Ut:=by
 intro H enc w spare held fuel cs y h;obtain ⟨n,rfl,_,I⟩:=DataW.trod_int J h;simp only [Lit.wf,IntKind.min,IntKind.max,IntKind.signed,IntKind.bits] at I;simp at I;exact ⟨UInt8.ofNat n.toNat,[],by simp; omega,rfl⟩
section
variable {P:Program}
theorem Yl {t:TypeId} {I J:Field} (ht:P.underlying t=some (.struct #[I,J])) (hC:P.cellsOf t=2) (h0:P.underlying I.type=some .bool) (h1:P.underlying J.type=some .string)
  (c0:P.cellsOf I.type=1) (c1:P.cellsOf J.type=1) (o0:I.offset=0) (o1:J.offset=1):Opens P t kD:=by
 intro H enc w spare held fuel cs y h;obtain ⟨y0,y1,n,rfl,U,t0,t1⟩:=trod_struct2 ht h;rw [hC] at U
 match cs,U with
 | [a,b],_=>
  rw [c0,o0] at t0;rw [c1,o1] at t1;obtain ⟨x0,e0,_⟩:=DataW.trod_bool h0 t0;obtain ⟨x1,e1,_,hs⟩:=DataW.trod_string h1 t1;simp at e0 e1;subst e0 e1;exact ⟨⟨x0,x1⟩,[],rfl,hs,rfl⟩
theorem Ym {t:TypeId} {I J:Field} (ht:P.underlying t=some (.struct #[I,J])) (hC:P.cellsOf t=2) (h0:P.underlying I.type=some .string) (h1:Opens P J.type gG)
  (c0:P.cellsOf I.type=1) (c1:P.cellsOf J.type=1) (o0:I.offset=0) (o1:J.offset=1):Opens P t aJ:=by
 intro H enc w spare held fuel cs y h;obtain ⟨y0,y1,n,rfl,U,t0,t1⟩:=trod_struct2 ht h;rw [hC] at U
 match cs,U with
 | [a,b],_=>
  rw [c0,o0] at t0;rw [c1,o1] at t1;obtain ⟨x0,e0,_,hs⟩:=DataW.trod_string h0 t0;obtain ⟨x1,bs,hx⟩:=h1 H enc w spare held n _ _ t1;simp at e0;subst e0;exact ⟨⟨x0,x1⟩,bs,b,rfl,hs,by simpa using hx⟩
theorem Yn {t:TypeId} {J U:Field} (ht:P.underlying t=some (.struct #[J,U])) (hC:P.cellsOf t=3) (h0:P.underlying J.type=some .bool) (h1:Opens P U.type aJ)
  (c0:P.cellsOf J.type=1) (c1:P.cellsOf U.type=2) (o0:J.offset=0) (o1:U.offset=1):Opens P t qF:=by
 intro H enc w spare held fuel cs y h;obtain ⟨y0,y1,n,rfl,hl,t0,t1⟩:=trod_struct2 ht h;rw [hC] at hl
 match cs,hl with
 | [a,b,c],_=>
  rw [c0,o0] at t0;rw [c1,o1] at t1;obtain ⟨x0,e0,_⟩:=DataW.trod_bool h0 t0;obtain ⟨x1,bs,s,I,hs,hx⟩:=h1 H enc w spare held n _ _ t1;simp at e0 I;obtain ⟨rfl,rfl⟩:=I;subst e0;exact ⟨⟨x0,x1⟩,bs,c,rfl,hs,hx⟩
theorem Yo {t:TypeId} {f0 f1:Field} (ht:P.underlying t=some (.struct #[f0,f1])) (hC:P.cellsOf t=3) (h0:Opens P f0.type aJ) (h1:Opens P f1.type jd)
  (c0:P.cellsOf f0.type=2) (c1:P.cellsOf f1.type=1) (o0:f0.offset=0) (o1:f1.offset=2):Opens P t iy:=by
 intro H enc w spare held fuel cs y h;obtain ⟨y0,y1,n,rfl,hl,t0,t1⟩:=trod_struct2 ht h;rw [hC] at hl
 match cs,hl with
 | [a,b,c],_=>
  rw [c0,o0] at t0;rw [c1,o1] at t1;obtain ⟨x0,I,s,J,hs,a0⟩:=h0 H enc w spare held n _ _ t0;obtain ⟨x1,U,a1⟩:=h1 H enc w spare held n _ _ t1;simp at J;obtain ⟨rfl,rfl⟩:=J;exact ⟨⟨x0,x1⟩,I ++ U,b,c,I,U,rfl,hs,rfl,a0,by simpa using a1⟩
theorem Xl {t:TypeId} {U f1:Field} (ht:P.underlying t=some (.struct #[U,f1])) (hC:P.cellsOf t=2) (h0:Opens P U.type aC) (h1:Opens P f1.type aC)
  (c0:P.cellsOf U.type=1) (c1:P.cellsOf f1.type=1) (o0:U.offset=0) (o1:f1.offset=1):Opens P t gK:=by
 intro H enc w spare held fuel cs y h;obtain ⟨y0,y1,n,rfl,hl,t0,t1⟩:=trod_struct2 ht h;rw [hC] at hl
 match cs,hl with
 | [a,b],_=>
  rw [c0,o0] at t0;rw [c1,o1] at t1;obtain ⟨x0,I,a0⟩:=h0 H enc w spare held n _ _ t0;obtain ⟨x1,J,a1⟩:=h1 H enc w spare held n _ _ t1;exact ⟨⟨x0,x1⟩,I ++ J,a,b,I,J,rfl,rfl,by simpa using a0,by simpa using a1⟩
end
end D
namespace D
open Go.RowKit Go.Lib
def pI (c:UInt8):List UInt8→List (List UInt8)
 | []=>[[]]
 | x :: xs=>if x=c then [] :: pI c xs else match pI c xs with
  | []=>[[x]]
  | p :: ps=>(x :: p) :: ps
def toB (l:List UInt8):ByteArray:=⟨l.toArray⟩
theorem OY (s:ByteArray):toB s.data.toList=s:=by obtain ⟨⟨l⟩⟩:=s; rfl
theorem CB {c:UInt8}:∀ {l:List UInt8},c ∉ l→pI c l = [l]
 | [],_=>rfl
 | x :: xs,h=>by
  have y:x ≠ c:=fun e=>h (e ▸ Γ)
  have ih:=CB (l:=xs) (fun hm=>h (Δ _ hm));unfold pI;rw [if_neg y,ih]
theorem rU {c:UInt8}:∀ {a:List UInt8} (b:List UInt8),c ∉ a→pI c (a ++ c :: b)=a :: pI c b
 | [],b,_=>by rw [List.nil_append]; conv=>lhs; unfold pI; rw [if_pos rfl]
 | x :: xs,b,h=>by
  have y:x ≠ c:=fun e=>h (e ▸ Γ)
  have ih:=rU (a:=xs) b (fun hm=>h (Δ _ hm));rw [List.cons_append]
  conv=>lhs; unfold pI
  rw [if_neg y,ih]
def joinL (c:UInt8):List (List UInt8)→List UInt8
 | []=>[]
 | [p]=>p
 | p :: q :: r=>p ++ c :: joinL c (q :: r)
theorem CG (c:UInt8):∀ (ps:List (List UInt8)),ps ≠ []→(∀ p ∈ ps,c ∉ p)→pI c (joinL c ps)=ps
 | [],h,_=>absurd rfl h
 | [p],_,hn=>CB (hn p Γ)
 | p :: q :: r,_,hn=>by
  show pI c (p ++ c :: joinL c (q :: r))=_;rw [rU _ (hn p Γ),CG c (q :: r) (by simp) (fun x y=>hn x (Δ _ y))]
theorem index_one:∀ (l:List UInt8) (c:UInt8),(index l [c] = -1∧c ∉ l)∨∃ a b,l=a ++ c :: b∧c ∉ a∧index l [c]=(a.length:Int)
 | [],c=>by left; simp [index]
 | x :: xs,c=>by
  by_cases y:x=c
  ·right
   subst y;exact ⟨[],xs,rfl,by simp,by simp [index,List.isPrefixOf]⟩
  ·have J:List.isPrefixOf [c] (x :: xs)=false:=by simp [List.isPrefixOf]; exact fun e=>y e.symm
   rcases index_one xs c with ⟨h1,I⟩ | ⟨a,b,h1,I,U⟩
   ·left
    refine ⟨?_,fun hm=>?_⟩
    ·unfold index; rw [J,h1]; rfl
    ·rcases ύ.1 hm with e | hm
     ·exact y e.symm
     ·exact I hm
   ·right
    refine ⟨x :: a,b,by rw [h1]; rfl,fun hm=>?_,?_⟩
    ·rcases ύ.1 hm with e | hm
     ·exact y e.symm
     ·exact I hm
    ·unfold index
     rw [J,U]
     have:((a.length:Int) == -1)=false:=by
      rw [beq_eq_false_iff_ne]; omega
     rw [this];simp
theorem Yp (l:List UInt8) (c:UInt8):(c ∉ l∧cut l [c]=(l,[],false))∨∃ a b,l=a ++ c :: b∧c ∉ a∧cut l [c]=(a,b,true):=by
 rcases index_one l c with ⟨h1,y⟩ | ⟨a,b,h1,y,I⟩
 ·left
  exact ⟨y,by unfold cut; rw [h1]; rfl⟩
 ·right
  refine ⟨a,b,h1,y,?_⟩;unfold cut;rw [I,if_pos (by omega)];have e:((a.length:Int)).toNat=a.length:=by omega
  rw [e,h1];simp
end D
section
open Go.RowKit D
theorem xA (t:T) (w:World):
  Calls Tryz.prog 174 #[.agg #[.bool t.var,.string t.name]] w fun e w'=>
   e=.returned (.iface (if t.var then 241 else 245) (.string t.name))∧Below w.heap.size w w':=by
 obtain ⟨b,nm⟩:=t;cases b
 all_goals
  go_enter Tryz.func174,Tryz.ntmps174
  go_wp2;go_ret;exact ⟨rfl,ζ⟩
theorem yD (s:ByteArray) (w:World):
  Calls Tryz.prog 177 #[.string s] w fun e w'=>e=.returned (.string s)∧w=w':=by
 go_enter Tryz.func177,Tryz.ntmps177
 go_wp2;go_ret;exact ⟨rfl,rfl⟩
theorem uF (s:ByteArray) (w:World):
  Calls Tryz.prog 176 #[.string s] w fun e w'=>e=.returned (.string s)∧w=w':=by
 go_enter Tryz.func176,Tryz.ntmps176
 go_wp2;go_ret;exact ⟨rfl,rfl⟩
theorem Lc (s:ByteArray) (w:World):(Instr.typeAssert (.iface 245 (.string s)) 239 245 true).run Tryz.prog w=.ok (.tuple #[.string s,.bool true]) w:=by kernel_rfl
theorem UX (s:ByteArray) (w:World):(Instr.typeAssert (.iface 241 (.string s)) 239 245 true).run Tryz.prog w=.ok (.tuple #[.string ⟨#[]⟩,.bool false]) w:=by kernel_rfl
theorem Ey (s:ByteArray) (w:World):(Instr.typeAssert (.iface 241 (.string s)) 239 241 true).run Tryz.prog w=.ok (.tuple #[.string s,.bool true]) w:=by kernel_rfl
theorem OZ (t:T) (w:World) (I:t.name.size≤maxLen):
  Calls Tryz.prog 184 #[.agg #[.bool t.var,.string t.name]] w fun e w'=>e=.returned (.bool (jv t))∧Below w.heap.size w w':=by
 unfold jv;have J:=xA t;obtain ⟨b,nm⟩:=t;have U:=yD nm;have hv:=uF nm;have hn:=fun w=>Ce nm w I
 have ho:=fun w=>Eh nm w I
 cases b
 all_goals simp only [if_true,if_false,Bool.false_eq_true] at *
 all_goals
  go_enter Tryz.func184,Tryz.ntmps184
  have a1:=Lc;have a2:=UX;have a3:=Ey
  go_wp2_with (first
   | (go_at_call 174; refine (J _).mono ?_; rintro e w1 ⟨rfl,y⟩)
   | (go_at_call 177; refine (U _).mono ?_; rintro e w2 ⟨rfl,rfl⟩)
   | (go_at_call 176; refine (hv _).mono ?_; rintro e w2 ⟨rfl,rfl⟩)
   | (go_at_call 183; refine (hn _).mono ?_; rintro e w3 ⟨rfl,rfl⟩)
   | (go_at_call 236; refine (ho _).mono ?_; rintro e w3 ⟨rfl,rfl⟩))
  go_ret;exact ⟨rfl,(ζ).trans (y.mono (by simp))⟩
theorem O0 (t:T) (w:World) (hs:t.name.size≤maxLen):
  Calls Tryz.prog 261 #[.agg #[.bool t.var,.string t.name]] w fun e w'=>e=.returned (.bool (jv t))∧Below w.heap.size w w':=by
 unfold jv;obtain ⟨b,s⟩:=t;dsimp only at *;have hn:=fun w=>Cc s w hs
 cases b
 ·simp only [if_false,Bool.false_eq_true]
  go_enter Tryz.func261,Tryz.ntmps261
  go_wp2_with (go_at_call 262; refine (hn _).mono ?_; rintro e w3 ⟨rfl,rfl⟩)
  go_ret;exact ⟨rfl,ζ⟩
 ·simp only [if_true]
  have I:=fun w=>Cb (s.extract 1 s.size) w (by simp; omega)
  rw [tail_at] at I;unfold maxLen at hs;by_cases h0:0 < s.size
  ·have hc:tV s=big s[0]:=by unfold tV; rw [Kr s h0]; simp [h0]
   have a3:((s.size:Int) == 0)=false:=beq_eq_false_iff_ne.2 (by omega);have h1:(1:Int)≤(s.size:Int):=by omega
   unfold x9;rw [hc];by_cases hb:big s[0]=true
   ·have hB:=(DZ _).1 hb
    rw [hb];clear hb hc;by_cases y:s.size=1
    ·have J:pW s.data.toList.tail=true:=by
      rw [← tail_at,y]; simp [pW]
     have HL:=η J;have U:((s.size:Int) == 1)=true:=beq_iff_eq.2 (by omega);clear J;have HS:=η y;clear y
     go_enter Tryz.func261,Tryz.ntmps261
     go_wp2;go_ret;exact ⟨aH (by rw [HL.out,HS.out]; rfl),ζ⟩
    ·have U:((s.size:Int) == 1)=false:=beq_eq_false_iff_ne.2 (by omega)
     have a0:(s.extract 1 s.size).size=s.size - 1:=by simp
     have a1:(s.size - 1≤8∧s.size≤8)∨(s.size - 1=8∧¬ s.size≤8)∨¬ s.size - 1≤8:=by omega
     rw [a0] at I;have hp:decide (1≤s.size - 1)=true:=decide_eq_true (by omega);rw [hp] at I;clear hp a0;generalize pW s.data.toList.tail=b at *;by_cases h8:s.size≤8
     ·have h9:decide (s.size - 1≤8)=true:=decide_eq_true (by omega)
      rw [h9] at I;clear h9 a1;have a4:=decide_eq_true h8;cases b
      all_goals
       go_enter Tryz.func261,Tryz.ntmps261
       go_wp2_with (go_at_call 284; refine (I _).mono ?_; rintro e w3 ⟨rfl,rfl⟩)
       go_ret;exact ⟨aH (by first | (simp [h8]; done) | (simp; omega)),ζ⟩
     ·have a4:decide (s.size≤8)=false:=decide_eq_false h8
      clear a1;generalize decide (s.size - 1≤8)=b2 at *;cases b
      all_goals cases b2
      all_goals
       go_enter Tryz.func261,Tryz.ntmps261
       go_wp2_with (go_at_call 284; refine (I _).mono ?_; rintro e w3 ⟨rfl,rfl⟩)
       go_ret;exact ⟨aH (by first | (simp [h8]; done) | (simp; omega)),ζ⟩
   ·have hB:=mt (DZ _).2 hb
    have a2:big s[0]=false:=by simpa using hb
    rw [a2];clear hb a2 hc
    go_enter Tryz.func261,Tryz.ntmps261
    go_wp2
    all_goals first
     | (exfalso; omega)
     | (go_ret; exact ⟨aH (by simp),ζ⟩)
  ·have hc:x9 s=false:=by unfold x9 tV; simp [h0]
   have a3:((s.size:Int) == 0)=true:=beq_iff_eq.2 (by omega);rw [hc]
   go_enter Tryz.func261,Tryz.ntmps261
   go_wp2;go_ret;exact ⟨rfl,ζ⟩
theorem rV (a:A) (c0 c1:Value) (bs:List Nat) (w:World) (h:aJ w [c0,c1] a bs) (hn:Kv a≤16777216):
  Calls Tryz.prog 61 #[.agg #[c0,c1]] w fun e w'=>e=.returned (.string ⟨(yw a).toArray⟩)∧Below w.heap.size w w':=by
 obtain ⟨s,a1,a4,ht⟩:=h;simp only [List.cons.injEq,and_true] at a1;obtain ⟨rfl,rfl⟩:=a1;obtain ⟨Ad,cap,rfl,hl,hm⟩:=aj ht;have a9:=ay (τ hl hm);clear hm;have aa:a.name.size+a.args.length+jW a.args≤16777216:=hn;have ab:a.name.size≤16777216:=by omega
 go_enter Tryz.func61,Tryz.ntmps61
 go_wp2_with fail
 refine (Yh (w.heap.size+1) (w.heap.size+1) [] a.name _ (by simpa using Xk (w.alloc (.cells #[.string a.name,.slice Ad a.args.length cap] 33))) (by simp) (by omega) (by simp)).mono ?_;rintro e w1 ⟨rfl,h1⟩;have b1:=h1.below;have a5:=b1.size;simp at a5
 go_wp2_with fail
 refine (UJ (w.heap.size+1) (w.heap.size+1) _ 40 40 rfl _ h1.bld (by rw [List.nil_append,Y8]; omega) (by omega)).mono ?_;rintro e w2 ⟨rfl,h2⟩;have b2:=b1.trans h2.below;have ac:=h2.below.size;have d1:w2.cell? ⟨w.heap.size,1,none⟩=some (.slice Ad a.args.length cap):=(b2.cell (p:=⟨w.heap.size,1,none⟩) (by simp)).trans (by go_simp);have B2:Below w.heap.size w w2:=((Below.refl w.heap.size w).alloc ν _).trans ((((Below.refl w.heap.size _).alloc (by simp) _).trans (b2.mono (by omega))));have X2:=η h2.bld;clear h1 h2 b1 b2
 go_wp2_with fail
 go_loopw [13] (fun i wr=>∃ k:Nat,k≤a.args.length∧i=.int .i64 k∧WR (w.heap.size+1) (w.heap.size+1) (a.name.data.toList ++ [40] ++ mg (a.args.take k)) wr∧Below w.heap.size w wr∧w.heap.size+2≤wr.heap.size) (fun i _=>a.args.length - (intOf i).toNat)
 case atStart=>exact ⟨0,ε,rfl,by simpa [mg] using X2.out,B2,by omega⟩
 case round=>
  obtain ⟨k,hk,rfl,hb,hB,ae⟩:=hrel
  have hlen:(a.name.data.toList ++ [40] ++ mg (a.args.take k)).length≤67108864:=by
   have h2:=UF (a.args.take k);have y:=Cj a.args k;have h4:a.name.data.toList.length=a.name.size:=Array.length_toList;simp only [χ,List.length_cons,List.length_nil,List.length_take] at h2 ⊢;omega
  have HB:=η hb;clear hb;by_cases a0:k < a.args.length
  ·obtain ⟨b,o,rfl,_,c0,c1,a4⟩:=fJ (aQ.below ht hB) a0
   have h2:a.args[k].name.size≤16777216:=by
    have:=Kw a.args k a0;have:=Cj a.args (k+1);omega
   have HT:=η (OO a.args k a0);clear ht;generalize a.args[k]=t at *;by_cases a2:k=0
   ·have HK:=η a2
    have a6:¬ (0:Int) < (k:Int):=by omega
    clear a2
    go_wp2_with fail
    have I:Below wr.heap.size wr (wr.alloc (.cells #[.bool t.var,.string t.name] 91)):=ζ;refine (Yh (w.heap.size+1) (w.heap.size+1) _ t.name _ (HB.out.below I) (by omega) (by omega) (by have:=I.size; omega)).mono ?_;rintro e w3 ⟨rfl,y⟩;have B3:Below w.heap.size w w3:=(hB.trans (I.mono hB.size)).trans (y.below.mono (by omega));have S3:w.heap.size+2≤w3.heap.size:=by have:=y.below.size; have:=I.size; omega
    have H3:=η y.bld;clear y I;go_wp2;go_roundw
    case rel=>exact ⟨k+1,by omega,by go_num,by have:=H3.out; rw [HT.out,HK.out] at *; simpa [mg] using this,B3,S3⟩
    case measure=>simp [intOf]; omega
   ·have a6:(0:Int) < (k:Int):=by omega
    go_wp2_with fail
    have I:Below wr.heap.size wr (wr.alloc (.cells #[.bool t.var,.string t.name] 91)):=ζ;refine (UJ (w.heap.size+1) (w.heap.size+1) _ 44 44 rfl _ (HB.out.below I) (by omega) (by have:=I.size; omega)).mono ?_;rintro e U ⟨rfl,J⟩;have a3:=J.block (ω wr (.cells #[.bool t.var,.string t.name] 91)) (by omega) (by decide);have x1:U.cell? ⟨wr.heap.size,1,none⟩=some (.string t.name):=by rw [cell_of_row U _ 1 _ _ _ a3]; rfl
    have a7:Below w.heap.size w U:=(hB.trans (I.mono hB.size)).trans (J.below.mono (by omega));have af:w.heap.size+2≤U.heap.size:=by have:=J.below.size; have:=I.size; omega
    have a8:=η J.bld;clear J I a3
    go_wp2_with fail
    refine (Yh (w.heap.size+1) (w.heap.size+1) _ t.name _ a8.out (by rw [χ,List.length_singleton]; omega) (by omega) (by omega)).mono ?_;rintro e w3 ⟨rfl,y⟩;have B3:Below w.heap.size w w3:=a7.trans (y.below.mono (by omega));have S3:w.heap.size+2≤w3.heap.size:=by have:=y.below.size; omega
    have H3:=η y.bld;clear y x1;go_wp2;go_roundw
    case rel=>exact ⟨k+1,by omega,by go_num,by have:=H3.out; rw [HT.out,if_neg (by omega)]; simpa using this,B3,S3⟩
    case measure=>simp [intOf]; omega
  ·have he:=η (show k=a.args.length by omega)
   go_wp2_with fail
   refine (UJ (w.heap.size+1) (w.heap.size+1) _ 41 41 rfl _ HB.out (by omega) (by omega)).mono ?_;rintro e w3 ⟨rfl,y⟩
   go_wp2_with fail
   refine (Y9 (w.heap.size+1) (w.heap.size+1) _ _ y.bld (by have:=y.below.size; omega)).mono ?_;rintro e w4 ⟨rfl,h4⟩;go_wp2;go_ret;exact ⟨Xa (by rw [he.out,ϕ ν]; simp [yw]),(hB.trans (y.below.mono (by omega))).trans (h4.below.mono (by omega))⟩
theorem Jk (a:A) (c0 c1:Value) (bs:List Nat) (w:World) (h:aJ w [c0,c1] a bs) (hn:a.args.length≤16777216):
  Calls Tryz.prog 104 #[.agg #[c0,c1]] w (Uu aJ a w.heap.size w):=by
 have ht:=dM h;have a4:a.name.size≤maxLen:=by obtain ⟨_,_,hn,_⟩:=h; exact hn
 obtain ⟨Ad,cap,rfl,rfl⟩:=bG h;obtain ⟨i0,hi,a5,a6,a7⟩:=info_parts G8;by_cases h0:a.args.length=0
 ·have hl:((a.args.length:Int) == 0)=true:=beq_iff_eq.2 (by omega)
  have hx:a.args = []:=List.length_eq_zero_iff.1 h0;have HX:=η hx;clear h ht h0 hx hi a5 a6 a7
  go_enter Tryz.func104,Tryz.ntmps104
  go_wp2;refine bodyPost_ret (v:=.agg #[.string a.name,.slice none 0 0]) (by simp [results,Tryz.results104,go_sem]) rfl ⟨?_,_,[],rfl,⟨_,rfl,a4,by rw [HX.out]; exact Ei _⟩,New.nil _ _⟩
  repeat (first | exact ϑ | (refine Below.setCell ?_ (by first | (simp; done) | (simp; omega)) _) | (refine Below.alloc ?_ (by first | (simp; done) | (simp; omega)) _))
 ·have hl:((a.args.length:Int) == 0)=false:=beq_eq_false_iff_ne.2 (by omega)
  obtain ⟨L,b2,I,_,U⟩:=rH lF (by omega) ht;obtain ⟨b,o,rfl,ac,J⟩:=U (by intro e; rw [e] at h0; exact h0 rfl);have a8:=aQ.lt ht b ac;have a9:=I.len;have a0:=I.one;have HR:=η I;have HL:=η a9;have HC:=η J;have HO:=η a0;clear h ht h0 I a9 a0 J U
  go_enter Tryz.func104,Tryz.ntmps104
  go_wp2_with (first
   | (at_make; refine wpList_make_full _ rfl _ _ _ rfl (w.heap.size+2) 91 i0 _ 2 Tryz.underlying31 hi a5 a6 _ _ _ _ a.args.length rfl rfl rfl rfl (by rw [a7]; omega) (by unfold maxLen; omega) (by simp) ?_; intro w1 a1 a2; have hW:=ϑ.grown a2 ν (fun _ e=>by cases e); have x0:w1.cell? ⟨w.heap.size,0,none⟩=some (.string a.name):=ξ hW (by go_simp); have x1:w1.cell? ⟨w.heap.size,1,none⟩=some (.slice (some ⟨b,o,none⟩) a.args.length cap):=ξ hW (by go_simp); have r0:w1.cell? ⟨w.heap.size+1,0,none⟩=some (.string ⟨#[]⟩):=ξ hW (by go_simp); have r1:w1.cell? ⟨w.heap.size+1,1,none⟩=some (.slice none 0 0):=ξ hW (by go_simp); have f0:w1.frozen? ⟨w.heap.size+1,0,none⟩=false:=(hW.frozen (p:=⟨w.heap.size+1,0,none⟩) (by simp)).trans (by go_simp); have f1:w1.frozen? ⟨w.heap.size+1,1,none⟩=false:=(hW.frozen (p:=⟨w.heap.size+1,1,none⟩) (by simp)).trans (by go_simp); have B1:Below w.heap.size w w1:=((ζ).alloc (by simp) _).trans (hW.mono (by simp; omega)); simp only [World.size_alloc] at a1)
   | ((with_reducible refine Gf rfl (.tmp 15) (.tmp 17) _ _ rfl (w.heap.size+2) 91 2 a.args.length a.args.length Tryz.underlying31 UC _ _ a1 ⟨b,o,none⟩ cap L HL.out ?_ HO.out ?_ ?_ ?_); exact (fun j v hj=>by rw [addr_add]; exact (B1.cell (p:=⟨b,o+j,none⟩) a8).trans (HC.out j v hj)); rfl; rfl; intro w2 a3 y; have y0:=y.cell x0 (by simp; omega); have s0:=y.cell r0 (by simp); have s1:=y.cell r1 (by simp); have g0:=(y.frozen_far ⟨w.heap.size+1,0,none⟩ (lt_of_cell r0) (by simp)).trans f0; have g1:=(y.frozen_far ⟨w.heap.size+1,1,none⟩ (lt_of_cell r1) (by simp)).trans f1))
  obtain ⟨b3,ae,aa⟩:=G9 HR.out a3;have ab:∀ c ∈ b3,c ≠ w.heap.size+1:=fun c hc e=>by have:=(aa.own c hc).1; omega
  have B2:Below w.heap.size w w2:=B1.grown y B1.size (fun k e=>by cases e; omega);refine bodyPost_ret (v:=.agg #[.string a.name,.slice (some ⟨w.heap.size+1+1,0,none⟩) a.args.length a.args.length]) (by simp [results,Tryz.results104,go_sem,s0,s1]) rfl ⟨(B2.setCell (by simp) _).setCell (by simp) _,_,b3,rfl,⟨_,rfl,a4,aQ.keep ae fun c hc=>?_⟩,(aa.mono (by omega)).keep fun c hc=>?_⟩
  all_goals rw [π _ _ _ _ (ab c hc),π _ _ _ _ (ab c hc)]
def D.Rz (w:World) (y:Nat):Prop:=∀ o u,w.cell? ⟨y,o,none⟩=some u→(∀ s,u ≠ .string s)∧∀ b,u ≠ .bool b
theorem kQ.Gh {g p:Nat} {w:World} (h:kQ g p w):Rz w g:=by
 obtain ⟨J,n,cap,I,_,_⟩:=h;intro o u y;rw [ai I] at y
 match o with
 | 0=>simp at y; subst y; exact ⟨fun s=>by simp,fun b=>by simp⟩
 | 1=>simp at y; subst y; exact ⟨fun s=>by simp,fun b=>by simp⟩
 | o+2=>simp at y
theorem D.rX {w:World} {n0:Nat} (ha:Rz w n0) {v:Value} {U:List T} {bs:List Nat} (h:gG w [v] U bs):n0 ∉ bs:=by
 intro hb;obtain ⟨Ad,cap,a4,hl,hm,g0,g1⟩:=h;by_cases I:U = []
 ·rw [g0 I] at hb; simp at hb
 ·obtain ⟨b,o,rfl,F,G,rfl,hF⟩:=g1 I
  rcases ύ.1 hb with rfl | hb
  ·match U,I with
   | y :: r,_=>
    obtain ⟨a1,a2,a3⟩:=hF 0 y rfl;obtain ⟨e,_,_⟩:=a3;have:=a2 0 (.bool y.var) (by rw [e]; rfl);exact (ha _ _ this).2 _ rfl
  ·obtain ⟨k,hk,J⟩:=List.mem_flatMap.1 hb
   have a0:=List.mem_range.1 hk;obtain ⟨a1,a2,a3⟩:=hF k U[k] (Ψ a0);obtain ⟨_,_,e⟩:=a3;rw [e] at J; simp at J
theorem D.Jl {w:World} {y:Nat} (ha:Rz w y) {L:List Value} {xs:List Pt} {bs:List Nat} (h:aT 3 qF w L xs bs):y ∉ bs:=by
 obtain ⟨h1,h2,G,rfl,I⟩:=h;intro hb;obtain ⟨j,J,hc⟩:=List.mem_flatMap.1 hb;obtain ⟨s,_,_,U⟩:=I j (List.mem_range.1 J);exact rX ha U hc
end
section
open Go.RowKit D
attribute [local go_sem ↓] Go.wp_at_zero Go.wp_at_succ
theorem O1 (s:ByteArray) (w:World):Calls Tryz.prog 228 #[.string s] w fun e w'=>e=.returned (.bool false)∧Below w.heap.size w w':=by
 have y:=η (Below.refl w.heap.size w)
 go_enter Tryz.func228,Tryz.ntmps228
 go_wp2;go_ret;exact ⟨by simp,y.out⟩
theorem O3 (s:ByteArray) (w:World):Calls Tryz.prog 271 #[.string s] w fun e w'=>e=.returned (.bool false)∧Below w.heap.size w w':=by
 have y:=η (Below.refl w.heap.size w)
 go_enter Tryz.func271,Tryz.ntmps271
 go_wp2;go_ret;exact ⟨by simp,y.out⟩
theorem Ld (s t:ByteArray) (w:World):Calls Tryz.prog 227 #[.string s,.string t] w fun e w'=>e=.returned (.bool (decide (gJ s t < 0)))∧Below w.heap.size w w':=by
 have y:=fun s w=>O3 s w
 have I:=η (vJ s t)
 go_enter Tryz.func227,Tryz.ntmps227
 go_wp2_with fail
 refine (y _ _).mono ?_;rintro e U ⟨rfl,hB⟩;have J:=η hB;clear y hB;go_wp2;go_ret;exact ⟨by simp [I.out],J.out⟩
theorem D.UY {xs:List ByteArray} (h:oZ xs) {x:ByteArray} (hx:x ∈ xs) (m:Nat) (hm:m < xs.length):gJ xs[m] x < 0 ↔ m < xs.idxOf x:=by
 have y:xs.idxOf x < xs.length:=List.idxOf_lt_length_of_mem hx;have he:xs[xs.idxOf x]=x:=List.getElem_idxOf y;have U:=List.pairwise_iff_getElem.1 h;constructor
 ·intro hc
  rcases Nat.lt_trichotomy m (xs.idxOf x) with h1 | h1 | h1
  ·exact h1
  ·exfalso
   have:xs[m]=x:=by simp only [h1,he]
   rw [this,iL.refl] at hc; omega
  ·have I:=U _ _ y hm h1
   rw [he] at I;have h3:=iL.anti xs[m] x;omega
 ·intro J
  have I:=U _ _ hm y J
  rwa [he] at I
theorem Lh (xs:List ByteArray) (x:ByteArray) (v:Value) (bs:List Nat) (w:World) (h:iF w [v] xs bs) (hs:oZ xs) (hx:x ∈ xs) (a9:xs.length≤1000000):
  Calls Tryz.prog 175 #[v,.string x] w fun e w'=>e=.returned (.tuple #[.int .i64 (xs.idxOf x:Nat),.bool true])∧Below w.heap.size w w':=by
 obtain ⟨Ad,cap,rfl,hl,hm⟩:=aj h;have aa:=ay (τ hl hm);have HN:=fun s w=>O1 s w
 have HL:=fun s t w=>Ld s t w
 have a1:xs.idxOf x < xs.length:=List.idxOf_lt_length_of_mem hx;have HX:=η (fun m hm=>UY hs hx m hm);have HE:Hid (∀ h:xs.idxOf x < xs.length,xs[xs.idxOf x]=x):=η (fun h=>List.getElem_idxOf h);clear hl hm hs hx;obtain ⟨i,hi⟩:∃ i,i=xs.idxOf x:=⟨_,rfl⟩;rw [← hi] at a1 HX HE ⊢;clear hi;have HB:=η (Below.refl w.heap.size w)
 go_enter Tryz.func175,Tryz.ntmps175
 go_wp2
 go_loopw [7,8] (fun p q wr=>∃ k n:Nat,k≤i∧i≤n∧n≤xs.length∧p=.int .i64 k∧q=.int .i64 n∧Below w.heap.size w wr) (fun p q _=>(intOf q).toNat - (intOf p).toNat)
 case atStart=>exact ⟨0,xs.length,ε,by omega,ν,rfl,rfl,HB.out⟩
 case round=>
  obtain ⟨k,n,hk,a5,hn,rfl,rfl,hb⟩:=hrel;clear HB;by_cases ab:k < n
  ·obtain ⟨m,hm⟩:∃ m,m=(k+n) / 2:=⟨_,rfl⟩
   have ac:k≤m:=by omega
   have ae:m < n:=by omega
   have a4:m < xs.length:=by omega
   have hq:((k:Int)+(n:Int)) / 2=(m:Int):=by omega
   have a6:(0:Int)≤(m:Int):=by omega
   have a7:(m:Int) < (xs.length:Int):=by omega
   clear hm;have U:=η (HX.out m a4);obtain ⟨b,o,rfl,_,c0,_⟩:=nD (bP.below h hb) a4;clear h HX HE;generalize xs[m]=y at *;have a0:=HL y x;have I:=η hb;clear HL hb HN;by_cases hc:gJ y x < 0
   ·have hd:decide (gJ y x < 0)=true:=decide_eq_true hc
    have a2:=η (U.out.1 hc);clear U hc
    go_wp2_with fail
    refine (a0 _).mono ?_;rintro e w2 ⟨rfl,J⟩;have a3:=η (I.out.trans (J.mono I.out.size));clear a0 J;go_wp2;go_roundw
    case rel=>exact ⟨m+1,n,a2.out,a5,hn,by go_num,rfl,a3.out⟩
    case measure=>simp [intOf]; omega
   ·have hd:decide (gJ y x < 0)=false:=decide_eq_false hc
    have a2:Hid (i≤m):=η (by have:=mt U.out.2 hc; omega);clear U hc
    go_wp2_with fail
    refine (a0 _).mono ?_;rintro e w2 ⟨rfl,J⟩;have a3:=η (I.out.trans (J.mono I.out.size));clear a0 J;go_wp2;go_roundw
    case rel=>exact ⟨k,m,hk,a2.out,by omega,rfl,rfl,a3.out⟩
    case measure=>simp [intOf]; omega
  ·obtain rfl:k=i:=by omega
   have a6:(0:Int)≤(k:Int):=by omega
   have a7:(k:Int) < (xs.length:Int):=by omega
   have a8:¬ (k:Int) < (n:Int):=by omega
   obtain ⟨b,o,rfl,_,c0,_⟩:=nD (bP.below h hb) a1;rw [HE.out a1] at c0;have I:=η hb;clear h HX HE HL HN hb;go_wp2;go_ret2;exact ⟨rfl,I.out⟩
theorem D.RD {b:Bd} {n:ByteArray} {k:Nat} (h:k < b.length):gI (b.drop k) n=if b[k].1=n then some b[k].2 else gI (b.drop (k+1)) n:=by
 rw [List.drop_eq_getElem_cons h,gI]
theorem D.toList_eq {a b:ByteArray}:(a.toList == b.toList)=decide (a=b):=by
 rw [ByteArray.toList_eq,ByteArray.toList_eq,Bool.eq_iff_iff];simp only [beq_iff_eq,decide_eq_true_eq];exact ⟨fun h=>ByteArray.ext (Array.toList_inj.1 h),fun h=>by rw [h]⟩
theorem get_any (b:Bd) (s:ByteArray) (c0 c1:Value) (bs:List Nat) (w:World) (h:jE w [c0,c1] b bs):
  Calls Tryz.prog 225 #[.agg #[c0,c1],.string s] w fun e w'=>e=.returned (.tuple #[.string (jB b s),.bool (gI b s).isSome])∧Below w.heap.size w w':=by
 obtain ⟨x0,x1,b1,b2,a0,rfl,h1,h2⟩:=h;simp only [List.cons.injEq,and_true] at a0;obtain ⟨rfl,rfl⟩:=a0;obtain ⟨A1,p1,rfl,a1,a2⟩:=aj h1;obtain ⟨A2,p2,rfl,a4,a5⟩:=aj h2;have J:(b.map (·.1)).length=b.length:=List.length_map ..;have hlen2:(b.map (·.2)).length=b.length:=List.length_map ..;rw [J] at a1 h1 ⊢;rw [hlen2] at a4 h2 ⊢;have hmx:=ay (τ a1 a2);clear a2 a5
 go_enter Tryz.func225,Tryz.ntmps225
 go_wp2
 go_loopw [6] (fun i wr=>∃ k:Nat,k≤b.length∧i=.int .i64 k∧gI b s=gI (b.drop k) s∧Below w.heap.size w wr∧wr.cell? ⟨w.heap.size,0,none⟩=some (.slice A1 b.length p1)∧wr.cell? ⟨w.heap.size,1,none⟩=some (.slice A2 b.length p2)) (fun i _=>b.length - (intOf i).toNat)
 case atStart=>exact ⟨0,ε,rfl,rfl,ζ,by go_simp,by go_simp⟩
 case round=>
  obtain ⟨k,hk,rfl,hg,hb,y0,y1⟩:=hrel;by_cases I:k < b.length
  ·obtain ⟨d1,o1,rfl,_,e1,_⟩:=nD (bP.below h1 hb) (k:=k) (by simpa using I)
   obtain ⟨d2,o2,rfl,_,e2,_⟩:=nD (bP.below h2 hb) (k:=k) (by simpa using I);rw [List.getElem_map] at e1 e2;have HG:=η (hg.trans (RD I));have a3:(k:Int) < (b.length:Int):=by omega
   have a6:(0:Int)≤(k:Int):=by omega
   clear h1 h2 hg;generalize b[k].1=x at *;generalize b[k].2=y at *;cases hs:(x.toList == s.toList)
   ·have U:=η (show gI b s=gI (b.drop (k+1)) s by
     rw [HG.out,if_neg];rw [toList_eq] at hs
     exact of_decide_eq_false hs)
    clear HG;go_wp2;go_roundw
    case rel=>exact ⟨k+1,I,by go_num,U.out,hb,y0,y1⟩
    case measure=>simp [intOf]; omega
   ·have U:=η (show gI b s=some y by
     rw [HG.out,if_pos];rw [toList_eq] at hs
     exact of_decide_eq_true hs)
    have HV:Hid (jB b s=y):=η (by unfold jB; rw [U.out]; rfl);clear HG;go_wp2;go_ret2;exact ⟨by rw [HV.out,U.out]; rfl,hb⟩
  ·have he:k=b.length:=by omega
   have a3:¬ (k:Int) < (b.length:Int):=by omega
   have U:=η (show gI b s=none by rw [hg,he,List.drop_eq_nil_of_le ν]; rfl);have HV:Hid (jB b s=⟨#[]⟩):=η (by unfold jB; rw [U.out]; rfl);clear hg h1 h2;go_wp2;go_ret2;exact ⟨by rw [HV.out,U.out]; rfl,hb⟩
end
end Go.Proofs.YtkjinanbccloeaaGreatDoor
