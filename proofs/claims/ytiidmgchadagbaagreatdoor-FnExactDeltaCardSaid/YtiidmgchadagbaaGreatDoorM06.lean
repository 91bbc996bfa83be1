/- Of the proof of FnExactDelta: Open, SplP, Term, Txt, CopyA, Srch, GetB. -/
import Derived.Lib.SplitLaws
import Derived.Test.YtiidmgchadagbaaGreatDoorM03
import Derived.Test.YtiidmgchadagbaaGreatDoorM04
import Derived.Test.YtiidmgchadagbaaGreatDoorM05
set_option linter.unusedVariables false
set_option maxHeartbeats 2000000
set_option maxRecDepth 100000
namespace Go.Proofs.YtiidmgchadagbaaGreatDoor.D
open Go.RowKit Go.Deep Go.ChangeShapes Go.WideShapes
def Opens {α:Type} (P:Program) (e:TypeId) (R:Rel α):Prop:=
 ∀ (H:Type) (enc:TypeId × Value→H) (w:World) (spare:Nat→Bool) (held:Bool) (fuel:Nat) (cs:List Value) (y:DataW H × List MemPlace),
  DataW.trod enc P w 0 spare held fuel e cs=some y→∃ x bs,R w cs x bs
theorem pq {α:Type} {P:Program} {t e:TypeId} {n:Nat} {R:Rel α} (ht:P.underlying t=some (.slice e)) (hC:P.cellsOf e=n) (hn:0 < n) (hR:Opens P e R):Opens P t (iR n R):=by
 intro H enc w spare held fuel cs y h
 rcases open_slice ht h with ⟨rfl,_⟩ | ⟨a,len,cap,m,n',Dd,Pl,rfl,_,hl,hm,hmm,_,hi⟩
 ·exact ⟨[],[],none,0,rfl,Nat.le_refl _,by unfold maxLen; omega,fun _=>rfl,fun h=>absurd rfl h⟩
 ·have hlm:len≤m:=by rw [hmm]; split <;> omega
  by_cases h0:len=0
  ·subst h0
   exact ⟨[],[],some a,cap,rfl,hl,hm,fun _=>rfl,fun h=>absurd rfl h⟩
  ·have hex:∀ k,k < len→∃ p:List Value × α × List Nat,p.1.length=n∧(∀ j v,p.1[j]? = some v→w.cell? (a.add (k * n+j))=some v)∧R w p.1 p.2.1 p.2.2:=by
    intro k hk;obtain ⟨cs',hc,htr⟩:=hi k (by omega);rw [hC] at hc;obtain ⟨_,hlen,hcell⟩:=World.cells?_some hc;obtain ⟨x,bs,hx⟩:=hR H enc w spare held n' cs' _ htr;refine ⟨(cs',x,bs),hlen,fun j v hv=>?_,hx⟩
    have hjn:j < n:=by
     have:=(List.getElem?_eq_some_iff.1 hv).1;dsimp only at this;omega
    have:=hcell j hjn;rw [add_add] at this;rw [this]; exact hv
   obtain ⟨p0,_⟩:=hex 0 (by omega);haveI:Inhabited (List Value × α × List Nat):=⟨p0⟩;obtain ⟨f,hf⟩:=choose_lt hex
   have hsp:a.spot=none:=by
    obtain ⟨q1,q2,_⟩:=hf 0 (by omega);obtain ⟨v,hv⟩:∃ v,(f 0).1[0]? = some v:=⟨_,List.getElem?_eq_getElem (by omega)⟩;have h1:=q2 0 v hv;have h2:a.add (0 * n+0)=a:=by simp [Addr.add]
    rw [h2] at h1;exact World.cell?_spot h1
   obtain ⟨b,o,sp⟩:=a;dsimp only at hsp;subst hsp
   have hadd:∀ i,(⟨b,o,none⟩:Addr).add i=⟨b,o+i,none⟩:=by
    intro i; unfold Addr.add; split <;> simp_all
   have hlx:((List.range len).map fun k=>(f k).2.1).length=len:=by simp
   refine ⟨(List.range len).map fun k=>(f k).2.1,b :: (List.range len).flatMap fun k=>(f k).2.2,some ⟨b,o,none⟩,cap,by rw [hlx],by rw [hlx]; exact hl,hm,fun h=>?_,fun _=>⟨b,o,rfl,fun k=>(f k).1,fun k=>(f k).2.2,by rw [hlx],fun k x hx=>?_⟩⟩
   ·have:=congrArg List.length h; rw [hlx] at this; exact absurd this h0
   ·obtain ⟨hk,rfl⟩:=List.getElem?_eq_some_iff.1 hx
    rw [hlx] at hk;obtain ⟨q1,q2,q3⟩:=hf k hk;refine ⟨q1,fun j v hv=>?_,?_⟩
    ·rw [← hadd]; exact q2 j v hv
    ·simp only [List.getElem_map,List.getElem_range]; exact q3
theorem VW {P:Program} {t:TypeId} (ht:P.underlying t=some (.int .u8)):Opens P t WG:=by
 intro H enc w spare held fuel cs y h;obtain ⟨n,rfl,_,hw⟩:=DataW.trod_int ht h;simp only [Lit.wf,IntKind.min,IntKind.max,IntKind.signed,IntKind.bits] at hw;simp at hw;exact ⟨UInt8.ofNat n.toNat,[],by simp; omega,rfl⟩
section
variable {P:Program}
theorem Me {t:TypeId} {f0 f1:Field} (ht:P.underlying t=some (.struct #[f0,f1])) (hC:P.cellsOf t=2) (h0:P.underlying f0.type=some .bool) (h1:P.underlying f1.type=some .string)
  (c0:P.cellsOf f0.type=1) (c1:P.cellsOf f1.type=1) (o0:f0.offset=0) (o1:f1.offset=1):Opens P t nD:=by
 intro H enc w spare held fuel cs y h;obtain ⟨y0,y1,n,rfl,hl,t0,t1⟩:=trod_struct2 ht h;rw [hC] at hl
 match cs,hl with
 | [a,b],_=>
  rw [c0,o0] at t0;rw [c1,o1] at t1;obtain ⟨x0,e0,_⟩:=DataW.trod_bool h0 t0;obtain ⟨x1,e1,_,hs⟩:=DataW.trod_string h1 t1;simp at e0 e1;subst e0 e1;exact ⟨⟨x0,x1⟩,[],rfl,hs,rfl⟩
theorem MC {t:TypeId} {f0 f1:Field} (ht:P.underlying t=some (.struct #[f0,f1])) (hC:P.cellsOf t=2) (h0:P.underlying f0.type=some .string) (h1:Opens P f1.type eY)
  (c0:P.cellsOf f0.type=1) (c1:P.cellsOf f1.type=1) (o0:f0.offset=0) (o1:f1.offset=1):Opens P t aU:=by
 intro H enc w spare held fuel cs y h;obtain ⟨y0,y1,n,rfl,hl,t0,t1⟩:=trod_struct2 ht h;rw [hC] at hl
 match cs,hl with
 | [a,b],_=>
  rw [c0,o0] at t0;rw [c1,o1] at t1;obtain ⟨x0,e0,_,hs⟩:=DataW.trod_string h0 t0;obtain ⟨x1,bs,hx⟩:=h1 H enc w spare held n _ _ t1;simp at e0;subst e0;exact ⟨⟨x0,x1⟩,bs,b,rfl,hs,by simpa using hx⟩
theorem MF {t:TypeId} {f0 f1:Field} (ht:P.underlying t=some (.struct #[f0,f1])) (hC:P.cellsOf t=3) (h0:P.underlying f0.type=some .bool) (h1:Opens P f1.type aU)
  (c0:P.cellsOf f0.type=1) (c1:P.cellsOf f1.type=2) (o0:f0.offset=0) (o1:f1.offset=1):Opens P t oN:=by
 intro H enc w spare held fuel cs y h;obtain ⟨y0,y1,n,rfl,hl,t0,t1⟩:=trod_struct2 ht h;rw [hC] at hl
 match cs,hl with
 | [a,b,c],_=>
  rw [c0,o0] at t0;rw [c1,o1] at t1;obtain ⟨x0,e0,_⟩:=DataW.trod_bool h0 t0;obtain ⟨x1,bs,s,hcs,hs,hx⟩:=h1 H enc w spare held n _ _ t1;simp at e0 hcs;obtain ⟨rfl,rfl⟩:=hcs;subst e0;exact ⟨⟨x0,x1⟩,bs,c,rfl,hs,hx⟩
theorem MG {t:TypeId} {f0 f1:Field} (ht:P.underlying t=some (.struct #[f0,f1])) (hC:P.cellsOf t=3) (h0:Opens P f0.type aU) (h1:Opens P f1.type gm)
  (c0:P.cellsOf f0.type=2) (c1:P.cellsOf f1.type=1) (o0:f0.offset=0) (o1:f1.offset=2):Opens P t jK:=by
 intro H enc w spare held fuel cs y h;obtain ⟨y0,y1,n,rfl,hl,t0,t1⟩:=trod_struct2 ht h;rw [hC] at hl
 match cs,hl with
 | [a,b,c],_=>
  rw [c0,o0] at t0;rw [c1,o1] at t1;obtain ⟨x0,bs1,s,hcs,hs,hx0⟩:=h0 H enc w spare held n _ _ t0;obtain ⟨x1,bs2,hx1⟩:=h1 H enc w spare held n _ _ t1;simp at hcs;obtain ⟨rfl,rfl⟩:=hcs;exact ⟨⟨x0,x1⟩,bs1 ++ bs2,b,c,bs1,bs2,rfl,hs,rfl,hx0,by simpa using hx1⟩
theorem Gp {t:TypeId} {f0 f1:Field} (ht:P.underlying t=some (.struct #[f0,f1])) (hC:P.cellsOf t=2) (h0:Opens P f0.type aI) (h1:Opens P f1.type aI)
  (c0:P.cellsOf f0.type=1) (c1:P.cellsOf f1.type=1) (o0:f0.offset=0) (o1:f1.offset=1):Opens P t dU:=by
 intro H enc w spare held fuel cs y h;obtain ⟨y0,y1,n,rfl,hl,t0,t1⟩:=trod_struct2 ht h;rw [hC] at hl
 match cs,hl with
 | [a,b],_=>
  rw [c0,o0] at t0;rw [c1,o1] at t1;obtain ⟨x0,bs1,hx0⟩:=h0 H enc w spare held n _ _ t0;obtain ⟨x1,bs2,hx1⟩:=h1 H enc w spare held n _ _ t1;exact ⟨⟨x0,x1⟩,bs1 ++ bs2,a,b,bs1,bs2,rfl,rfl,by simpa using hx0,by simpa using hx1⟩
end
end Go.Proofs.YtiidmgchadagbaaGreatDoor.D
namespace Go.Proofs.YtiidmgchadagbaaGreatDoor.D
open Go.RowKit Go.Lib
def oD (c:UInt8):List UInt8→List (List UInt8)
 | []=>[[]]
 | x :: xs=>if x=c then [] :: oD c xs else match oD c xs with
  | []=>[[x]]
  | p :: ps=>(x :: p) :: ps
def toB (l:List UInt8):ByteArray:=⟨l.toArray⟩
theorem MI (s:ByteArray):toB s.data.toList=s:=by obtain ⟨⟨l⟩⟩:=s; rfl
theorem zB {c:UInt8}:∀ {l:List UInt8},c ∉ l→oD c l = [l]
 | [],_=>rfl
 | x :: xs,h=>by
  have hx:x ≠ c:=fun e=>h (e ▸ List.mem_cons_self ..)
  have ih:=zB (l:=xs) (fun hm=>h (List.mem_cons_of_mem _ hm));unfold oD;rw [if_neg hx,ih]
theorem qR {c:UInt8}:∀ {a:List UInt8} (b:List UInt8),c ∉ a→oD c (a ++ c :: b)=a :: oD c b
 | [],b,_=>by rw [List.nil_append]; conv=>lhs; unfold oD; rw [if_pos rfl]
 | x :: xs,b,h=>by
  have hx:x ≠ c:=fun e=>h (e ▸ List.mem_cons_self ..)
  have ih:=qR (a:=xs) b (fun hm=>h (List.mem_cons_of_mem _ hm));rw [List.cons_append]
  conv=>lhs; unfold oD
  rw [if_neg hx,ih]
def joinL (c:UInt8):List (List UInt8)→List UInt8
 | []=>[]
 | [p]=>p
 | p :: q :: r=>p ++ c :: joinL c (q :: r)
theorem zC (c:UInt8):∀ (ps:List (List UInt8)),ps ≠ []→(∀ p ∈ ps,c ∉ p)→oD c (joinL c ps)=ps
 | [],h,_=>absurd rfl h
 | [p],_,hn=>zB (hn p (List.mem_cons_self ..))
 | p :: q :: r,_,hn=>by
  show oD c (p ++ c :: joinL c (q :: r))=_;rw [qR _ (hn p (List.mem_cons_self ..)),zC c (q :: r) (by simp) (fun x hx=>hn x (List.mem_cons_of_mem _ hx))]
theorem index_one:∀ (l:List UInt8) (c:UInt8),(index l [c] = -1∧c ∉ l)∨∃ a b,l=a ++ c :: b∧c ∉ a∧index l [c]=(a.length:Int)
 | [],c=>by left; simp [index]
 | x :: xs,c=>by
  by_cases hx:x=c
  ·right
   subst hx;exact ⟨[],xs,rfl,by simp,by simp [index,List.isPrefixOf]⟩
  ·have hp:List.isPrefixOf [c] (x :: xs)=false:=by simp [List.isPrefixOf]; exact fun e=>hx e.symm
   rcases index_one xs c with ⟨h1,h2⟩ | ⟨a,b,h1,h2,h3⟩
   ·left
    refine ⟨?_,fun hm=>?_⟩
    ·unfold index; rw [hp,h1]; rfl
    ·rcases List.mem_cons.1 hm with e | hm
     ·exact hx e.symm
     ·exact h2 hm
   ·right
    refine ⟨x :: a,b,by rw [h1]; rfl,fun hm=>?_,?_⟩
    ·rcases List.mem_cons.1 hm with e | hm
     ·exact hx e.symm
     ·exact h2 hm
    ·unfold index
     rw [hp,h3]
     have:((a.length:Int) == -1)=false:=by
      rw [beq_eq_false_iff_ne]; omega
     rw [this];simp
theorem VX (l:List UInt8) (c:UInt8):(c ∉ l∧cut l [c]=(l,[],false))∨∃ a b,l=a ++ c :: b∧c ∉ a∧cut l [c]=(a,b,true):=by
 rcases index_one l c with ⟨h1,h2⟩ | ⟨a,b,h1,h2,h3⟩
 ·left
  exact ⟨h2,by unfold cut; rw [h1]; rfl⟩
 ·right
  refine ⟨a,b,h1,h2,?_⟩;unfold cut;rw [h3,if_pos (by omega)];have e:((a.length:Int)).toNat=a.length:=by omega
  rw [e,h1];simp
end Go.Proofs.YtiidmgchadagbaaGreatDoor.D
namespace Go.Proofs.YtiidmgchadagbaaGreatDoor
open Go.RowKit D
theorem vZ (t:T) (w:World):
  Calls Tryz.prog 174 #[.agg #[.bool t.var,.string t.name]] w fun e w'=>
   e=.returned (.iface (if t.var then 243 else 247) (.string t.name))∧Below w.heap.size w w':=by
 obtain ⟨b,nm⟩:=t;cases b
 all_goals
  go_enter Tryz.func174,Tryz.ntmps174
  go_wp2;go_ret;exact ⟨rfl,(Below.refl _ _).alloc (Nat.le_refl _) _⟩
theorem xw (s:ByteArray) (w:World):
  Calls Tryz.prog 177 #[.string s] w fun e w'=>e=.returned (.string s)∧w=w':=by
 go_enter Tryz.func177,Tryz.ntmps177
 go_wp2;go_ret;exact ⟨rfl,rfl⟩
theorem sS (s:ByteArray) (w:World):
  Calls Tryz.prog 176 #[.string s] w fun e w'=>e=.returned (.string s)∧w=w':=by
 go_enter Tryz.func176,Tryz.ntmps176
 go_wp2;go_ret;exact ⟨rfl,rfl⟩
theorem I8 (s:ByteArray) (w:World):(Instr.typeAssert (.iface 247 (.string s)) 241 247 true).run Tryz.prog w=.ok (.tuple #[.string s,.bool true]) w:=by kernel_rfl
theorem RV (s:ByteArray) (w:World):(Instr.typeAssert (.iface 243 (.string s)) 241 247 true).run Tryz.prog w=.ok (.tuple #[.string ⟨#[]⟩,.bool false]) w:=by kernel_rfl
theorem BO (s:ByteArray) (w:World):(Instr.typeAssert (.iface 243 (.string s)) 241 243 true).run Tryz.prog w=.ok (.tuple #[.string s,.bool true]) w:=by kernel_rfl
theorem MJ (t:T) (w:World) (hs:t.name.size≤maxLen):
  Calls Tryz.prog 189 #[.agg #[.bool t.var,.string t.name]] w fun e w'=>e=.returned (.bool (jd t))∧Below w.heap.size w w':=by
 unfold jd;have hk:=vZ t;obtain ⟨b,nm⟩:=t;have hw:=xw nm;have hv:=sS nm;have hn:=fun w=>zu nm w hs
 have ho:=fun w=>Bl nm w hs
 cases b
 all_goals simp only [if_true,if_false,Bool.false_eq_true] at *
 all_goals
  go_enter Tryz.func189,Tryz.ntmps189
  have a1:=I8;have a2:=RV;have a3:=BO
  go_wp2_with (first
   | (go_at_call 174; refine (hk _).mono ?_; rintro e w1 ⟨rfl,hb1⟩)
   | (go_at_call 177; refine (hw _).mono ?_; rintro e w2 ⟨rfl,rfl⟩)
   | (go_at_call 176; refine (hv _).mono ?_; rintro e w2 ⟨rfl,rfl⟩)
   | (go_at_call 188; refine (hn _).mono ?_; rintro e w3 ⟨rfl,rfl⟩)
   | (go_at_call 212; refine (ho _).mono ?_; rintro e w3 ⟨rfl,rfl⟩))
  go_ret;exact ⟨rfl,((Below.refl _ _).alloc (Nat.le_refl _) _).trans (hb1.mono (by simp))⟩
theorem MK (t:T) (w:World) (hs:t.name.size≤maxLen):
  Calls Tryz.prog 163 #[.agg #[.bool t.var,.string t.name]] w fun e w'=>e=.returned (.bool (jd t))∧Below w.heap.size w w':=by
 unfold jd;obtain ⟨b,s⟩:=t;dsimp only at *;have hn:=fun w=>zq s w hs
 cases b
 ·simp only [if_false,Bool.false_eq_true]
  go_enter Tryz.func163,Tryz.ntmps163
  go_wp2_with (go_at_call 164; refine (hn _).mono ?_; rintro e w3 ⟨rfl,rfl⟩)
  go_ret;exact ⟨rfl,(Below.refl _ _).alloc (Nat.le_refl _) _⟩
 ·simp only [if_true]
  have hl:=fun w=>zo (s.extract 1 s.size) w (by simp; omega)
  rw [tail_at] at hl;unfold maxLen at hs;by_cases h0:0 < s.size
  ·have hc:rU s=big s[0]:=by unfold rU; rw [Ik s h0]; simp [h0]
   have h00:((s.size:Int) == 0)=false:=beq_eq_false_iff_ne.2 (by omega);have h1:(1:Int)≤(s.size:Int):=by omega
   unfold wQ;rw [hc];by_cases hb:big s[0]=true
   ·have hB:=(Au _).1 hb
    rw [hb];clear hb hc;by_cases hs1:s.size=1
    ·have hl1:oL s.data.toList.tail=true:=by
      rw [← tail_at,hs1]; simp [oL]
     have HL:=η hl1;have hs1':((s.size:Int) == 1)=true:=beq_iff_eq.2 (by omega);clear hl1;have HS:=η hs1;clear hs1
     go_enter Tryz.func163,Tryz.ntmps163
     go_wp2;go_ret;exact ⟨aO (by rw [HL.out,HS.out]; rfl),(Below.refl _ _).alloc (Nat.le_refl _) _⟩
    ·have hs1':((s.size:Int) == 1)=false:=beq_eq_false_iff_ne.2 (by omega)
     have hsz:(s.extract 1 s.size).size=s.size - 1:=by simp
     have hle:(s.size - 1≤8∧s.size≤8)∨(s.size - 1=8∧¬ s.size≤8)∨¬ s.size - 1≤8:=by omega
     rw [hsz] at hl;have hp:decide (1≤s.size - 1)=true:=decide_eq_true (by omega);rw [hp] at hl;clear hp hsz;generalize oL s.data.toList.tail=b at *;by_cases h8:s.size≤8
     ·have h9:decide (s.size - 1≤8)=true:=decide_eq_true (by omega)
      rw [h9] at hl;clear h9 hle;have h8':=decide_eq_true h8;cases b
      all_goals
       go_enter Tryz.func163,Tryz.ntmps163
       go_wp2_with (go_at_call 191; refine (hl _).mono ?_; rintro e w3 ⟨rfl,rfl⟩)
       go_ret;exact ⟨aO (by first | (simp [h8]; done) | (simp; omega)),(Below.refl _ _).alloc (Nat.le_refl _) _⟩
     ·have h8':decide (s.size≤8)=false:=decide_eq_false h8
      clear hle;generalize decide (s.size - 1≤8)=b2 at *;cases b
      all_goals cases b2
      all_goals
       go_enter Tryz.func163,Tryz.ntmps163
       go_wp2_with (go_at_call 191; refine (hl _).mono ?_; rintro e w3 ⟨rfl,rfl⟩)
       go_ret;exact ⟨aO (by first | (simp [h8]; done) | (simp; omega)),(Below.refl _ _).alloc (Nat.le_refl _) _⟩
   ·have hB:=mt (Au _).2 hb
    have hb':big s[0]=false:=by simpa using hb
    rw [hb'];clear hb hb' hc
    go_enter Tryz.func163,Tryz.ntmps163
    go_wp2
    all_goals first
     | (exfalso; omega)
     | (go_ret; exact ⟨aO (by simp),(Below.refl _ _).alloc (Nat.le_refl _) _⟩)
  ·have hc:wQ s=false:=by unfold wQ rU; simp [h0]
   have h00:((s.size:Int) == 0)=true:=beq_iff_eq.2 (by omega);rw [hc]
   go_enter Tryz.func163,Tryz.ntmps163
   go_wp2;go_ret;exact ⟨rfl,(Below.refl _ _).alloc (Nat.le_refl _) _⟩
theorem qU (a:A) (c0 c1:Value) (bs:List Nat) (w:World) (h:aU w [c0,c1] a bs) (hn:jm a≤16777216):
  Calls Tryz.prog 110 #[.agg #[c0,c1]] w fun e w'=>e=.returned (.string ⟨(xg a).toArray⟩)∧Below w.heap.size w w':=by
 obtain ⟨s,hcs,hnm,ht⟩:=h;simp only [List.cons.injEq,and_true] at hcs;obtain ⟨rfl,rfl⟩:=hcs;obtain ⟨Ad,cap,rfl,hl,hm⟩:=af ht;have hlm:=au (Nat.le_trans hl hm);clear hm;have hbk:a.name.size+a.args.length+iT a.args≤16777216:=hn;have hb1:a.name.size≤16777216:=by omega
 go_enter Tryz.func110,Tryz.ntmps110
 go_wp2_with fail
 refine (VR (w.heap.size+1) (w.heap.size+1) [] a.name _ (by simpa using UR (w.alloc (.cells #[.string a.name,.slice Ad a.args.length cap] 68))) (by simp) (by omega) (by simp)).mono ?_;rintro e w1 ⟨rfl,h1⟩;have b1:=h1.below;have sz1:=b1.size;simp at sz1
 go_wp2_with fail
 refine (Rz (w.heap.size+1) (w.heap.size+1) _ 40 40 rfl _ h1.bld (by rw [List.nil_append,WR]; omega) (by omega)).mono ?_;rintro e w2 ⟨rfl,h2⟩;have b2:=b1.trans h2.below;have sz2:=h2.below.size;have d1:w2.cell? ⟨w.heap.size,1,none⟩=some (.slice Ad a.args.length cap):=(b2.cell (p:=⟨w.heap.size,1,none⟩) (by simp)).trans (by go_simp);have B2:Below w.heap.size w w2:=((Below.refl w.heap.size w).alloc (Nat.le_refl _) _).trans ((((Below.refl w.heap.size _).alloc (by simp) _).trans (b2.mono (by omega))));have X2:=η h2.bld;clear h1 h2 b1 b2
 go_wp2_with fail
 go_loopw [13] (fun i wr=>∃ k:Nat,k≤a.args.length∧i=.int .i64 k∧UA (w.heap.size+1) (w.heap.size+1) (a.name.data.toList ++ [40] ++ lu (a.args.take k)) wr∧Below w.heap.size w wr∧w.heap.size+2≤wr.heap.size) (fun i _=>a.args.length - (intOf i).toNat)
 case atStart=>exact ⟨0,Nat.zero_le _,rfl,by simpa [lu] using X2.out,B2,by omega⟩
 case round=>
  obtain ⟨k,hk,rfl,hb,hB,hsz⟩:=hrel
  have hlen:(a.name.data.toList ++ [40] ++ lu (a.args.take k)).length≤67108864:=by
   have h2:=Rt (a.args.take k);have h3:=zy a.args k;have h4:a.name.data.toList.length=a.name.size:=Array.length_toList;simp only [List.length_append,List.length_cons,List.length_nil,List.length_take] at h2 ⊢;omega
  have HB:=η hb;clear hb;by_cases hlt:k < a.args.length
  ·obtain ⟨b,o,rfl,_,c0,c1,hnm⟩:=dV (aH.below ht hB) hlt
   have h2:a.args[k].name.size≤16777216:=by
    have:=zk a.args k hlt;have:=zy a.args (k+1);omega
   have HT:=η (LX a.args k hlt);clear ht;generalize a.args[k]=t at *;by_cases hk0:k=0
   ·have HK:=η hk0
    have hk1:¬ (0:Int) < (k:Int):=by omega
    clear hk0
    go_wp2_with fail
    have hA:Below wr.heap.size wr (wr.alloc (.cells #[.bool t.var,.string t.name] 109)):=(Below.refl _ _).alloc (Nat.le_refl _) _;refine (VR (w.heap.size+1) (w.heap.size+1) _ t.name _ (HB.out.below hA) (by omega) (by omega) (by have:=hA.size; omega)).mono ?_;rintro e w3 ⟨rfl,h3⟩;have B3:Below w.heap.size w w3:=(hB.trans (hA.mono hB.size)).trans (h3.below.mono (by omega));have S3:w.heap.size+2≤w3.heap.size:=by have:=h3.below.size; have:=hA.size; omega
    have H3:=η h3.bld;clear h3 hA;go_wp2;go_roundw
    case rel=>exact ⟨k+1,by omega,by go_num,by have:=H3.out; rw [HT.out,HK.out] at *; simpa [lu] using this,B3,S3⟩
    case measure=>simp [intOf]; omega
   ·have hk1:(0:Int) < (k:Int):=by omega
    go_wp2_with fail
    have hA:Below wr.heap.size wr (wr.alloc (.cells #[.bool t.var,.string t.name] 109)):=(Below.refl _ _).alloc (Nat.le_refl _) _;refine (Rz (w.heap.size+1) (w.heap.size+1) _ 44 44 rfl _ (HB.out.below hA) (by omega) (by have:=hA.size; omega)).mono ?_;rintro e w2' ⟨rfl,h2'⟩;have hbx:=h2'.block (heap_alloc_new wr (.cells #[.bool t.var,.string t.name] 109)) (by omega) (by decide);have x1:w2'.cell? ⟨wr.heap.size,1,none⟩=some (.string t.name):=by rw [cell_of_row w2' _ 1 _ _ _ hbx]; rfl
    have B2':Below w.heap.size w w2':=(hB.trans (hA.mono hB.size)).trans (h2'.below.mono (by omega));have S2':w.heap.size+2≤w2'.heap.size:=by have:=h2'.below.size; have:=hA.size; omega
    have H2':=η h2'.bld;clear h2' hA hbx
    go_wp2_with fail
    refine (VR (w.heap.size+1) (w.heap.size+1) _ t.name _ H2'.out (by rw [List.length_append,List.length_singleton]; omega) (by omega) (by omega)).mono ?_;rintro e w3 ⟨rfl,h3⟩;have B3:Below w.heap.size w w3:=B2'.trans (h3.below.mono (by omega));have S3:w.heap.size+2≤w3.heap.size:=by have:=h3.below.size; omega
    have H3:=η h3.bld;clear h3 x1;go_wp2;go_roundw
    case rel=>exact ⟨k+1,by omega,by go_num,by have:=H3.out; rw [HT.out,if_neg (by omega)]; simpa using this,B3,S3⟩
    case measure=>simp [intOf]; omega
  ·have he:=η (show k=a.args.length by omega)
   go_wp2_with fail
   refine (Rz (w.heap.size+1) (w.heap.size+1) _ 41 41 rfl _ HB.out (by omega) (by omega)).mono ?_;rintro e w3 ⟨rfl,h3⟩
   go_wp2_with fail
   refine (WT (w.heap.size+1) (w.heap.size+1) _ _ h3.bld (by have:=h3.below.size; omega)).mono ?_;rintro e w4 ⟨rfl,h4⟩;go_wp2;go_ret;exact ⟨Ob (by rw [he.out,List.take_of_length_le (Nat.le_refl _)]; simp [xg]),(hB.trans (h3.below.mono (by omega))).trans (h4.below.mono (by omega))⟩
theorem Gq (a:A) (c0 c1:Value) (bs:List Nat) (w:World) (h:aU w [c0,c1] a bs) (hn:a.args.length≤16777216):
  Calls Tryz.prog 66 #[.agg #[c0,c1]] w (vJ aU a w.heap.size w):=by
 have ht:=eH h;have hnm:a.name.size≤maxLen:=by obtain ⟨_,_,hn,_⟩:=h; exact hn
 obtain ⟨Ad,cap,rfl,rfl⟩:=bJ h;obtain ⟨i0,hi,hz0,hz1,hz2⟩:=info_parts Ez;by_cases h0:a.args.length=0
 ·have hl:((a.args.length:Int) == 0)=true:=beq_iff_eq.2 (by omega)
  have hx:a.args = []:=List.length_eq_zero_iff.1 h0;have HX:=η hx;clear h ht h0 hx hi hz0 hz1 hz2
  go_enter Tryz.func66,Tryz.ntmps66
  go_wp2;refine bodyPost_ret (v:=.agg #[.string a.name,.slice none 0 0]) (by simp [results,Tryz.results66,go_sem]) rfl ⟨?_,_,[],rfl,⟨_,rfl,hnm,by rw [HX.out]; exact Bq _⟩,New.nil _ _⟩
  repeat (first | exact Below.refl _ _ | (refine Below.setCell ?_ (by first | (simp; done) | (simp; omega)) _) | (refine Below.alloc ?_ (by first | (simp; done) | (simp; omega)) _))
 ·have hl:((a.args.length:Int) == 0)=false:=beq_eq_false_iff_ne.2 (by omega)
  obtain ⟨L,b2,hrow,_,hsrc⟩:=qJ qI (by omega) ht;obtain ⟨b,o,rfl,hbb,hcell⟩:=hsrc (by intro e; rw [e] at h0; exact h0 rfl);have hblt:=aH.lt ht b hbb;have hLl:=hrow.len;have hone:=hrow.one;have HR:=η hrow;have HL:=η hLl;have HC:=η hcell;have HO:=η hone;clear h ht h0 hrow hLl hone hcell hsrc
  go_enter Tryz.func66,Tryz.ntmps66
  go_wp2_with (first
   | (at_make; refine wpList_make_full _ rfl _ _ _ rfl (w.heap.size+2) 109 i0 _ 2 Tryz.underlying66 hi hz0 hz1 _ _ _ _ a.args.length rfl rfl rfl rfl (by rw [hz2]; omega) (by unfold maxLen; omega) (by simp) ?_; intro w1 hown hgrow; have hW:=(Below.refl _ _).grown hgrow (Nat.le_refl _) (fun _ e=>by cases e); have x0:w1.cell? ⟨w.heap.size,0,none⟩=some (.string a.name):=cell_later hW (by go_simp); have x1:w1.cell? ⟨w.heap.size,1,none⟩=some (.slice (some ⟨b,o,none⟩) a.args.length cap):=cell_later hW (by go_simp); have r0:w1.cell? ⟨w.heap.size+1,0,none⟩=some (.string ⟨#[]⟩):=cell_later hW (by go_simp); have r1:w1.cell? ⟨w.heap.size+1,1,none⟩=some (.slice none 0 0):=cell_later hW (by go_simp); have f0:w1.frozen? ⟨w.heap.size+1,0,none⟩=false:=(hW.frozen (p:=⟨w.heap.size+1,0,none⟩) (by simp)).trans (by go_simp); have f1:w1.frozen? ⟨w.heap.size+1,1,none⟩=false:=(hW.frozen (p:=⟨w.heap.size+1,1,none⟩) (by simp)).trans (by go_simp); have B1:Below w.heap.size w w1:=(((Below.refl _ _).alloc (Nat.le_refl _) _).alloc (by simp) _).trans (hW.mono (by simp; omega)); simp only [World.size_alloc] at hown)
   | ((with_reducible refine DU rfl (.tmp 15) (.tmp 17) _ _ rfl (w.heap.size+2) 109 2 a.args.length a.args.length Tryz.underlying66 Ro _ _ hown ⟨b,o,none⟩ cap L HL.out ?_ HO.out ?_ ?_ ?_); exact (fun j v hj=>by rw [addr_add]; exact (B1.cell (p:=⟨b,o+j,none⟩) hblt).trans (HC.out j v hj)); rfl; rfl; intro w2 hown2 hgrow2; have y0:=hgrow2.cell x0 (by simp; omega); have s0:=hgrow2.cell r0 (by simp); have s1:=hgrow2.cell r1 (by simp); have g0:=(hgrow2.frozen_far ⟨w.heap.size+1,0,none⟩ (lt_of_cell r0) (by simp)).trans f0; have g1:=(hgrow2.frozen_far ⟨w.heap.size+1,1,none⟩ (lt_of_cell r1) (by simp)).trans f1))
  obtain ⟨b3,hR3,hN3⟩:=EC HR.out hown2;have hne:∀ c ∈ b3,c ≠ w.heap.size+1:=fun c hc e=>by have:=(hN3.own c hc).1; omega
  have B2:Below w.heap.size w w2:=B1.grown hgrow2 B1.size (fun k e=>by cases e; omega);refine bodyPost_ret (v:=.agg #[.string a.name,.slice (some ⟨w.heap.size+1+1,0,none⟩) a.args.length a.args.length]) (by simp [results,Tryz.results66,go_sem,s0,s1]) rfl ⟨(B2.setCell (by simp) _).setCell (by simp) _,_,b3,rfl,⟨_,rfl,hnm,aH.keep hR3 fun c hc=>?_⟩,(hN3.mono (by omega)).keep fun c hc=>?_⟩
  all_goals rw [Below.heap_setCell _ _ _ _ (hne c hc),Below.heap_setCell _ _ _ _ (hne c hc)]
end Go.Proofs.YtiidmgchadagbaaGreatDoor
namespace Go.Proofs.YtiidmgchadagbaaGreatDoor
open Go.RowKit D
attribute [local go_sem ↓] Go.wp_at_zero Go.wp_at_succ
theorem ML (s:ByteArray) (w:World):Calls Tryz.prog 196 #[.string s] w fun e w'=>e=.returned (.bool false)∧Below w.heap.size w w':=by
 have HB:=η (Below.refl w.heap.size w)
 go_enter Tryz.func196,Tryz.ntmps196
 go_wp2;go_ret;exact ⟨by simp,HB.out⟩
theorem MN (s:ByteArray) (w:World):Calls Tryz.prog 215 #[.string s] w fun e w'=>e=.returned (.bool false)∧Below w.heap.size w w':=by
 have HB:=η (Below.refl w.heap.size w)
 go_enter Tryz.func215,Tryz.ntmps215
 go_wp2;go_ret;exact ⟨by simp,HB.out⟩
theorem I9 (s t:ByteArray) (w:World):Calls Tryz.prog 195 #[.string s,.string t] w fun e w'=>e=.returned (.bool (decide (fZ s t < 0)))∧Below w.heap.size w w':=by
 have HN:=fun s w=>MN s w
 have HE:=η (uG s t)
 go_enter Tryz.func195,Tryz.ntmps195
 go_wp2_with fail
 refine (HN _ _).mono ?_;rintro e w1 ⟨rfl,hB⟩;have HB:=η hB;clear HN hB;go_wp2;go_ret;exact ⟨by simp [HE.out],HB.out⟩
theorem D.RX {xs:List ByteArray} (h:sK xs) {x:ByteArray} (hx:x ∈ xs) (m:Nat) (hm:m < xs.length):fZ xs[m] x < 0 ↔ m < xs.idxOf x:=by
 have hi:xs.idxOf x < xs.length:=List.idxOf_lt_length_of_mem hx;have he:xs[xs.idxOf x]=x:=List.getElem_idxOf hi;have hp:=List.pairwise_iff_getElem.1 h;constructor
 ·intro hc
  rcases Nat.lt_trichotomy m (xs.idxOf x) with h1 | h1 | h1
  ·exact h1
  ·exfalso
   have:xs[m]=x:=by simp only [h1,he]
   rw [this,iE.refl] at hc; omega
  ·have h2:=hp _ _ hi hm h1
   rw [he] at h2;have h3:=iE.anti xs[m] x;omega
 ·intro hlt
  have h2:=hp _ _ hm hi hlt
  rwa [he] at h2
theorem Ja (xs:List ByteArray) (x:ByteArray) (v:Value) (bs:List Nat) (w:World) (h:jL w [v] xs bs) (hs:sK xs) (hx:x ∈ xs) (hlb:xs.length≤1000000):
  Calls Tryz.prog 175 #[v,.string x] w fun e w'=>e=.returned (.tuple #[.int .i64 (xs.idxOf x:Nat),.bool true])∧Below w.heap.size w w':=by
 obtain ⟨Ad,cap,rfl,hl,hm⟩:=af h;have hlm:=au (Nat.le_trans hl hm);have HN:=fun s w=>ML s w
 have HL:=fun s t w=>I9 s t w
 have hil:xs.idxOf x < xs.length:=List.idxOf_lt_length_of_mem hx;have HX:=η (fun m hm=>RX hs hx m hm);have HE:Hid (∀ h:xs.idxOf x < xs.length,xs[xs.idxOf x]=x):=η (fun h=>List.getElem_idxOf h);clear hl hm hs hx;obtain ⟨i,hi⟩:∃ i,i=xs.idxOf x:=⟨_,rfl⟩;rw [← hi] at hil HX HE ⊢;clear hi;have HB:=η (Below.refl w.heap.size w)
 go_enter Tryz.func175,Tryz.ntmps175
 go_wp2
 go_loopw [7,8] (fun p q wr=>∃ k n:Nat,k≤i∧i≤n∧n≤xs.length∧p=.int .i64 k∧q=.int .i64 n∧Below w.heap.size w wr) (fun p q _=>(intOf q).toNat - (intOf p).toNat)
 case atStart=>exact ⟨0,xs.length,Nat.zero_le _,by omega,Nat.le_refl _,rfl,rfl,HB.out⟩
 case round=>
  obtain ⟨k,n,hk,hkn,hn,rfl,rfl,hb⟩:=hrel;clear HB;by_cases hlt:k < n
  ·obtain ⟨m,hm⟩:∃ m,m=(k+n) / 2:=⟨_,rfl⟩
   have hm1:k≤m:=by omega
   have hm2:m < n:=by omega
   have hm3:m < xs.length:=by omega
   have hq:((k:Int)+(n:Int)) / 2=(m:Int):=by omega
   have hk0:(0:Int)≤(m:Int):=by omega
   have hk1:(m:Int) < (xs.length:Int):=by omega
   clear hm;have HMI:=η (HX.out m hm3);obtain ⟨b,o,rfl,_,c0,_⟩:=qF (cZ.below h hb) hm3;clear h HX HE;generalize xs[m]=y at *;have HL1:=HL y x;have HBb:=η hb;clear HL hb HN;by_cases hc:fZ y x < 0
   ·have hd:decide (fZ y x < 0)=true:=decide_eq_true hc
    have hmi:=η (HMI.out.1 hc);clear HMI hc
    go_wp2_with fail
    refine (HL1 _).mono ?_;rintro e w2 ⟨rfl,hw2⟩;have HB2:=η (HBb.out.trans (hw2.mono HBb.out.size));clear HL1 hw2;go_wp2;go_roundw
    case rel=>exact ⟨m+1,n,hmi.out,hkn,hn,by go_num,rfl,HB2.out⟩
    case measure=>simp [intOf]; omega
   ·have hd:decide (fZ y x < 0)=false:=decide_eq_false hc
    have hmi:Hid (i≤m):=η (by have:=mt HMI.out.2 hc; omega);clear HMI hc
    go_wp2_with fail
    refine (HL1 _).mono ?_;rintro e w2 ⟨rfl,hw2⟩;have HB2:=η (HBb.out.trans (hw2.mono HBb.out.size));clear HL1 hw2;go_wp2;go_roundw
    case rel=>exact ⟨k,m,hk,hmi.out,by omega,rfl,rfl,HB2.out⟩
    case measure=>simp [intOf]; omega
  ·obtain rfl:k=i:=by omega
   have hk0:(0:Int)≤(k:Int):=by omega
   have hk1:(k:Int) < (xs.length:Int):=by omega
   have hkn1:¬ (k:Int) < (n:Int):=by omega
   obtain ⟨b,o,rfl,_,c0,_⟩:=qF (cZ.below h hb) hil;rw [HE.out hil] at c0;have HBb:=η hb;clear h HX HE HL HN hb;go_wp2;go_ret2;exact ⟨rfl,HBb.out⟩
theorem D.Po {b:Bd} {n:ByteArray} {k:Nat} (h:k < b.length):fV (b.drop k) n=if b[k].1=n then some b[k].2 else fV (b.drop (k+1)) n:=by
 rw [List.drop_eq_getElem_cons h,fV]
theorem D.toList_eq {a b:ByteArray}:(a.toList == b.toList)=decide (a=b):=by
 rw [ByteArray.toList_eq,ByteArray.toList_eq,Bool.eq_iff_iff];simp only [beq_iff_eq,decide_eq_true_eq];exact ⟨fun h=>ByteArray.ext (Array.toList_inj.1 h),fun h=>by rw [h]⟩
theorem get_any (b:Bd) (s:ByteArray) (c0 c1:Value) (bs:List Nat) (w:World) (h:jl w [c0,c1] b bs):
  Calls Tryz.prog 127 #[.agg #[c0,c1],.string s] w fun e w'=>e=.returned (.tuple #[.string (ji b s),.bool (fV b s).isSome])∧Below w.heap.size w w':=by
 obtain ⟨x0,x1,b1,b2,hcs,rfl,h1,h2⟩:=h;simp only [List.cons.injEq,and_true] at hcs;obtain ⟨rfl,rfl⟩:=hcs;obtain ⟨A1,p1,rfl,hp1,hm1⟩:=af h1;obtain ⟨A2,p2,rfl,hp2,hm2⟩:=af h2;have hlen1:(b.map (·.1)).length=b.length:=List.length_map ..;have hlen2:(b.map (·.2)).length=b.length:=List.length_map ..;rw [hlen1] at hp1 h1 ⊢;rw [hlen2] at hp2 h2 ⊢;have hmx:=au (Nat.le_trans hp1 hm1);clear hm1 hm2
 go_enter Tryz.func127,Tryz.ntmps127
 go_wp2
 go_loopw [6] (fun i wr=>∃ k:Nat,k≤b.length∧i=.int .i64 k∧fV b s=fV (b.drop k) s∧Below w.heap.size w wr∧wr.cell? ⟨w.heap.size,0,none⟩=some (.slice A1 b.length p1)∧wr.cell? ⟨w.heap.size,1,none⟩=some (.slice A2 b.length p2)) (fun i _=>b.length - (intOf i).toNat)
 case atStart=>exact ⟨0,Nat.zero_le _,rfl,rfl,(Below.refl _ _).alloc (Nat.le_refl _) _,by go_simp,by go_simp⟩
 case round=>
  obtain ⟨k,hk,rfl,hg,hb,y0,y1⟩:=hrel;by_cases hlt:k < b.length
  ·obtain ⟨d1,o1,rfl,_,e1,_⟩:=qF (cZ.below h1 hb) (k:=k) (by simpa using hlt)
   obtain ⟨d2,o2,rfl,_,e2,_⟩:=qF (cZ.below h2 hb) (k:=k) (by simpa using hlt);rw [List.getElem_map] at e1 e2;have HG:=η (hg.trans (Po hlt));have hlt':(k:Int) < (b.length:Int):=by omega
   have hk0:(0:Int)≤(k:Int):=by omega
   clear h1 h2 hg;generalize b[k].1=x at *;generalize b[k].2=y at *;cases hs:(x.toList == s.toList)
   ·have HZ:=η (show fV b s=fV (b.drop (k+1)) s by
     rw [HG.out,if_neg];rw [toList_eq] at hs
     exact of_decide_eq_false hs)
    clear HG;go_wp2;go_roundw
    case rel=>exact ⟨k+1,hlt,by go_num,HZ.out,hb,y0,y1⟩
    case measure=>simp [intOf]; omega
   ·have HZ:=η (show fV b s=some y by
     rw [HG.out,if_pos];rw [toList_eq] at hs
     exact of_decide_eq_true hs)
    have HV:Hid (ji b s=y):=η (by unfold ji; rw [HZ.out]; rfl);clear HG;go_wp2;go_ret2;exact ⟨by rw [HV.out,HZ.out]; rfl,hb⟩
  ·have he:k=b.length:=by omega
   have hlt':¬ (k:Int) < (b.length:Int):=by omega
   have HZ:=η (show fV b s=none by rw [hg,he,List.drop_eq_nil_of_le (Nat.le_refl _)]; rfl);have HV:Hid (ji b s=⟨#[]⟩):=η (by unfold ji; rw [HZ.out]; rfl);clear hg h1 h2;go_wp2;go_ret2;exact ⟨by rw [HV.out,HZ.out]; rfl,hb⟩
end Go.Proofs.YtiidmgchadagbaaGreatDoor
