/- Of the proof of FnDelta: gQ, FsC, Bound, PatI. -/
import Derived.Test.YtkjinanbccloeaaGreatDoorA16
import Derived.Test.YtkjinanbccloeaaGreatDoorA17
import Derived.Deep.RegionHeldLaw
set_option linter.unusedVariables false
set_option maxHeartbeats 2000000
set_option maxRecDepth 100000
namespace Go.Proofs.YtkjinanbccloeaaGreatDoor
section
open Go.RowKit D
theorem Gq:(Tryz.prog.info? 40).map (fun i=>(i.zero,i.size,i.bytes))=some (some (.agg #[.string ⟨#[]⟩,.slice none 0 0,.slice none 0 0]),3,64):=by kernel_rfl
def D.AtS (a:A):Prop:=Sm a.name∧a.args.length≤4∧∀ t ∈ a.args,Sm t.name
def D.SH (r:Ru):Prop:=AtS r.head∧r.body.length≤8∧∀ x ∈ r.body,Xi x
structure gQ (g p:Nat) (w:World) (xs:List Ru) (v:Value) (wr:World):Prop where
 coll:∃ L bs,aY 3 gY w.heap.size 40 wr v L xs bs∧∀ b ∈ bs,w.heap.size≤b
 small:∀ x ∈ xs,SH x
 rdr:kJ g p wr
 kept:aH [g] w wr
 glt:g < w.heap.size
section
variable {g p:Nat} {w:World} {xs:List Ru} {v:Value} {wr:World}
theorem gQ.call {p2:Nat} {I:World} (h:gQ g p w xs v wr) (J:kJ g p2 I) (hK:aH [g] wr I):gQ g p2 w xs v I:=by
 obtain ⟨L,bs,U,y⟩:=h.coll;exact ⟨⟨L,bs,U.Jl aX hK h.glt (fun hg=>by have:=y g hg; have:=h.glt; omega),y⟩,h.small,J,h.kept.trans hK,h.glt⟩
theorem gQ.below {I:World} (h:gQ g p w xs v wr) (hB:Below wr.heap.size wr I):gQ g p w xs v I:=by
 obtain ⟨L,bs,J,y⟩:=h.coll;exact ⟨⟨L,bs,J.below aX hB,y⟩,h.small,h.rdr.below hB,h.kept.eG hB h.kept.size,h.glt⟩
theorem gQ.rules (h:gQ g p w xs v wr):∃ bs,eu wr [v] xs bs∧∀ b ∈ bs,w.heap.size≤b:=by
 obtain ⟨L,bs,I,y⟩:=h.coll;obtain ⟨J,U,h2⟩:=I.slice;exact ⟨J,U,fun b hb=>(h2 b hb).elim id (y b)⟩
theorem gQ.shape (h:gQ g p w xs v wr):∃ A c,v=.slice A xs.length c:=by
 obtain ⟨L,bs,y,_⟩:=h.coll;exact dO y.own
theorem gQ.start (I:g < w.heap.size) (J:kJ g p w):gQ g p w [] (.slice (some ⟨w.heap.size,0,none⟩) 0 0) (w.alloc (.cells #[] 40)):=by
 have y:Below w.heap.size w (w.alloc (.cells #[] 40)):=ζ;exact ⟨⟨[],[],aY.empty (ω _ _) ν,fun b hb=>by simp at hb⟩,fun x U=>by simp at U,J.below y,aH.of_below y,I⟩
theorem gQ.arm {r:Ru} {c0 c1 c2:Value} {y:List Nat} {W:World} (h:gQ g p w xs v wr) (hB:Below wr.heap.size wr W) (hr:gY W [c0,c1,c2] r y) (I:∀ b ∈ y,wr.heap.size≤b):
  ∃ L bs,aY 3 gY w.heap.size 40 (W.alloc (.cells #[c0,c1,c2] 40)) v L xs bs∧(∀ b ∈ bs ++ y,w.heap.size≤b)∧aT 3 gY (W.alloc (.cells #[c0,c1,c2] 40)) [c0,c1,c2] [r] y∧
   Lies (W.alloc (.cells #[c0,c1,c2] 40)) (some ⟨W.heap.size,0,none⟩) [c0,c1,c2]∧(∀ b ∈ y,v.ownBlock ≠ some b)∧Below w.heap.size wr (W.alloc (.cells #[c0,c1,c2] 40))∧w.heap.size≤(W.alloc (.cells #[c0,c1,c2] 40)).heap.size:=by
 obtain ⟨L,bs,hC,J⟩:=h.coll;have hA:Below W.heap.size W (W.alloc (.cells #[c0,c1,c2] 40)):=ζ;have hs:=h.kept.size;have U:=hB.size;have hT:Below wr.heap.size wr (W.alloc (.cells #[c0,c1,c2] 40)):=hB.trans (hA.mono U);exact ⟨L,bs,hC.below aX hT,fun b hb=>(μ.1 hb).elim (J b) (fun hb=>by have:=I b hb; omega),aT.dH oI (aX.below hr hA),aS (ω _ _),fun b hb=>je hC.own (I b hb),hT.mono hs,by simp; omega⟩
theorem gQ.far (h:gQ g p w xs v wr) {b:Nat} (hb:wr.heap.size≤b):v.ownBlock ≠ some b:=by
 obtain ⟨L,bs,y,I⟩:=h.coll;exact je y.own hb
theorem gQ.Wx {r:Ru} {c0 c1 c2:Value} {y:List Nat} {W:World} (h:gQ g p w xs v wr) (hB:Below wr.heap.size wr W) (hr:gY W [c0,c1,c2] r y) (I:∀ b ∈ y,w.heap.size≤b∧v.ownBlock ≠ some b):
  ∃ L bs,aY 3 gY w.heap.size 40 (W.alloc (.cells #[c0,c1,c2] 40)) v L xs bs∧(∀ b ∈ bs ++ y,w.heap.size≤b)∧aT 3 gY (W.alloc (.cells #[c0,c1,c2] 40)) [c0,c1,c2] [r] y∧
   Lies (W.alloc (.cells #[c0,c1,c2] 40)) (some ⟨W.heap.size,0,none⟩) [c0,c1,c2]∧(∀ b ∈ y,v.ownBlock ≠ some b)∧Below w.heap.size wr (W.alloc (.cells #[c0,c1,c2] 40))∧w.heap.size≤(W.alloc (.cells #[c0,c1,c2] 40)).heap.size:=by
 obtain ⟨L,bs,hC,J⟩:=h.coll;have hA:Below W.heap.size W (W.alloc (.cells #[c0,c1,c2] 40)):=ζ;have hs:=h.kept.size;have U:=hB.size;have hT:Below wr.heap.size wr (W.alloc (.cells #[c0,c1,c2] 40)):=hB.trans (hA.mono U);exact ⟨L,bs,hC.below aX hT,fun b hb=>(μ.1 hb).elim (J b) (fun hb=>(I b hb).1),aT.dH oI (aX.below hr hA),aS (ω _ _),fun b hb=>(I b hb).2,hT.mono hs,by simp; omega⟩
theorem gQ.app {J:World} {v4:Value} {L4:List Value} {I:List Nat} {y:Ru} (h:gQ g p w xs v wr) (hC:aY 3 gY w.heap.size 40 J v4 L4 (xs ++ [y]) I) (U:∀ b ∈ I,w.heap.size≤b) (hB:Below w.heap.size wr J) (hy:SH y):gQ g p w (xs ++ [y]) v4 J:=
 ⟨⟨L4,I,hC,U⟩,fun x hx=>(μ.1 hx).elim (h.small x) (fun hx=>by rw [List.mem_singleton.1 hx]; exact hy),h.rdr.eG hB h.glt,h.kept.eG hB ν,h.glt⟩
end
def Uw (m g p q:Nat) (w:World) (e:Ending) (w':World):Prop:=
 ∃ (xs:List Ru) (v:Value) (y:Nat),e=.returned v∧xs.length≤m∧y≤p+q∧gQ g y w xs v w'
theorem D.QX {w:World} {b:Nat} {no:Bool} {nm:ByteArray} {s:Value} {a:A} {U:List Nat} (h:w.heap[b]? = some (.cells #[.bool no,.string nm,s] 42 (0,0))) (ha:aJ w [.string nm,s] a U):iY w [.slice (some ⟨b,0,none⟩) 1 1] [⟨no,a⟩] (b :: U):=by
 obtain ⟨s',J,hn,ht⟩:=ha;simp only [List.cons.injEq,and_true,Value.string.injEq] at J;obtain ⟨rfl,rfl⟩:=J;refine ⟨_,1,rfl,ν,by unfold maxLen; omega,fun h=>by simp at h,fun _=>⟨b,0,rfl,fun _=>[.bool no,.string a.name,s],fun _=>U,by simp,fun k t I=>?_⟩⟩
 match k,I with
 | 0,I=>
  simp only [List.getElem?_cons_zero,Option.some.injEq] at I;subst I;refine ⟨rfl,fun j v y=>?_,s,rfl,hn,ht⟩
  match j,y with
  | 0,y=>rw [ai h]; simpa using y
  | 1,y=>rw [ai h]; simpa using y
  | 2,y=>rw [ai h]; simpa using y
  | j+3,y=>simp at y
 | k+1,I=>simp at I
theorem D.zG {w:World} {b:Nat} {no U:Bool} {nm a0:ByteArray} {s s2:Value} {a a2:A} {b1 b2:List Nat} (h:w.heap[b]? = some (.cells #[.bool no,.string nm,s,.bool U,.string a0,s2] 42 (0,0)))
  (ha:aJ w [.string nm,s] a b1) (a1:aJ w [.string a0,s2] a2 b2):iY w [.slice (some ⟨b,0,none⟩) 2 2] [⟨no,a⟩,⟨U,a2⟩] (b :: (b1 ++ b2)):=by
 obtain ⟨s',I,hn,ht⟩:=ha;simp only [List.cons.injEq,and_true,Value.string.injEq] at I;obtain ⟨rfl,rfl⟩:=I;obtain ⟨a5,I,a3,a4⟩:=a1;simp only [List.cons.injEq,and_true,Value.string.injEq] at I;obtain ⟨rfl,rfl⟩:=I;refine ⟨_,2,rfl,ν,by unfold maxLen; omega,fun h=>by simp at h,fun _=>⟨b,0,rfl,fun k=>if k=0 then [.bool no,.string a.name,s] else [.bool U,.string a2.name,s2],fun k=>if k=0 then b1 else b2,by simp [List.range_succ],fun k t J=>?_⟩⟩
 match k,J with
 | 0,J=>
  simp only [List.getElem?_cons_zero,Option.some.injEq] at J;subst J;refine ⟨rfl,fun j v y=>?_,s,rfl,hn,ht⟩
  match j,y with
  | 0,y=>rw [ai h]; simpa using y
  | 1,y=>rw [ai h]; simpa using y
  | 2,y=>rw [ai h]; simpa using y
  | j+3,y=>simp at y
 | 1,J=>
  simp only [List.getElem?_cons_succ,List.getElem?_cons_zero,Option.some.injEq] at J;subst J;refine ⟨rfl,fun j v y=>?_,s2,rfl,a3,a4⟩
  match j,y with
  | 0,y=>rw [ai h]; simpa using y
  | 1,y=>rw [ai h]; simpa using y
  | 2,y=>rw [ai h]; simpa using y
  | j+3,y=>simp at y
 | k+2,J=>simp at J
theorem D.uZ {w:World} {b:Nat} {x:ByteArray} {c:Bool} (h:w.heap[b]? = some (.cells #[.bool c,.string x] 91 (0,0))) (J:x.size≤maxLen):
  gm w [.slice (some ⟨b,0,none⟩) 1 1] [⟨c,x⟩] [b]:=by
 refine ⟨_,1,rfl,ν,by unfold maxLen; omega,fun h=>by simp at h,fun _=>⟨b,0,rfl,fun k=>[.bool c,.string x],fun _=>[],by simp,fun k t I=>?_⟩⟩
 match k,I with
 | 0,I=>
  simp only [List.getElem?_cons_zero,Option.some.injEq] at I;subst I;refine ⟨rfl,fun j v y=>?_,rfl,J,rfl⟩
  match j,y with
  | 0,y=>rw [ai h]; simpa using y
  | 1,y=>rw [ai h]; simpa using y
  | j+2,y=>simp at y
 | k+1,I=>simp at I
theorem vT (c:Ch) (c0 c1 y I:Value) (J U:List Nat) (w:World) (h:fQ w [c0,c1] c J) (h2:fQ w [y,I] c U):
  Calls Tryz.prog 31 #[.agg #[c0,c1],.agg #[y,I]] w fun e w'=>e=.returned (.bool true)∧Below w.heap.size w w':=
 (Ip c c c0 c1 y I J U w h h2).mono fun e w' ⟨r,he,hr,hb⟩=>⟨by rw [he,hr.2 ⟨rfl,rfl⟩],hb⟩
theorem Lj (xs:List A) (y I:Value) (J U:List Nat) (w:World) (h:aB w [y] xs J) (h2:aB w [I] xs U):
  Calls Tryz.prog 15 #[y,I] w fun e w'=>e=.returned (.bool true)∧Below w.heap.size w w':=
 (wQ xs xs y I J U w h h2).mono fun e w' ⟨r,he,hr,hb⟩=>⟨by rw [he,(by first | exact hr.2 rfl | simpa using hr:r=true)],hb⟩
end
section
open Go.RowKit D
attribute [local go_sem ↓] Go.wp_at_zero Go.wp_at_succ
theorem uj {B:Nat} {a w:World} (h:Below B a w) (n:Nat):Below B a (w.drewN n):=⟨h.os,h.tape,h.output,h.size,h.block⟩
theorem EN (y:List T) (s:ByteArray) (v:Value) (bs:List Nat) (w:World) (h:gm w [v] y bs):
  Calls Tryz.prog 289 #[v,.agg #[.bool true,.string s]] w fun e w'=>∃ r:Int,e=.returned (.int .i64 r)∧(0≤r ↔ kL s y)∧Below w.heap.size w w':=by
 obtain ⟨Ad,cap,rfl,hl,hm⟩:=aj h;have a6:=aA (τ hl hm);have hA:Below w.heap.size w (w.alloc (.cells #[.bool true,.string s] 91)):=ζ;have x0:(w.alloc (.cells #[.bool true,.string s] 91)).cell? ⟨w.heap.size,0,none⟩=some (.bool true):=by go_simp
 have x1:(w.alloc (.cells #[.bool true,.string s] 91)).cell? ⟨w.heap.size,1,none⟩=some (.string s):=by go_simp
 have I:=η (ι hA (ι x0 x1));clear hl hm hA x0 x1
 go_enter Tryz.func289,Tryz.ntmps289
 go_wp2
 go_loopw [5,8] (fun a i wr=>∃ k:Nat,k≤y.length∧i=.int .i64 k∧(∀ j (h1:j < y.length),j < k→¬ (y[j].var=true∧y[j].name=s))∧Below w.heap.size w wr∧wr.cell? ⟨w.heap.size,0,none⟩=some (.bool true)∧wr.cell? ⟨w.heap.size,1,none⟩=some (.string s)) (fun _ i _=>y.length - (intOf i).toNat)
 case atStart=>exact ⟨0,ε,rfl,fun j _ h=>by omega,I.out.1,I.out.2.1,I.out.2.2⟩
 case round=>
  obtain ⟨k,hk,rfl,a0,hb,x0,x1⟩:=hrel;have HA:=η a0;have HB:=η hb;clear a0 I;by_cases J:k < y.length
  ·obtain ⟨b,o,rfl,_,e0,e1,_⟩:=fF (aP.below h hb) J
   have a2:(0:Int)≤(k:Int):=by omega
   have a3:(k:Int) < (y.length:Int):=by omega
   have U:=η J;have HI:Hid (∀ (_:y[k].var=true∧y[k].name=s),kL s y):=η (fun e=>⟨_,δ J,e⟩)
   have HN:Hid (¬ (y[k].var=true∧y[k].name=s)→∀ j (h1:j < y.length),j < k+1→¬ (y[j].var=true∧y[j].name=s)):=η (fun e j h1 hj=>by
    by_cases a4:j=k
    ·subst a4; exact e
    ·exact HA.out j h1 (by omega))
   generalize y[k]=t at *;obtain ⟨tv,tn⟩:=t;dsimp only at *;clear hb J h;cases tv
   ·have a1:=η (HN.out (by simp))
    clear HI HN;go_wp2
    go_quiet (fail)
    go_wp2;go_roundw
    case rel=>exact ⟨k+1,U.out,by go_num,a1.out,uj HB.out _,x0,x1⟩
    case measure=>have:=U.out; simp [intOf]; omega
   ·cases hs:(s.toList == tn.toList)
    ·have a1:=η (HN.out (fun e=>by rw [e.2] at hs; simp at hs))
     clear HI HN;go_wp2
     go_quiet (fail)
     go_wp2;go_roundw
     case rel=>exact ⟨k+1,U.out,by go_num,a1.out,uj HB.out _,x0,x1⟩
     case measure=>have:=U.out; simp [intOf]; omega
    ·have a5:=η (HI.out ⟨rfl,by have:=(iH.eq s tn).1 (by have h9:=Ci s tn; rw [hs] at h9; simpa using h9.symm); exact this.symm⟩)
     clear HI HN;go_wp2
     go_quiet (fail)
     go_wp2;go_ret;exact ⟨k,rfl,⟨fun _=>a5.out,fun _=>a2⟩,uj HB.out _⟩
  ·have he:=η (show k=y.length by omega)
   have a3:¬ (k:Int) < (y.length:Int):=by omega
   clear h hb;go_wp2;go_ret
   exact ⟨-1,rfl,⟨fun h0=>absurd h0 (by decide),fun ⟨t,ht,h1⟩=>by
    obtain ⟨j,hj,rfl⟩:=List.mem_iff_getElem.1 ht
    exact absurd h1 (HA.out j hj (by rw [he.out]; exact hj))⟩,HB.out⟩
theorem zH (I:List T) (s:ByteArray) (v:Value) (bs:List Nat) (w:World) (h:gm w [v] I bs):
  Calls Tryz.prog 286 #[v,.agg #[.bool true,.string s]] w fun e w'=>∃ r:Bool,e=.returned (.bool r)∧(r=true ↔ kL s I)∧Below w.heap.size w w':=by
 obtain ⟨Ad,cap,rfl,hl,hm⟩:=aj h;have y:Below w.heap.size w (w.alloc (.cells #[.bool true,.string s] 91)):=ζ;have U:=EN I s _ bs _ (aP.below h y);clear h hl hm
 go_enter Tryz.func286,Tryz.ntmps286
 go_wp2_with fail
 refine U.mono ?_;rintro e w1 ⟨r,rfl,hr,J⟩;have HR:=η hr;have B1:=η (y.trans (J.mono y.size));clear U hr y;go_wp2;go_ret;exact ⟨decide (0≤r),rfl,by rw [decide_eq_true_iff]; exact HR.out,B1.out⟩
namespace D
def sD (x:ByteArray) (p:Pt):Bool:=!p.no && p.atom.args.any fun t=>t.var && decide (gu t.name x=0)
theorem QY (p:Pt) (x:ByteArray):sD x p=true ↔ p.no=false∧kL x p.atom.args:=by
 unfold sD kL;simp only [ο,Bool.not_eq_true',List.any_eq_true,decide_eq_true_eq,iH.eq]
theorem OH {ps:List Pt} {x:ByteArray} {k:Nat} (y:k < ps.length) (h:sD x ps[k]=true):ja ps x=true:=by
 unfold ja; rw [List.any_eq_true]; exact ⟨_,δ y,h⟩
theorem QZ {ps:List Pt} {x:ByteArray} (h:ps.all (fun p=>!sD x p)=true):ja ps x=false:=by
 unfold ja;rw [List.any_eq_false];intro p y hb;have:=List.all_eq_true.1 h p y;rw [show sD x p=true from hb] at this; cases this
end D
theorem Ll (ps:List Pt) (x:ByteArray) (v:Value) (bs:List Nat) (w:World) (h:iY w [v] ps bs):
  Calls Tryz.prog 274 #[v,.string x] w fun e w'=>e=.returned (.bool (ja ps x))∧Below w.heap.size w w':=by
 obtain ⟨Ad,cap,rfl,hl,hm⟩:=aj h;have a5:=aA (τ hl hm);clear hl hm
 go_enter Tryz.func274,Tryz.ntmps274
 go_wp2
 go_loopw [9] (fun i wr=>∃ k:Nat,k≤ps.length∧i=.int .i64 k∧(ps.take k).all (fun p=>!sD x p)=true∧Below w.heap.size w wr) (fun i _=>ps.length - (intOf i).toNat)
 case atStart=>exact ⟨0,ε,rfl,rfl,ϑ⟩
 case round=>
  obtain ⟨k,hk,rfl,J,hb⟩:=hrel;have HA:=η J;clear J;by_cases y:k < ps.length
  ·obtain ⟨b,o,Ae,ce,bk,rfl,_,d0,d1,d2,a0,_⟩:=jd (dJ.below h hb) y
   have a6:(0:Int)≤(k:Int):=by omega
   have a3:(k:Int) < (ps.length:Int):=by omega
   have I:=η y;have hA:Below wr.heap.size wr (wr.alloc (.cells #[.bool ps[k].no,.string ps[k].atom.name,.slice Ae ps[k].atom.args.length ce] 42)):=ζ;have hc:=zH ps[k].atom.args x _ bk _ (aP.below (dI (jy a0)) hA);have HY:Hid (sD x ps[k]=true→ja ps x=true):=η (OH y);have HN:Hid (sD x ps[k]=false→(ps.take (k+1)).all (fun p=>!sD x p)=true):=η (fun e=>by rw [jo ps k y,HA.out]; show (true && !sD x ps[k])=true; rw [e]; rfl);have HB:=η (hb.trans (hA.mono hb.size));have HI:=η (QY ps[k] x);generalize ps[k]=p at *;obtain ⟨no,nm,args⟩:=p;dsimp only at *;clear h a0 hA hb y;cases no
   ·go_wp2_with fail
    refine hc.mono ?_;rintro e w1 ⟨r,rfl,hr,a1⟩;have HR:=η hr;have a2:=η (HB.out.trans (a1.mono HB.out.size));clear hc hr a1;cases r
    ·have U:=η (HN.out (by cases hx:sD x ⟨false,nm,args⟩; rfl; exact absurd (HR.out.2 (HI.out.1 hx).2) (by simp)))
     clear HN HY HR;go_wp2;go_roundw
     case rel=>exact ⟨k+1,I.out,by go_num,U.out,a2.out⟩
     case measure=>have:=I.out; simp [intOf]; omega
    ·have a4:=η (HY.out (HI.out.2 ⟨by simp,HR.out.1 rfl⟩))
     clear HN HY HR;go_wp2;go_ret;exact ⟨aG a4.out.symm,a2.out⟩
   ·have U:=η (HN.out (by cases hx:sD x ⟨true,nm,args⟩; rfl; exact absurd (HI.out.1 hx).1 (by simp)))
    clear HN HY hc;go_wp2;go_roundw
    case rel=>exact ⟨k+1,I.out,by go_num,U.out,HB.out⟩
    case measure=>have:=I.out; simp [intOf]; omega
  ·have he:=η (show k=ps.length by omega)
   have a3:¬ (k:Int) < (ps.length:Int):=by omega
   have HE:=η (QZ (ps:=ps) (x:=x) (by have:=HA.out; rw [he.out,ϕ ν] at this; exact this));have HB:=η hb;clear h hb;go_wp2;go_ret;exact ⟨aG HE.out.symm,HB.out⟩
theorem Ux (s:ByteArray) (w:World):(Instr.typeAssert (.iface 245 (.string s)) 239 241 true).run Tryz.prog w=.ok (.tuple #[.string ⟨#[]⟩,.bool false]) w:=by kernel_rfl
theorem yF (ps:List Pt) (a:A) (v c0 c1:Value) (bs b2:List Nat) (w:World) (h:iY w [v] ps bs) (h2:aJ w [c0,c1] a b2):
  Calls Tryz.prog 238 #[v,.agg #[c0,c1]] w fun e w'=>e=.returned (.bool (gK ps a))∧Below w.heap.size w w':=by
 obtain ⟨Ad,cap,rfl,hl,hm⟩:=aj h;have ht:=dI h2;obtain ⟨Aa,ca,rfl,rfl⟩:=bG h2;have am:=aA (τ hl hm);obtain ⟨_,_,ac,a7,a8⟩:=aj ht;have ao:=aA (τ a7 a8);have hA:Below w.heap.size w (w.alloc (.cells #[.string a.name,.slice Aa a.args.length ca] 33)):=ζ;clear hl hm a7 a8 ac h2;unfold gK;obtain ⟨an,args⟩:=a;dsimp only at *
 go_enter Tryz.func238,Tryz.ntmps238
 have a1:=Dl;have a2:=Ux;go_wp2
 go_loopw [12] (fun i wr=>∃ k:Nat,k≤args.length∧i=.int .i64 k∧(args.take k).all (fun t=>!t.var || ja ps t.name)=true∧Below w.heap.size w wr) (fun i _=>args.length - (intOf i).toNat)
 case atStart=>exact ⟨0,ε,rfl,rfl,hA⟩
 case round=>
  obtain ⟨k,hk,rfl,a3,hb⟩:=hrel;have HA:=η a3;clear a3 hA;by_cases I:k < args.length
  ·obtain ⟨b,o,rfl,_,d0,d1,_⟩:=fF (aP.below ht hb) I
   have aq:(0:Int)≤(k:Int):=by omega
   have ae:(k:Int) < (args.length:Int):=by omega
   have a0:=η I;have hA:Below wr.heap.size wr (wr.alloc (.cells #[.bool args[k].var,.string args[k].name] 91)):=ζ;have a9:=hb.trans (hA.mono hb.size);have y:=wO args[k] (wr.alloc (.cells #[.bool args[k].var,.string args[k].name] 91));have a5:=fun w' (af:Below w.heap.size w w')=>Ll ps args[k].name _ bs w' (dJ.below h af)
   have HY:Hid ((!args[k].var || ja ps args[k].name)=true→(args.take (k+1)).all (fun t=>!t.var || ja ps t.name)=true):=η (fun e=>by rw [jo args k I,HA.out]; show (true && (!args[k].var || ja ps args[k].name))=true; rw [e]; rfl);have HN:Hid ((!args[k].var || ja ps args[k].name)=false→args.all (fun t=>!t.var || ja ps t.name)=false):=η (fun e=>uN args k I e);have HB:=η a9;generalize args[k]=t at *;obtain ⟨tv,tn⟩:=t;dsimp only at *;clear h ht hA hb a9 I;cases tv
   ·simp only [Bool.false_eq_true,if_false] at y
    have a6:=η (HY.out rfl);clear HY HN a5
    go_wp2_with fail
    refine y.mono ?_;rintro e w1 ⟨rfl,J⟩;have U:=η (HB.out.trans (J.mono HB.out.size));clear y J;go_wp2;go_roundw
    case rel=>exact ⟨k+1,a0.out,by go_num,a6.out,U.out⟩
    case measure=>have:=a0.out; simp [intOf]; omega
   ·simp only [if_true] at y
    go_wp2_with fail
    refine y.mono ?_;rintro e w1 ⟨rfl,J⟩;have U:=η (HB.out.trans (J.mono HB.out.size));have hv:=tJ tn w1;have a4:=a5 w1 U.out;have HG:Hid ((!true || ja ps tn)=ja ps tn):=η rfl;rw [HG.out] at HY HN;generalize ja ps tn=r at *;clear y a5 J
    go_wp2_with fail
    refine hv.mono ?_;rintro e w2 ⟨rfl,rfl⟩
    go_wp2_with fail
    refine a4.mono ?_;rintro e w3 ⟨rfl,aa⟩;have ab:=η (U.out.trans (aa.mono U.out.size));clear hv a4 aa;cases r
    ·have ag:=η (HN.out rfl)
     clear HN HY;go_wp2;go_ret;exact ⟨aG ag.out.symm,ab.out⟩
    ·have a6:=η (HY.out rfl)
     clear HN HY;go_wp2;go_roundw
     case rel=>exact ⟨k+1,a0.out,by go_num,a6.out,ab.out⟩
     case measure=>have:=a0.out; simp [intOf]; omega
  ·have he:=η (show k=args.length by omega)
   have ae:¬ (k:Int) < (args.length:Int):=by omega
   have HE:Hid (args.all (fun t=>!t.var || ja ps t.name)=true):=η (by have:=HA.out; rw [he.out,ϕ ν] at this; exact this);have HB:=η hb;clear h ht hb;go_wp2;go_ret;exact ⟨aG HE.out.symm,HB.out⟩
theorem EO (ps:List Pt) (v:Value) (bs:List Nat) (w:World) (h:iY w [v] ps bs):
  Calls Tryz.prog 239 #[v] w fun e w'=>e=.returned (.bool (tu ps))∧Below w.heap.size w w':=by
 obtain ⟨Ad,cap,rfl,hl,hm⟩:=aj h;have a6:=aA (τ hl hm);clear hl hm;unfold tu
 go_enter Tryz.func239,Tryz.ntmps239
 go_wp2
 go_loopw [7] (fun i wr=>∃ k:Nat,k≤ps.length∧i=.int .i64 k∧(ps.take k).all (fun p=>gK ps p.atom)=true∧Below w.heap.size w wr) (fun i _=>ps.length - (intOf i).toNat)
 case atStart=>exact ⟨0,ε,rfl,rfl,ϑ⟩
 case round=>
  obtain ⟨k,hk,rfl,I,hb⟩:=hrel;have HA:=η I;clear I;by_cases y:k < ps.length
  ·obtain ⟨b,o,Ae,ce,bk,rfl,_,d0,d1,d2,U,_⟩:=jd (dJ.below h hb) y
   have a7:(0:Int)≤(k:Int):=by omega
   have a3:(k:Int) < (ps.length:Int):=by omega
   have a0:=η y;have hA:Below wr.heap.size wr (wr.alloc (.cells #[.bool ps[k].no,.string ps[k].atom.name,.slice Ae ps[k].atom.args.length ce] 42)):=ζ;have J:=hb.trans (hA.mono hb.size);have hc:=yF ps ps[k].atom _ _ _ bs bk _ (dJ.below h J) (au.below (jy U) hA);have HY:Hid (gK ps ps[k].atom=true→(ps.take (k+1)).all (fun p=>gK ps p.atom)=true):=η (fun e=>by rw [jo ps k y,HA.out]; show (true && gK ps ps[k].atom)=true; rw [e]; rfl);have HN:Hid (gK ps ps[k].atom=false→ps.all (fun p=>gK ps p.atom)=false):=η (fun e=>uN ps k y e);have HB:=η J;generalize gK ps ps[k].atom=r at *;generalize ps[k]=p at *;clear h U hA hb J y
   go_wp2_with fail
   refine hc.mono ?_;rintro e w1 ⟨rfl,a1⟩;have a2:=η (HB.out.trans (a1.mono HB.out.size));clear hc a1;cases r
   ·have a4:=η (HN.out rfl)
    clear HN HY;go_wp2;go_ret;exact ⟨aG (by rw [a4.out]; rfl),a2.out⟩
   ·have a5:=η (HY.out rfl)
    clear HN HY;go_wp2;go_roundw
    case rel=>exact ⟨k+1,a0.out,by go_num,a5.out,a2.out⟩
    case measure=>have:=a0.out; simp [intOf]; omega
  ·have he:=η (show k=ps.length by omega)
   have a3:¬ (k:Int) < (ps.length:Int):=by omega
   have HE:Hid (ps.all (fun p=>gK ps p.atom)=true):=η (by have:=HA.out; rw [he.out,ϕ ν] at this; exact this);have HB:=η hb;clear h hb;go_wp2;go_ret;exact ⟨aG (by rw [HE.out]; rfl),HB.out⟩
theorem Uy:(Tryz.prog.info? 244).map (fun i=>(i.zero,i.size,i.bytes))=some (some (.agg #[.int .i64 0,.string ⟨#[]⟩]),2,24):=by kernel_rfl
theorem Q7 (s:ByteArray) (w:World):(Instr.typeAssert (.iface 245 (.string s)) 239 241 true).run Tryz.prog w=.ok (.tuple #[.string ⟨#[]⟩,.bool false]) w:=by kernel_rfl
theorem D.Q8:(⟨#[]⟩:ByteArray).size≤maxLen:=by decide
theorem BA (vars:List ByteArray) (a:A) (A1 A2:Option Addr) (n1 q1 n2 q2:Nat) (v3 c0 c1:Value) (b3 b1:List Nat) (w:World) (hv:jK w [v3] vars b3) (hs:sZ vars) (aL:vars.length≤1000000) (h:aJ w [c0,c1] a b1) (hin:∀ t ∈ a.args,t.var=true→t.name ∈ vars) (br:a.args.length≤1000000):
  Calls Tryz.prog 114 #[.agg #[.slice A1 n1 q1,.slice A2 n2 q2,v3],.agg #[c0,c1]] w fun e w'=>∃ v bs,e=.returned (.agg #[.string a.name,v])∧Below w.heap.size w w'∧a.name.size≤maxLen∧kQ vars w' [v] a.args bs∧New w.heap.size w' bs:=by
 obtain ⟨i0,hi,aM,aR,b2⟩:=info_parts Uy;obtain ⟨nm,args⟩:=a;obtain ⟨Ae,ce,rfl,rfl⟩:=bG h;obtain ⟨A3,y,rfl,_⟩:=aj hv;have am:nm.size≤maxLen:=by obtain ⟨_,_,h1,_⟩:=h; exact h1
 have ht:=dI h;dsimp only at ht hin br am ⊢;have bt:=η hin;have bu:=η am;have HS:=η (ι hs aL);have HT:=η ht;have HV:=η hv;clear h hs aL hin am ht hv
 go_enter Tryz.func114,Tryz.ntmps114
 have hA:Below w.heap.size w ((((w.alloc (.cells #[.slice A1 n1 q1,.slice A2 n2 q2,.slice A3 vars.length y] 164)).alloc (.cells #[.string nm,.slice Ae args.length ce] 33)).alloc (.cells #[.string ⟨#[]⟩,.slice none 0 0] 168)).alloc (.cells #[.string nm,.slice none 0 0] 168)):=(((ζ).alloc (by simp) _).alloc (by simp; omega) _).alloc (by simp; omega) _
 have hq:((((w.alloc (.cells #[.slice A1 n1 q1,.slice A2 n2 q2,.slice A3 vars.length y] 164)).alloc (.cells #[.string nm,.slice Ae args.length ce] 33)).alloc (.cells #[.string ⟨#[]⟩,.slice none 0 0] 168)).alloc (.cells #[.string nm,.slice none 0 0] 168)).heap[w.heap.size]? = some (.cells #[.slice A1 n1 q1,.slice A2 n2 q2,.slice A3 vars.length y] 164 (0,0)):=by
  rw [Below.heap_alloc _ _ _ (by simp; omega),Below.heap_alloc _ _ _ (by simp; omega),Below.heap_alloc _ _ _ (by simp)]; exact ω _ _
 have b4:((((w.alloc (.cells #[.slice A1 n1 q1,.slice A2 n2 q2,.slice A3 vars.length y] 164)).alloc (.cells #[.string nm,.slice Ae args.length ce] 33)).alloc (.cells #[.string ⟨#[]⟩,.slice none 0 0] 168)).alloc (.cells #[.string nm,.slice none 0 0] 168)).heap[w.heap.size+2]? = some (.cells #[.string ⟨#[]⟩,.slice none 0 0] 168 (0,0)):=by
  rw [Below.heap_alloc _ _ _ (by simp)];have:=ω ((w.alloc (.cells #[.slice A1 n1 q1,.slice A2 n2 q2,.slice A3 vars.length y] 164)).alloc (.cells #[.string nm,.slice Ae args.length ce] 33)) (.cells #[.string ⟨#[]⟩,.slice none 0 0] 168);simpa using this
 have b5:((((w.alloc (.cells #[.slice A1 n1 q1,.slice A2 n2 q2,.slice A3 vars.length y] 164)).alloc (.cells #[.string nm,.slice Ae args.length ce] 33)).alloc (.cells #[.string ⟨#[]⟩,.slice none 0 0] 168)).alloc (.cells #[.string nm,.slice none 0 0] 168)).heap[w.heap.size+3]? = some (.cells #[.string nm,.slice none 0 0] 168 (0,0)):=by
  have:=ω (((w.alloc (.cells #[.slice A1 n1 q1,.slice A2 n2 q2,.slice A3 vars.length y] 164)).alloc (.cells #[.string nm,.slice Ae args.length ce] 33)).alloc (.cells #[.string ⟨#[]⟩,.slice none 0 0] 168)) (.cells #[.string nm,.slice none 0 0] 168);simpa using this
 have b6:Hid (yw 2 (DR vars) 244 168 w (w.heap.size+2) (w.heap.size+3) (w.heap.size+4) nm (.slice none 0 0) [] [] ((((w.alloc (.cells #[.slice A1 n1 q1,.slice A2 n2 q2,.slice A3 vars.length y] 164)).alloc (.cells #[.string nm,.slice Ae args.length ce] 33)).alloc (.cells #[.string ⟨#[]⟩,.slice none 0 0] 168)).alloc (.cells #[.string nm,.slice none 0 0] 168))):=
  η ⟨b4,b5,by omega,by omega,by omega,aY.nil _,hA,by simp⟩
 have HQ:=η hq;clear hA hq b4 b5;go_wp2;generalize ((((w.alloc (.cells #[.slice A1 n1 q1,.slice A2 n2 q2,.slice A3 vars.length y] 164)).alloc (.cells #[.string nm,.slice Ae args.length ce] 33)).alloc (.cells #[.string ⟨#[]⟩,.slice none 0 0] 168)).alloc (.cells #[.string nm,.slice none 0 0] 168))=W at *
 go_loopw [18] (fun i wr=>∃ (k:Nat) (Av:Option Addr) (cv:Nat) (L:List Value),k≤args.length∧i=.int .i64 k∧yw 2 (DR vars) 244 168 w (w.heap.size+2) (w.heap.size+3) (w.heap.size+4) nm (.slice Av k cv) L (args.take k) wr∧wr.heap[w.heap.size]? = some (.cells #[.slice A1 n1 q1,.slice A2 n2 q2,.slice A3 vars.length y] 164 (0,0))) (fun i _=>args.length - (intOf i).toNat)
 case atStart=>exact ⟨0,none,0,[],ε,rfl,b6.out,HQ.out⟩
 case round=>
  obtain ⟨k,Av,cv,L,hk,rfl,hI,hq⟩:=hrel;clear b6 HQ;by_cases a9:k < args.length
  ·obtain ⟨b,o,rfl,_,f0,f1,b7⟩:=fF (aP.below HT.out (hI.bel.mono ν)) a9
   have bA:(0:Int)≤(k:Int):=by omega
   have bv:(k:Int) < (args.length:Int):=by omega
   have af:=η a9;have b8:=η (ρ a9);have ao:Below wr.heap.size wr (wr.alloc (.cells #[.bool args[k].var,.string args[k].name] 91)):=ζ;have aa:=η (hI.later (gV vars) ao);have a0:=η ((ao.block _ (ψ hq)).trans hq);have bc:=η (bt.out args[k] (δ a9));have a4:=fun w=>wO args[k] w
   have bw:=η b7;have bf:Hid (((args.take k).length)=k):=η (by simp; omega);have bg:Hid (k+1≤maxLen):=η (by unfold maxLen; omega);have bh:Hid ((k+1) * 24≤140737488355328):=η (by omega);have a1:=Dl;have a2:=Q7;have a3:=J5;clear hI hq ao b7 hk;generalize args[k]=t at *;clear a9;obtain ⟨tv,U⟩:=t;dsimp only at *;cases tv
   ·have ag:=fun w=>xQ U w
    have HR:Hid (∀ w,DR vars w [.int .i64 (-1),.string U] ⟨false,U⟩ []):=η fun w=>⟨rfl,bw.out,rfl⟩
    simp only [Bool.false_eq_true,if_false] at a4
    go_wp2_with fail
    refine (a4 _).mono ?_;rintro e w2 ⟨rfl,J⟩;have a5:=η (aa.out.later (gV vars) (J.trans ϑ.drew));have I:=aa.out.later (gV vars) J;have a6:=(J.block _ (ψ a0.out)).trans a0.out;have a7:=η a6;have q1:w2.cell? ⟨w.heap.size+3,1,none⟩=some (.slice Av k cv):=ai I.r1;have q2:w2.frozen? ⟨w.heap.size+3,1,none⟩=false:=ax I.r1;have q3:w.heap.size+3 < w2.heap.size:=ψ I.r1;have HL:=η (a5.out.lit (gV vars) (DT vars) HR.out);have ET:(vars.idxOf U:Nat)=(vars.idxOf U:Nat):=rfl;clear a4 aa a0 I a6 HR ET;go_wp2
    go_region_law
     (first
      | (go_simp; go_at_call 177; refine (ag _).mono ?_; rintro e w5 ⟨rfl,rfl⟩)
      | (refine aV (by rfl) (.tmp 46) (.tmp 50) _ (by rfl) (w.heap.size+4) 244 i0 (.agg #[.int .i64 0,.string ⟨#[]⟩]) 2 24 Tryz.underlying166 hi aM aR b2 rfl (Θ 1) (gV vars) (.slice Av k cv) k L _ [] (by rfl) HL.out.1 bf.out (some ⟨w2.heap.size,0,none⟩) 1 1 _ [⟨false,U⟩] _ (by rfl) HL.out.2.1 rfl HL.out.2.2.1 (fun b hb=>by simp at hb) bg.out bh.out w2.drew (w.heap.size+4) HL.out.2.2.2.1 ν HL.out.2.2.2.2 ?_; intro A5 c5 w5 ab ac aq ar; have HZ:=η (a5.out.app (gV vars) ab ac); replace q1:=HZ.out.1; replace q2:=HZ.out.2.1; clear ab ac aq ar))
    all_goals
     have av:=η HZ.out.2.2.1;have aw:=η ((HZ.out.2.2.2 w.heap.size (by omega) (by omega)).trans a7.out);clear a5 HL HZ a7 q1 q2 q3;go_wp2;go_roundw
     case rel=>exact ⟨k+1,A5,c5,_,af.out,by go_num,by rw [b8.out]; exact av.out,aw.out⟩
     case measure=>have:=af.out; simp [intOf]; omega
   ·simp only [if_true] at a4
    have ag:=fun w=>tJ U w
    have az:Hid (∀ w',Below w.heap.size w w'→Calls Tryz.prog 175 #[.slice A3 vars.length y,.string U] w' fun e bx=>e=.returned (.tuple #[.int .i64 (vars.idxOf U:Nat),.bool true])∧Below w'.heap.size w' bx):=
     η fun w' hb=>J7 vars U _ b3 w' (bY.below HV.out hb) HS.out.1 (bc.out rfl) HS.out.2
    have HR:Hid (∀ w,DR vars w [.int .i64 (vars.idxOf U:Nat),.string ⟨#[]⟩] ⟨true,U⟩ []):=η fun w=>⟨rfl,Q8,rfl⟩
    obtain ⟨x,hx⟩:∃ x,x=vars.idxOf U:=⟨_,rfl⟩;rw [← hx] at HR az;clear hx
    go_wp2_with fail
    refine (a4 _).mono ?_;rintro e w2 ⟨rfl,J⟩;have I:=aa.out.later (gV vars) J;have a6:=(J.block _ (ψ a0.out)).trans a0.out;have bi:=η I.bel;have a5:=η I;have a7:=η a6;have q1:w2.cell? ⟨w.heap.size,2,none⟩=some (.slice A3 vars.length y):=ai a6;have bj:=az.out w2.drew bi.out.drew;clear a4 aa a0 I a6 az J;go_wp2
    go_region_held3 (fun w'=>w'.cell? ⟨w.heap.size,2,none⟩=some (.slice A3 vars.length y))
     (first | go_keep | exact y0)
     (first
      | (go_at_call 176; refine (ag _).mono ?_; rintro e w5 ⟨rfl,rfl⟩; have y0:=q1)
      | (go_at_call 175; refine bj.mono ?_; rintro e w3 ⟨rfl,aD⟩; have y0:=ξ aD q1))
    have ae:Below w2.heap.size w2 w3:=ϑ.drew.trans aD;have a8:=a5.out.later (gV vars) ae;have bk:=η a8;have bl:=η ((ae.block _ (ψ a7.out)).trans a7.out);have HL:=η (a8.lit (gV vars) (DT vars) HR.out);have q1:w3.cell? ⟨w.heap.size+3,1,none⟩=some (.slice Av k cv):=ai a8.r1;have q2:w3.frozen? ⟨w.heap.size+3,1,none⟩=false:=ax a8.r1;have q3:w.heap.size+3 < w3.heap.size:=ψ a8.r1;clear ae a8 a5 a7 bj bi ag HR aD
    go_wp2_with (first | (at_builtin; refine cO (by rfl) (.tmp 36) (.tmp 39) _ (by rfl) (w.heap.size+4) 244 i0 (.agg #[.int .i64 0,.string ⟨#[]⟩]) 2 24 Tryz.underlying166 hi aM aR b2 rfl (Θ 1) (gV vars) (.slice Av k cv) k L _ [] (by rfl) HL.out.1 bf.out (some ⟨w3.heap.size,0,none⟩) 1 1 _ [⟨true,U⟩] _ (by rfl) HL.out.2.1 rfl HL.out.2.2.1 (fun b hb=>by simp at hb) bg.out bh.out w3 (w.heap.size+4) HL.out.2.2.2.1 ν HL.out.2.2.2.2 ?_; intro A5 c5 w5 ab ac aq ar; have HZ:=η (bk.out.app (gV vars) ab ac); replace q1:=HZ.out.1; replace q2:=HZ.out.2.1; clear ab ac aq ar) | go_in)
    have av:=η HZ.out.2.2.1;have aw:=η ((HZ.out.2.2.2 w.heap.size (by omega) (by omega)).trans bl.out);clear bk HL HZ bl q1 q2 q3;go_wp2;go_roundw
    case rel=>exact ⟨k+1,A5,c5,_,af.out,by go_num,by rw [b8.out]; exact av.out,aw.out⟩
    case measure=>have:=af.out; simp [intOf]; omega
  ·have he:k=args.length:=by omega
   have bv:¬ (k:Int) < (args.length:Int):=by omega
   obtain ⟨W9,bn,bo,aE,b9,bp,bq⟩:=hI.done (gV vars);have y0:wr.cell? ⟨w.heap.size+3,0,none⟩=some (.string nm):=ai hI.r1;have y1:wr.cell? ⟨w.heap.size+3,1,none⟩=some (.slice Av k cv):=ai hI.r1;have f0:wr.frozen? ⟨w.heap.size+2,0,none⟩=false:=ax hI.r0;have f1:wr.frozen? ⟨w.heap.size+2,1,none⟩=false:=ax hI.r0;have z0:wr.cell? ⟨w.heap.size+2,0,none⟩=some (.string ⟨#[]⟩):=ai hI.r0;have z1:wr.cell? ⟨w.heap.size+2,1,none⟩=some (.slice none 0 0):=ai hI.r0;have u0:W9.cell? ⟨w.heap.size+2,0,none⟩=some (.string nm):=ai aE;have u1:W9.cell? ⟨w.heap.size+2,1,none⟩=some (.slice Av k cv):=ai aE
   have HD:Hid (∃ v bs,Ending.returned (.agg #[.string nm,.slice Av k cv])=.returned (.agg #[.string nm,v])∧Below w.heap.size w W9∧nm.size≤maxLen∧kQ vars W9 [v] args bs∧New w.heap.size W9 bs):=
    η ⟨_,b9,rfl,bo,bu.out,by rw [← ϕ (Nat.le_of_eq he.symm) (l:=args)]; exact bp,bq.mono (by omega)⟩
   have bz:=η bn;have HU:=η (ι u0 u1);clear hI hq bo aE bp bq bn he u0 u1;go_wp2;rw [← bz.out];refine bodyPost_ret (v:=.agg #[.string nm,.slice Av k cv]) (by simp [results,Tryz.results114,go_sem,HU.out.1,HU.out.2]) rfl (by obtain ⟨v,bs,q1,q2,q3,q4,q5⟩:=HD.out; exact ⟨v,q1,q2,q3,bs,q4,q5⟩)
end
end Go.Proofs.YtkjinanbccloeaaGreatDoor
