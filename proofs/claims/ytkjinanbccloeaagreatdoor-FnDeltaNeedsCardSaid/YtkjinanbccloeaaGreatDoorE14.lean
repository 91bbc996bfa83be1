/- Of the proof of FnDeltaNeeds: DoP, gZ, FsC, Bound, PatI, WoS. -/
import Derived.Test.YtkjinanbccloeaaGreatDoorE13
import Derived.Deep.RegionHeldLaw
set_option linter.unusedVariables false
set_option maxHeartbeats 4000000
set_option maxRecDepth 100000
namespace Go.Proofs.YtkjinanbccloeaaGreatDoor
section
open Go.RowKit D
def D.behind (xs:List A) (c:Ch):List A:=kY (cu xs c.goes) c.comes
def D.YU (xs:List A) (c:Ch):List A:=if (aU xs && fK c)=true then (if (behind xs c).length≤300 then behind xs c else []) else []
theorem D.Sl (L ys:List A) (k:Nat) (h:k < ys.length):kY L (ys.take (k+1))=eG (kY L (ys.take k)) ys[k]:=by
 unfold kY; rw [ρ h,List.foldl_append]; rfl
theorem D.jy {c:Ch} (h:fK c=true):aU c.comes=true∧aU c.goes=true:=by
 unfold fK at h; simp only [ο] at h; exact ⟨h.1.1,h.1.2⟩
theorem D.Px {xs:List A} (c:Ch) (h:gm xs=true):gm (behind xs c)=true:=yu (yt h)
theorem D.xK {xs:List A} {c:Ch} {x:A} (h:x ∈ behind xs c):x ∈ xs∨x ∈ c.comes:=(Eg h).imp qI id
theorem D.Py (xs:List A) (c:Ch):(behind xs c).length≤xs.length+c.comes.length:=by
 have h1:=uq c.comes (cu xs c.goes);have y:(cu xs c.goes).length≤xs.length:=List.length_filter_le _ _;unfold behind; omega
theorem D.JC {xs:List A} {c:Ch} (h:aU xs=true) (hc:fK c=true):∀ x ∈ behind xs c,dI x=true:=fun x y=>
 (xK y).elim (gU h x) (gU (jy hc).1 x)
theorem D.JD {xs:List A} {c:Ch} (h:aU xs=true) (hc:fK c=true):dA (gy xs c.goes) c.comes=behind xs c:=by
 rw [wV (dV h) (dV (jy hc).2)];exact OG (yt (dV h)) (dV (jy hc).1) (fun x y=>gU h x (qI y)) (gU (jy hc).1)
theorem D.Pz {xs:List A} {c:Ch} (h:EY xs) (hc:EY c.comes):(behind xs c).length≤2000000∧∀ x ∈ behind xs c,x.args.length≤16777216:=
 ⟨by have:=Py xs c; have:=h.1; have:=hc.1; omega,fun x y=>(xK y).elim (h.2 x) (hc.2 x)⟩
theorem Iu:(Tryz.prog.info? 40).map (fun i=>(i.zero,i.size,i.bytes))=some (some (.agg #[.string ⟨#[]⟩,.slice none 0 0,.slice none 0 0]),3,64):=by kernel_rfl
def D.AtS (a:A):Prop:=Sm a.name∧a.args.length≤4∧∀ t ∈ a.args,Sm t.name
def D.Uc (r:Ru):Prop:=AtS r.head∧r.body.length≤8∧∀ x ∈ r.body,X7 x
structure gZ (g p:Nat) (w:World) (xs:List Ru) (v:Value) (wr:World):Prop where
 coll:∃ L bs,aX 3 iy w.heap.size 40 wr v L xs bs∧∀ b ∈ bs,w.heap.size≤b
 small:∀ x ∈ xs,Uc x
 rdr:kQ g p wr
 kept:aI [g] w wr
 glt:g < w.heap.size
section
variable {g p:Nat} {w:World} {xs:List Ru} {v:Value} {wr:World}
theorem gZ.call {p2:Nat} {I:World} (h:gZ g p w xs v wr) (J:kQ g p2 I) (hK:aI [g] wr I):gZ g p2 w xs v I:=by
 obtain ⟨L,bs,U,y⟩:=h.coll;exact ⟨⟨L,bs,U.KG aY hK h.glt (fun hg=>by have:=y g hg; have:=h.glt; omega),y⟩,h.small,J,h.kept.trans hK,h.glt⟩
theorem gZ.below {I:World} (h:gZ g p w xs v wr) (hB:Below wr.heap.size wr I):gZ g p w xs v I:=by
 obtain ⟨L,bs,J,y⟩:=h.coll;exact ⟨⟨L,bs,J.below aY hB,y⟩,h.small,h.rdr.below hB,h.kept.eP hB h.kept.size,h.glt⟩
theorem gZ.rules (h:gZ g p w xs v wr):∃ bs,dW wr [v] xs bs∧∀ b ∈ bs,w.heap.size≤b:=by
 obtain ⟨L,bs,I,y⟩:=h.coll;obtain ⟨J,U,h2⟩:=I.slice;exact ⟨J,U,fun b hb=>(h2 b hb).elim id (y b)⟩
theorem gZ.shape (h:gZ g p w xs v wr):∃ A c,v=.slice A xs.length c:=by
 obtain ⟨L,bs,y,_⟩:=h.coll;exact dU y.own
theorem gZ.start (I:g < w.heap.size) (J:kQ g p w):gZ g p w [] (.slice (some ⟨w.heap.size,0,none⟩) 0 0) (w.alloc (.cells #[] 40)):=by
 have y:Below w.heap.size w (w.alloc (.cells #[] 40)):=ζ;exact ⟨⟨[],[],aX.empty (ω _ _) ν,fun b hb=>by simp at hb⟩,fun x U=>by simp at U,J.below y,aI.of_below y,I⟩
theorem gZ.arm {r:Ru} {c0 c1 c2:Value} {y:List Nat} {W:World} (h:gZ g p w xs v wr) (hB:Below wr.heap.size wr W) (hr:iy W [c0,c1,c2] r y) (I:∀ b ∈ y,wr.heap.size≤b):
  ∃ L bs,aX 3 iy w.heap.size 40 (W.alloc (.cells #[c0,c1,c2] 40)) v L xs bs∧(∀ b ∈ bs ++ y,w.heap.size≤b)∧aT 3 iy (W.alloc (.cells #[c0,c1,c2] 40)) [c0,c1,c2] [r] y∧
   Lies (W.alloc (.cells #[c0,c1,c2] 40)) (some ⟨W.heap.size,0,none⟩) [c0,c1,c2]∧(∀ b ∈ y,v.ownBlock ≠ some b)∧Below w.heap.size wr (W.alloc (.cells #[c0,c1,c2] 40))∧w.heap.size≤(W.alloc (.cells #[c0,c1,c2] 40)).heap.size:=by
 obtain ⟨L,bs,hC,J⟩:=h.coll;have hA:Below W.heap.size W (W.alloc (.cells #[c0,c1,c2] 40)):=ζ;have hs:=h.kept.size;have U:=hB.size;have hT:Below wr.heap.size wr (W.alloc (.cells #[c0,c1,c2] 40)):=hB.trans (hA.mono U);exact ⟨L,bs,hC.below aY hT,fun b hb=>(μ.1 hb).elim (J b) (fun hb=>by have:=I b hb; omega),aT.dJ oW (aY.below hr hA),aP (ω _ _),fun b hb=>jk hC.own (I b hb),hT.mono hs,by simp; omega⟩
theorem gZ.far (h:gZ g p w xs v wr) {b:Nat} (hb:wr.heap.size≤b):v.ownBlock ≠ some b:=by
 obtain ⟨L,bs,y,I⟩:=h.coll;exact jk y.own hb
theorem gZ.Xv {r:Ru} {c0 c1 c2:Value} {y:List Nat} {W:World} (h:gZ g p w xs v wr) (hB:Below wr.heap.size wr W) (hr:iy W [c0,c1,c2] r y) (I:∀ b ∈ y,w.heap.size≤b∧v.ownBlock ≠ some b):
  ∃ L bs,aX 3 iy w.heap.size 40 (W.alloc (.cells #[c0,c1,c2] 40)) v L xs bs∧(∀ b ∈ bs ++ y,w.heap.size≤b)∧aT 3 iy (W.alloc (.cells #[c0,c1,c2] 40)) [c0,c1,c2] [r] y∧
   Lies (W.alloc (.cells #[c0,c1,c2] 40)) (some ⟨W.heap.size,0,none⟩) [c0,c1,c2]∧(∀ b ∈ y,v.ownBlock ≠ some b)∧Below w.heap.size wr (W.alloc (.cells #[c0,c1,c2] 40))∧w.heap.size≤(W.alloc (.cells #[c0,c1,c2] 40)).heap.size:=by
 obtain ⟨L,bs,hC,J⟩:=h.coll;have hA:Below W.heap.size W (W.alloc (.cells #[c0,c1,c2] 40)):=ζ;have hs:=h.kept.size;have U:=hB.size;have hT:Below wr.heap.size wr (W.alloc (.cells #[c0,c1,c2] 40)):=hB.trans (hA.mono U);exact ⟨L,bs,hC.below aY hT,fun b hb=>(μ.1 hb).elim (J b) (fun hb=>(I b hb).1),aT.dJ oW (aY.below hr hA),aP (ω _ _),fun b hb=>(I b hb).2,hT.mono hs,by simp; omega⟩
theorem gZ.app {J:World} {v4:Value} {L4:List Value} {I:List Nat} {y:Ru} (h:gZ g p w xs v wr) (hC:aX 3 iy w.heap.size 40 J v4 L4 (xs ++ [y]) I) (U:∀ b ∈ I,w.heap.size≤b) (hB:Below w.heap.size wr J) (hy:Uc y):gZ g p w (xs ++ [y]) v4 J:=
 ⟨⟨L4,I,hC,U⟩,fun x hx=>(μ.1 hx).elim (h.small x) (fun hx=>by rw [ώ.1 hx]; exact hy),h.rdr.eP hB h.glt,h.kept.eP hB ν,h.glt⟩
end
def Vg (m g p q:Nat) (w:World) (e:Ending) (w':World):Prop:=
 ∃ (xs:List Ru) (v:Value) (y:Nat),e=.returned v∧xs.length≤m∧y≤p+q∧gZ g y w xs v w'
theorem D.Sr {w:World} {b:Nat} {no:Bool} {nm:ByteArray} {s:Value} {a:A} {U:List Nat} (h:w.heap[b]? = some (.cells #[.bool no,.string nm,s] 42 (0,0))) (ha:aJ w [.string nm,s] a U):jd w [.slice (some ⟨b,0,none⟩) 1 1] [⟨no,a⟩] (b :: U):=by
 obtain ⟨s',J,hn,ht⟩:=ha;simp only [List.cons.injEq,and_true,Value.string.injEq] at J;obtain ⟨rfl,rfl⟩:=J;refine ⟨_,1,rfl,ν,by unfold maxLen; omega,fun h=>by simp at h,fun _=>⟨b,0,rfl,fun _=>[.bool no,.string a.name,s],fun _=>U,by simp,fun k t I=>?_⟩⟩
 match k,I with
 | 0,I=>
  simp only [List.getElem?_cons_zero,Option.some.injEq] at I;subst I;refine ⟨rfl,fun j v y=>?_,s,rfl,hn,ht⟩
  match j,y with
  | 0,y=>rw [ai h]; simpa using y
  | 1,y=>rw [ai h]; simpa using y
  | 2,y=>rw [ai h]; simpa using y
  | j+3,y=>simp at y
 | k+1,I=>simp at I
theorem D.Bl {w:World} {b:Nat} {no U:Bool} {nm a0:ByteArray} {s s2:Value} {a a2:A} {b1 b2:List Nat} (h:w.heap[b]? = some (.cells #[.bool no,.string nm,s,.bool U,.string a0,s2] 42 (0,0)))
  (ha:aJ w [.string nm,s] a b1) (a1:aJ w [.string a0,s2] a2 b2):jd w [.slice (some ⟨b,0,none⟩) 2 2] [⟨no,a⟩,⟨U,a2⟩] (b :: (b1 ++ b2)):=by
 obtain ⟨s',I,hn,ht⟩:=ha;simp only [List.cons.injEq,and_true,Value.string.injEq] at I;obtain ⟨rfl,rfl⟩:=I;obtain ⟨a5,I,a3,a4⟩:=a1;simp only [List.cons.injEq,and_true,Value.string.injEq] at I;obtain ⟨rfl,rfl⟩:=I;refine ⟨_,2,rfl,ν,by unfold maxLen; omega,fun h=>by simp at h,fun _=>⟨b,0,rfl,fun k=>if k=0 then [.bool no,.string a.name,s] else [.bool U,.string a2.name,s2],fun k=>if k=0 then b1 else b2,by simp [List.range_succ],fun k t J=>?_⟩⟩
 match k,J with
 | 0,J=>
  simp only [List.getElem?_cons_zero,Option.some.injEq] at J;subst J;refine ⟨rfl,fun j v y=>?_,s,rfl,hn,ht⟩
  match j,y with
  | 0,y=>rw [ai h]; simpa using y
  | 1,y=>rw [ai h]; simpa using y
  | 2,y=>rw [ai h]; simpa using y
  | j+3,y=>simp at y
 | 1,J=>
  simp only [List.getElem?_cons_succ,List.getElem?_cons_zero,Option.some.injEq] at J;subst J;refine ⟨rfl,fun j v y=>?_,s2,rfl,a3,a4⟩
  match j,y with
  | 0,y=>rw [ai h]; simpa using y
  | 1,y=>rw [ai h]; simpa using y
  | 2,y=>rw [ai h]; simpa using y
  | j+3,y=>simp at y
 | k+2,J=>simp at J
theorem D.vV {w:World} {b:Nat} {x:ByteArray} {c:Bool} (h:w.heap[b]? = some (.cells #[.bool c,.string x] 91 (0,0))) (J:x.size≤maxLen):
  gG w [.slice (some ⟨b,0,none⟩) 1 1] [⟨c,x⟩] [b]:=by
 refine ⟨_,1,rfl,ν,by unfold maxLen; omega,fun h=>by simp at h,fun _=>⟨b,0,rfl,fun k=>[.bool c,.string x],fun _=>[],by simp,fun k t I=>?_⟩⟩
 match k,I with
 | 0,I=>
  simp only [List.getElem?_cons_zero,Option.some.injEq] at I;subst I;refine ⟨rfl,fun j v y=>?_,rfl,J,rfl⟩
  match j,y with
  | 0,y=>rw [ai h]; simpa using y
  | 1,y=>rw [ai h]; simpa using y
  | j+2,y=>simp at y
 | k+1,I=>simp at I
theorem qy (c:Ch) (c0 c1 y I:Value) (J U:List Nat) (w:World) (h:gK w [c0,c1] c J) (h2:gK w [y,I] c U):
  Calls Tryz.prog 31 #[.agg #[c0,c1],.agg #[y,I]] w fun e w'=>e=.returned (.bool true)∧Below w.heap.size w w':=
 (JA c c c0 c1 y I J U w h h2).mono fun e w' ⟨r,he,hr,hb⟩=>⟨by rw [he,hr.2 ⟨rfl,rfl⟩],hb⟩
end
section
open Go.RowKit D
attribute [local go_sem ↓] Go.wp_at_zero Go.wp_at_succ
theorem uQ {B:Nat} {a w:World} (h:Below B a w) (n:Nat):Below B a (w.drewN n):=⟨h.os,h.tape,h.output,h.size,h.block⟩
theorem Gm (y:List T) (s:ByteArray) (v:Value) (bs:List Nat) (w:World) (h:gG w [v] y bs):
  Calls Tryz.prog 289 #[v,.agg #[.bool true,.string s]] w fun e w'=>∃ r:Int,e=.returned (.int .i64 r)∧(0≤r ↔ kS s y)∧Below w.heap.size w w':=by
 obtain ⟨Ad,cap,rfl,hl,hm⟩:=aj h;have a6:=ay (τ hl hm);have hA:Below w.heap.size w (w.alloc (.cells #[.bool true,.string s] 91)):=ζ;have x0:(w.alloc (.cells #[.bool true,.string s] 91)).cell? ⟨w.heap.size,0,none⟩=some (.bool true):=by go_simp
 have x1:(w.alloc (.cells #[.bool true,.string s] 91)).cell? ⟨w.heap.size,1,none⟩=some (.string s):=by go_simp
 have I:=η (ι hA (ι x0 x1));clear hl hm hA x0 x1
 go_enter Tryz.func289,Tryz.ntmps289
 go_wp2
 go_loopw [5,8] (fun a i wr=>∃ k:Nat,k≤y.length∧i=.int .i64 k∧(∀ j (h1:j < y.length),j < k→¬ (y[j].var=true∧y[j].name=s))∧Below w.heap.size w wr∧wr.cell? ⟨w.heap.size,0,none⟩=some (.bool true)∧wr.cell? ⟨w.heap.size,1,none⟩=some (.string s)) (fun _ i _=>y.length - (intOf i).toNat)
 case atStart=>exact ⟨0,ε,rfl,fun j _ h=>by omega,I.out.1,I.out.2.1,I.out.2.2⟩
 case round=>
  obtain ⟨k,hk,rfl,a0,hb,x0,x1⟩:=hrel;have HA:=η a0;have HB:=η hb;clear a0 I;by_cases J:k < y.length
  ·obtain ⟨b,o,rfl,_,e0,e1,_⟩:=fJ (aQ.below h hb) J
   have a2:(0:Int)≤(k:Int):=by omega
   have a3:(k:Int) < (y.length:Int):=by omega
   have U:=η J;have HI:Hid (∀ (_:y[k].var=true∧y[k].name=s),kS s y):=η (fun e=>⟨_,δ J,e⟩)
   have HN:Hid (¬ (y[k].var=true∧y[k].name=s)→∀ j (h1:j < y.length),j < k+1→¬ (y[j].var=true∧y[j].name=s)):=η (fun e j h1 hj=>by
    by_cases a4:j=k
    ·subst a4; exact e
    ·exact HA.out j h1 (by omega))
   generalize y[k]=t at *;obtain ⟨tv,tn⟩:=t;dsimp only at *;clear hb J h;cases tv
   ·have a1:=η (HN.out (by simp))
    clear HI HN;go_wp2
    go_quiet (fail)
    go_wp2;go_roundw
    case rel=>exact ⟨k+1,U.out,by go_num,a1.out,uQ HB.out _,x0,x1⟩
    case measure=>have:=U.out; simp [intOf]; omega
   ·cases hs:(s.toList == tn.toList)
    ·have a1:=η (HN.out (fun e=>by rw [e.2] at hs; simp at hs))
     clear HI HN;go_wp2
     go_quiet (fail)
     go_wp2;go_roundw
     case rel=>exact ⟨k+1,U.out,by go_num,a1.out,uQ HB.out _,x0,x1⟩
     case measure=>have:=U.out; simp [intOf]; omega
    ·have a5:=η (HI.out ⟨rfl,by have:=(iL.eq s tn).1 (by have h9:=D6 s tn; rw [hs] at h9; simpa using h9.symm); exact this.symm⟩)
     clear HI HN;go_wp2
     go_quiet (fail)
     go_wp2;go_ret;exact ⟨k,rfl,⟨fun _=>a5.out,fun _=>a2⟩,uQ HB.out _⟩
  ·have he:=η (show k=y.length by omega)
   have a3:¬ (k:Int) < (y.length:Int):=by omega
   clear h hb;go_wp2;go_ret
   exact ⟨-1,rfl,⟨fun h0=>absurd h0 (by decide),fun ⟨t,ht,h1⟩=>by
    obtain ⟨j,hj,rfl⟩:=List.mem_iff_getElem.1 ht
    exact absurd h1 (HA.out j hj (by rw [he.out]; exact hj))⟩,HB.out⟩
theorem Bq (I:List T) (s:ByteArray) (v:Value) (bs:List Nat) (w:World) (h:gG w [v] I bs):
  Calls Tryz.prog 286 #[v,.agg #[.bool true,.string s]] w fun e w'=>∃ r:Bool,e=.returned (.bool r)∧(r=true ↔ kS s I)∧Below w.heap.size w w':=by
 obtain ⟨Ad,cap,rfl,hl,hm⟩:=aj h;have y:Below w.heap.size w (w.alloc (.cells #[.bool true,.string s] 91)):=ζ;have U:=Gm I s _ bs _ (aQ.below h y);clear h hl hm
 go_enter Tryz.func286,Tryz.ntmps286
 go_wp2_with fail
 refine U.mono ?_;rintro e w1 ⟨r,rfl,hr,J⟩;have HR:=η hr;have B1:=η (y.trans (J.mono y.size));clear U hr y;go_wp2;go_ret;exact ⟨decide (0≤r),rfl,by rw [decide_eq_true_iff]; exact HR.out,B1.out⟩
namespace D
def tK (x:ByteArray) (p:Pt):Bool:=!p.no && p.atom.args.any fun t=>t.var && decide (gJ t.name x=0)
theorem Sv (p:Pt) (x:ByteArray):tK x p=true ↔ p.no=false∧kS x p.atom.args:=by
 unfold tK kS;simp only [ο,Bool.not_eq_true',List.any_eq_true,decide_eq_true_eq,iL.eq]
theorem PD {ps:List Pt} {x:ByteArray} {k:Nat} (y:k < ps.length) (h:tK x ps[k]=true):jf ps x=true:=by
 unfold jf; rw [List.any_eq_true]; exact ⟨_,δ y,h⟩
theorem Sz {ps:List Pt} {x:ByteArray} (h:ps.all (fun p=>!tK x p)=true):jf ps x=false:=by
 unfold jf;rw [List.any_eq_false];intro p y hb;have:=ό.1 h p y;rw [show tK x p=true from hb] at this; cases this
end D
theorem MQ (ps:List Pt) (x:ByteArray) (v:Value) (bs:List Nat) (w:World) (h:jd w [v] ps bs):
  Calls Tryz.prog 274 #[v,.string x] w fun e w'=>e=.returned (.bool (jf ps x))∧Below w.heap.size w w':=by
 obtain ⟨Ad,cap,rfl,hl,hm⟩:=aj h;have a5:=ay (τ hl hm);clear hl hm
 go_enter Tryz.func274,Tryz.ntmps274
 go_wp2
 go_loopw [9] (fun i wr=>∃ k:Nat,k≤ps.length∧i=.int .i64 k∧(ps.take k).all (fun p=>!tK x p)=true∧Below w.heap.size w wr) (fun i _=>ps.length - (intOf i).toNat)
 case atStart=>exact ⟨0,ε,rfl,rfl,ϑ⟩
 case round=>
  obtain ⟨k,hk,rfl,J,hb⟩:=hrel;have HA:=η J;clear J;by_cases y:k < ps.length
  ·obtain ⟨b,o,Ae,ce,bk,rfl,_,d0,d1,d2,a0,_⟩:=iV (dN.below h hb) y
   have a6:(0:Int)≤(k:Int):=by omega
   have a3:(k:Int) < (ps.length:Int):=by omega
   have I:=η y;have hA:Below wr.heap.size wr (wr.alloc (.cells #[.bool ps[k].no,.string ps[k].atom.name,.slice Ae ps[k].atom.args.length ce] 42)):=ζ;have hc:=Bq ps[k].atom.args x _ bk _ (aQ.below (dM (jD a0)) hA);have HY:Hid (tK x ps[k]=true→jf ps x=true):=η (PD y);have HN:Hid (tK x ps[k]=false→(ps.take (k+1)).all (fun p=>!tK x p)=true):=η (fun e=>by rw [jw ps k y,HA.out]; show (true && !tK x ps[k])=true; rw [e]; rfl);have HB:=η (hb.trans (hA.mono hb.size));have HI:=η (Sv ps[k] x);generalize ps[k]=p at *;obtain ⟨no,nm,args⟩:=p;dsimp only at *;clear h a0 hA hb y;cases no
   ·go_wp2_with fail
    refine hc.mono ?_;rintro e w1 ⟨r,rfl,hr,a1⟩;have HR:=η hr;have a2:=η (HB.out.trans (a1.mono HB.out.size));clear hc hr a1;cases r
    ·have U:=η (HN.out (by cases hx:tK x ⟨false,nm,args⟩; rfl; exact absurd (HR.out.2 (HI.out.1 hx).2) (by simp)))
     clear HN HY HR;go_wp2;go_roundw
     case rel=>exact ⟨k+1,I.out,by go_num,U.out,a2.out⟩
     case measure=>have:=I.out; simp [intOf]; omega
    ·have a4:=η (HY.out (HI.out.2 ⟨by simp,HR.out.1 rfl⟩))
     clear HN HY HR;go_wp2;go_ret;exact ⟨aH a4.out.symm,a2.out⟩
   ·have U:=η (HN.out (by cases hx:tK x ⟨true,nm,args⟩; rfl; exact absurd (HI.out.1 hx).1 (by simp)))
    clear HN HY hc;go_wp2;go_roundw
    case rel=>exact ⟨k+1,I.out,by go_num,U.out,HB.out⟩
    case measure=>have:=I.out; simp [intOf]; omega
  ·have he:=η (show k=ps.length by omega)
   have a3:¬ (k:Int) < (ps.length:Int):=by omega
   have HE:=η (Sz (ps:=ps) (x:=x) (by have:=HA.out; rw [he.out,ϕ ν] at this; exact this));have HB:=η hb;clear h hb;go_wp2;go_ret;exact ⟨aH HE.out.symm,HB.out⟩
theorem Vh (s:ByteArray) (w:World):(Instr.typeAssert (.iface 245 (.string s)) 239 241 true).run Tryz.prog w=.ok (.tuple #[.string ⟨#[]⟩,.bool false]) w:=by kernel_rfl
theorem yZ (ps:List Pt) (a:A) (v c0 c1:Value) (bs b2:List Nat) (w:World) (h:jd w [v] ps bs) (h2:aJ w [c0,c1] a b2):
  Calls Tryz.prog 238 #[v,.agg #[c0,c1]] w fun e w'=>e=.returned (.bool (gY ps a))∧Below w.heap.size w w':=by
 obtain ⟨Ad,cap,rfl,hl,hm⟩:=aj h;have ht:=dM h2;obtain ⟨Aa,ca,rfl,rfl⟩:=bG h2;have am:=ay (τ hl hm);obtain ⟨_,_,ac,a7,a8⟩:=aj ht;have ao:=ay (τ a7 a8);have hA:Below w.heap.size w (w.alloc (.cells #[.string a.name,.slice Aa a.args.length ca] 33)):=ζ;clear hl hm a7 a8 ac h2;unfold gY;obtain ⟨an,args⟩:=a;dsimp only at *
 go_enter Tryz.func238,Tryz.ntmps238
 have a1:=Ey;have a2:=Vh;go_wp2
 go_loopw [12] (fun i wr=>∃ k:Nat,k≤args.length∧i=.int .i64 k∧(args.take k).all (fun t=>!t.var || jf ps t.name)=true∧Below w.heap.size w wr) (fun i _=>args.length - (intOf i).toNat)
 case atStart=>exact ⟨0,ε,rfl,rfl,hA⟩
 case round=>
  obtain ⟨k,hk,rfl,a3,hb⟩:=hrel;have HA:=η a3;clear a3 hA;by_cases I:k < args.length
  ·obtain ⟨b,o,rfl,_,d0,d1,_⟩:=fJ (aQ.below ht hb) I
   have aq:(0:Int)≤(k:Int):=by omega
   have ae:(k:Int) < (args.length:Int):=by omega
   have a0:=η I;have hA:Below wr.heap.size wr (wr.alloc (.cells #[.bool args[k].var,.string args[k].name] 91)):=ζ;have a9:=hb.trans (hA.mono hb.size);have y:=xA args[k] (wr.alloc (.cells #[.bool args[k].var,.string args[k].name] 91));have a5:=fun w' (af:Below w.heap.size w w')=>MQ ps args[k].name _ bs w' (dN.below h af)
   have HY:Hid ((!args[k].var || jf ps args[k].name)=true→(args.take (k+1)).all (fun t=>!t.var || jf ps t.name)=true):=η (fun e=>by rw [jw args k I,HA.out]; show (true && (!args[k].var || jf ps args[k].name))=true; rw [e]; rfl);have HN:Hid ((!args[k].var || jf ps args[k].name)=false→args.all (fun t=>!t.var || jf ps t.name)=false):=η (fun e=>vI args k I e);have HB:=η a9;generalize args[k]=t at *;obtain ⟨tv,tn⟩:=t;dsimp only at *;clear h ht hA hb a9 I;cases tv
   ·simp only [Bool.false_eq_true,if_false] at y
    have a6:=η (HY.out rfl);clear HY HN a5
    go_wp2_with fail
    refine y.mono ?_;rintro e w1 ⟨rfl,J⟩;have U:=η (HB.out.trans (J.mono HB.out.size));clear y J;go_wp2;go_roundw
    case rel=>exact ⟨k+1,a0.out,by go_num,a6.out,U.out⟩
    case measure=>have:=a0.out; simp [intOf]; omega
   ·simp only [if_true] at y
    go_wp2_with fail
    refine y.mono ?_;rintro e w1 ⟨rfl,J⟩;have U:=η (HB.out.trans (J.mono HB.out.size));have hv:=uF tn w1;have a4:=a5 w1 U.out;have HG:Hid ((!true || jf ps tn)=jf ps tn):=η rfl;rw [HG.out] at HY HN;generalize jf ps tn=r at *;clear y a5 J
    go_wp2_with fail
    refine hv.mono ?_;rintro e w2 ⟨rfl,rfl⟩
    go_wp2_with fail
    refine a4.mono ?_;rintro e w3 ⟨rfl,aa⟩;have ab:=η (U.out.trans (aa.mono U.out.size));clear hv a4 aa;cases r
    ·have ag:=η (HN.out rfl)
     clear HN HY;go_wp2;go_ret;exact ⟨aH ag.out.symm,ab.out⟩
    ·have a6:=η (HY.out rfl)
     clear HN HY;go_wp2;go_roundw
     case rel=>exact ⟨k+1,a0.out,by go_num,a6.out,ab.out⟩
     case measure=>have:=a0.out; simp [intOf]; omega
  ·have he:=η (show k=args.length by omega)
   have ae:¬ (k:Int) < (args.length:Int):=by omega
   have HE:Hid (args.all (fun t=>!t.var || jf ps t.name)=true):=η (by have:=HA.out; rw [he.out,ϕ ν] at this; exact this);have HB:=η hb;clear h ht hb;go_wp2;go_ret;exact ⟨aH HE.out.symm,HB.out⟩
theorem Gn (ps:List Pt) (v:Value) (bs:List Nat) (w:World) (h:jd w [v] ps bs):
  Calls Tryz.prog 239 #[v] w fun e w'=>e=.returned (.bool (uz ps))∧Below w.heap.size w w':=by
 obtain ⟨Ad,cap,rfl,hl,hm⟩:=aj h;have a6:=ay (τ hl hm);clear hl hm;unfold uz
 go_enter Tryz.func239,Tryz.ntmps239
 go_wp2
 go_loopw [7] (fun i wr=>∃ k:Nat,k≤ps.length∧i=.int .i64 k∧(ps.take k).all (fun p=>gY ps p.atom)=true∧Below w.heap.size w wr) (fun i _=>ps.length - (intOf i).toNat)
 case atStart=>exact ⟨0,ε,rfl,rfl,ϑ⟩
 case round=>
  obtain ⟨k,hk,rfl,I,hb⟩:=hrel;have HA:=η I;clear I;by_cases y:k < ps.length
  ·obtain ⟨b,o,Ae,ce,bk,rfl,_,d0,d1,d2,U,_⟩:=iV (dN.below h hb) y
   have a7:(0:Int)≤(k:Int):=by omega
   have a3:(k:Int) < (ps.length:Int):=by omega
   have a0:=η y;have hA:Below wr.heap.size wr (wr.alloc (.cells #[.bool ps[k].no,.string ps[k].atom.name,.slice Ae ps[k].atom.args.length ce] 42)):=ζ;have J:=hb.trans (hA.mono hb.size);have hc:=yZ ps ps[k].atom _ _ _ bs bk _ (dN.below h J) (ak.below (jD U) hA);have HY:Hid (gY ps ps[k].atom=true→(ps.take (k+1)).all (fun p=>gY ps p.atom)=true):=η (fun e=>by rw [jw ps k y,HA.out]; show (true && gY ps ps[k].atom)=true; rw [e]; rfl);have HN:Hid (gY ps ps[k].atom=false→ps.all (fun p=>gY ps p.atom)=false):=η (fun e=>vI ps k y e);have HB:=η J;generalize gY ps ps[k].atom=r at *;generalize ps[k]=p at *;clear h U hA hb J y
   go_wp2_with fail
   refine hc.mono ?_;rintro e w1 ⟨rfl,a1⟩;have a2:=η (HB.out.trans (a1.mono HB.out.size));clear hc a1;cases r
   ·have a4:=η (HN.out rfl)
    clear HN HY;go_wp2;go_ret;exact ⟨aH (by rw [a4.out]; rfl),a2.out⟩
   ·have a5:=η (HY.out rfl)
    clear HN HY;go_wp2;go_roundw
    case rel=>exact ⟨k+1,a0.out,by go_num,a5.out,a2.out⟩
    case measure=>have:=a0.out; simp [intOf]; omega
  ·have he:=η (show k=ps.length by omega)
   have a3:¬ (k:Int) < (ps.length:Int):=by omega
   have HE:Hid (ps.all (fun p=>gY ps p.atom)=true):=η (by have:=HA.out; rw [he.out,ϕ ν] at this; exact this);have HB:=η hb;clear h hb;go_wp2;go_ret;exact ⟨aH (by rw [HE.out]; rfl),HB.out⟩
theorem Vj:(Tryz.prog.info? 244).map (fun i=>(i.zero,i.size,i.bytes))=some (some (.agg #[.int .i64 0,.string ⟨#[]⟩]),2,24):=by kernel_rfl
theorem SA (s:ByteArray) (w:World):(Instr.typeAssert (.iface 245 (.string s)) 239 241 true).run Tryz.prog w=.ok (.tuple #[.string ⟨#[]⟩,.bool false]) w:=by kernel_rfl
theorem D.SB:(⟨#[]⟩:ByteArray).size≤maxLen:=by decide
theorem Dj (vars:List ByteArray) (a:A) (A1 A2:Option Addr) (n1 q1 n2 q2:Nat) (v3 c0 c1:Value) (b3 b1:List Nat) (w:World) (hv:iF w [v3] vars b3) (hs:oZ vars) (aL:vars.length≤1000000) (h:aJ w [c0,c1] a b1) (hin:∀ t ∈ a.args,t.var=true→t.name ∈ vars) (br:a.args.length≤1000000):
  Calls Tryz.prog 114 #[.agg #[.slice A1 n1 q1,.slice A2 n2 q2,v3],.agg #[c0,c1]] w fun e w'=>∃ v bs,e=.returned (.agg #[.string a.name,v])∧Below w.heap.size w w'∧a.name.size≤maxLen∧kV vars w' [v] a.args bs∧New w.heap.size w' bs:=by
 obtain ⟨i0,hi,aM,aR,b2⟩:=info_parts Vj;obtain ⟨nm,args⟩:=a;obtain ⟨Ae,ce,rfl,rfl⟩:=bG h;obtain ⟨A3,y,rfl,_⟩:=aj hv;have am:nm.size≤maxLen:=by obtain ⟨_,_,h1,_⟩:=h; exact h1
 have ht:=dM h;dsimp only at ht hin br am ⊢;have bt:=η hin;have bu:=η am;have HS:=η (ι hs aL);have HT:=η ht;have HV:=η hv;clear h hs aL hin am ht hv
 go_enter Tryz.func114,Tryz.ntmps114
 have hA:Below w.heap.size w ((((w.alloc (.cells #[.slice A1 n1 q1,.slice A2 n2 q2,.slice A3 vars.length y] 164)).alloc (.cells #[.string nm,.slice Ae args.length ce] 33)).alloc (.cells #[.string ⟨#[]⟩,.slice none 0 0] 168)).alloc (.cells #[.string nm,.slice none 0 0] 168)):=(((ζ).alloc (by simp) _).alloc (by simp; omega) _).alloc (by simp; omega) _
 have hq:((((w.alloc (.cells #[.slice A1 n1 q1,.slice A2 n2 q2,.slice A3 vars.length y] 164)).alloc (.cells #[.string nm,.slice Ae args.length ce] 33)).alloc (.cells #[.string ⟨#[]⟩,.slice none 0 0] 168)).alloc (.cells #[.string nm,.slice none 0 0] 168)).heap[w.heap.size]? = some (.cells #[.slice A1 n1 q1,.slice A2 n2 q2,.slice A3 vars.length y] 164 (0,0)):=by
  rw [Below.heap_alloc _ _ _ (by simp; omega),Below.heap_alloc _ _ _ (by simp; omega),Below.heap_alloc _ _ _ (by simp)]; exact ω _ _
 have b4:((((w.alloc (.cells #[.slice A1 n1 q1,.slice A2 n2 q2,.slice A3 vars.length y] 164)).alloc (.cells #[.string nm,.slice Ae args.length ce] 33)).alloc (.cells #[.string ⟨#[]⟩,.slice none 0 0] 168)).alloc (.cells #[.string nm,.slice none 0 0] 168)).heap[w.heap.size+2]? = some (.cells #[.string ⟨#[]⟩,.slice none 0 0] 168 (0,0)):=by
  rw [Below.heap_alloc _ _ _ (by simp)];have:=ω ((w.alloc (.cells #[.slice A1 n1 q1,.slice A2 n2 q2,.slice A3 vars.length y] 164)).alloc (.cells #[.string nm,.slice Ae args.length ce] 33)) (.cells #[.string ⟨#[]⟩,.slice none 0 0] 168);simpa using this
 have b5:((((w.alloc (.cells #[.slice A1 n1 q1,.slice A2 n2 q2,.slice A3 vars.length y] 164)).alloc (.cells #[.string nm,.slice Ae args.length ce] 33)).alloc (.cells #[.string ⟨#[]⟩,.slice none 0 0] 168)).alloc (.cells #[.string nm,.slice none 0 0] 168)).heap[w.heap.size+3]? = some (.cells #[.string nm,.slice none 0 0] 168 (0,0)):=by
  have:=ω (((w.alloc (.cells #[.slice A1 n1 q1,.slice A2 n2 q2,.slice A3 vars.length y] 164)).alloc (.cells #[.string nm,.slice Ae args.length ce] 33)).alloc (.cells #[.string ⟨#[]⟩,.slice none 0 0] 168)) (.cells #[.string nm,.slice none 0 0] 168);simpa using this
 have b6:Hid (yS 2 (EW vars) 244 168 w (w.heap.size+2) (w.heap.size+3) (w.heap.size+4) nm (.slice none 0 0) [] [] ((((w.alloc (.cells #[.slice A1 n1 q1,.slice A2 n2 q2,.slice A3 vars.length y] 164)).alloc (.cells #[.string nm,.slice Ae args.length ce] 33)).alloc (.cells #[.string ⟨#[]⟩,.slice none 0 0] 168)).alloc (.cells #[.string nm,.slice none 0 0] 168))):=
  η ⟨b4,b5,by omega,by omega,by omega,aX.nil _,hA,by simp⟩
 have HQ:=η hq;clear hA hq b4 b5;go_wp2;generalize ((((w.alloc (.cells #[.slice A1 n1 q1,.slice A2 n2 q2,.slice A3 vars.length y] 164)).alloc (.cells #[.string nm,.slice Ae args.length ce] 33)).alloc (.cells #[.string ⟨#[]⟩,.slice none 0 0] 168)).alloc (.cells #[.string nm,.slice none 0 0] 168))=W at *
 go_loopw [18] (fun i wr=>∃ (k:Nat) (Av:Option Addr) (cv:Nat) (L:List Value),k≤args.length∧i=.int .i64 k∧yS 2 (EW vars) 244 168 w (w.heap.size+2) (w.heap.size+3) (w.heap.size+4) nm (.slice Av k cv) L (args.take k) wr∧wr.heap[w.heap.size]? = some (.cells #[.slice A1 n1 q1,.slice A2 n2 q2,.slice A3 vars.length y] 164 (0,0))) (fun i _=>args.length - (intOf i).toNat)
 case atStart=>exact ⟨0,none,0,[],ε,rfl,b6.out,HQ.out⟩
 case round=>
  obtain ⟨k,Av,cv,L,hk,rfl,hI,hq⟩:=hrel;clear b6 HQ;by_cases a9:k < args.length
  ·obtain ⟨b,o,rfl,_,f0,f1,b7⟩:=fJ (aQ.below HT.out (hI.bel.mono ν)) a9
   have bA:(0:Int)≤(k:Int):=by omega
   have bv:(k:Int) < (args.length:Int):=by omega
   have af:=η a9;have b8:=η (ρ a9);have ao:Below wr.heap.size wr (wr.alloc (.cells #[.bool args[k].var,.string args[k].name] 91)):=ζ;have aa:=η (hI.later (ig vars) ao);have a0:=η ((ao.block _ (ψ hq)).trans hq);have bc:=η (bt.out args[k] (δ a9));have a4:=fun w=>xA args[k] w
   have bw:=η b7;have bf:Hid (((args.take k).length)=k):=η (by simp; omega);have bg:Hid (k+1≤maxLen):=η (by unfold maxLen; omega);have bh:Hid ((k+1) * 24≤140737488355328):=η (by omega);have a1:=Ey;have a2:=SA;have a3:=Lc;clear hI hq ao b7 hk;generalize args[k]=t at *;clear a9;obtain ⟨tv,U⟩:=t;dsimp only at *;cases tv
   ·have ag:=fun w=>yD U w
    have HR:Hid (∀ w,EW vars w [.int .i64 (-1),.string U] ⟨false,U⟩ []):=η fun w=>⟨rfl,bw.out,rfl⟩
    simp only [Bool.false_eq_true,if_false] at a4
    go_wp2_with fail
    refine (a4 _).mono ?_;rintro e w2 ⟨rfl,J⟩;have a5:=η (aa.out.later (ig vars) (J.trans ϑ.drew));have I:=aa.out.later (ig vars) J;have a6:=(J.block _ (ψ a0.out)).trans a0.out;have a7:=η a6;have q1:w2.cell? ⟨w.heap.size+3,1,none⟩=some (.slice Av k cv):=ai I.r1;have q2:w2.frozen? ⟨w.heap.size+3,1,none⟩=false:=ax I.r1;have q3:w.heap.size+3 < w2.heap.size:=ψ I.r1;have HL:=η (a5.out.lit (ig vars) (EX vars) HR.out);have ET:(vars.idxOf U:Nat)=(vars.idxOf U:Nat):=rfl;clear a4 aa a0 I a6 HR ET;go_wp2
    go_region_law
     (first
      | (go_simp; go_at_call 177; refine (ag _).mono ?_; rintro e w5 ⟨rfl,rfl⟩)
      | (refine aV (by rfl) (.tmp 46) (.tmp 50) _ (by rfl) (w.heap.size+4) 244 i0 (.agg #[.int .i64 0,.string ⟨#[]⟩]) 2 24 Tryz.underlying166 hi aM aR b2 rfl (Θ 1) (ig vars) (.slice Av k cv) k L _ [] (by rfl) HL.out.1 bf.out (some ⟨w2.heap.size,0,none⟩) 1 1 _ [⟨false,U⟩] _ (by rfl) HL.out.2.1 rfl HL.out.2.2.1 (fun b hb=>by simp at hb) bg.out bh.out w2.drew (w.heap.size+4) HL.out.2.2.2.1 ν HL.out.2.2.2.2 ?_; intro A5 c5 w5 ab ac aq ar; have HZ:=η (a5.out.app (ig vars) ab ac); replace q1:=HZ.out.1; replace q2:=HZ.out.2.1; clear ab ac aq ar))
    all_goals
     have av:=η HZ.out.2.2.1;have aw:=η ((HZ.out.2.2.2 w.heap.size (by omega) (by omega)).trans a7.out);clear a5 HL HZ a7 q1 q2 q3;go_wp2;go_roundw
     case rel=>exact ⟨k+1,A5,c5,_,af.out,by go_num,by rw [b8.out]; exact av.out,aw.out⟩
     case measure=>have:=af.out; simp [intOf]; omega
   ·simp only [if_true] at a4
    have ag:=fun w=>uF U w
    have az:Hid (∀ w',Below w.heap.size w w'→Calls Tryz.prog 175 #[.slice A3 vars.length y,.string U] w' fun e bx=>e=.returned (.tuple #[.int .i64 (vars.idxOf U:Nat),.bool true])∧Below w'.heap.size w' bx):=
     η fun w' hb=>Lh vars U _ b3 w' (bP.below HV.out hb) HS.out.1 (bc.out rfl) HS.out.2
    have HR:Hid (∀ w,EW vars w [.int .i64 (vars.idxOf U:Nat),.string ⟨#[]⟩] ⟨true,U⟩ []):=η fun w=>⟨rfl,SB,rfl⟩
    obtain ⟨x,hx⟩:∃ x,x=vars.idxOf U:=⟨_,rfl⟩;rw [← hx] at HR az;clear hx
    go_wp2_with fail
    refine (a4 _).mono ?_;rintro e w2 ⟨rfl,J⟩;have I:=aa.out.later (ig vars) J;have a6:=(J.block _ (ψ a0.out)).trans a0.out;have bi:=η I.bel;have a5:=η I;have a7:=η a6;have q1:w2.cell? ⟨w.heap.size,2,none⟩=some (.slice A3 vars.length y):=ai a6;have bj:=az.out w2.drew bi.out.drew;clear a4 aa a0 I a6 az J;go_wp2
    go_region_held3 (fun w'=>w'.cell? ⟨w.heap.size,2,none⟩=some (.slice A3 vars.length y))
     (first | go_keep | exact y0)
     (first
      | (go_at_call 176; refine (ag _).mono ?_; rintro e w5 ⟨rfl,rfl⟩; have y0:=q1)
      | (go_at_call 175; refine bj.mono ?_; rintro e w3 ⟨rfl,aD⟩; have y0:=ξ aD q1))
    have ae:Below w2.heap.size w2 w3:=ϑ.drew.trans aD;have a8:=a5.out.later (ig vars) ae;have bk:=η a8;have bl:=η ((ae.block _ (ψ a7.out)).trans a7.out);have HL:=η (a8.lit (ig vars) (EX vars) HR.out);have q1:w3.cell? ⟨w.heap.size+3,1,none⟩=some (.slice Av k cv):=ai a8.r1;have q2:w3.frozen? ⟨w.heap.size+3,1,none⟩=false:=ax a8.r1;have q3:w.heap.size+3 < w3.heap.size:=ψ a8.r1;clear ae a8 a5 a7 bj bi ag HR aD
    go_wp2_with (first | (at_builtin; refine bU (by rfl) (.tmp 36) (.tmp 39) _ (by rfl) (w.heap.size+4) 244 i0 (.agg #[.int .i64 0,.string ⟨#[]⟩]) 2 24 Tryz.underlying166 hi aM aR b2 rfl (Θ 1) (ig vars) (.slice Av k cv) k L _ [] (by rfl) HL.out.1 bf.out (some ⟨w3.heap.size,0,none⟩) 1 1 _ [⟨true,U⟩] _ (by rfl) HL.out.2.1 rfl HL.out.2.2.1 (fun b hb=>by simp at hb) bg.out bh.out w3 (w.heap.size+4) HL.out.2.2.2.1 ν HL.out.2.2.2.2 ?_; intro A5 c5 w5 ab ac aq ar; have HZ:=η (bk.out.app (ig vars) ab ac); replace q1:=HZ.out.1; replace q2:=HZ.out.2.1; clear ab ac aq ar) | go_in)
    have av:=η HZ.out.2.2.1;have aw:=η ((HZ.out.2.2.2 w.heap.size (by omega) (by omega)).trans bl.out);clear bk HL HZ bl q1 q2 q3;go_wp2;go_roundw
    case rel=>exact ⟨k+1,A5,c5,_,af.out,by go_num,by rw [b8.out]; exact av.out,aw.out⟩
    case measure=>have:=af.out; simp [intOf]; omega
  ·have he:k=args.length:=by omega
   have bv:¬ (k:Int) < (args.length:Int):=by omega
   obtain ⟨W9,bn,bo,aE,b9,bp,bq⟩:=hI.done (ig vars);have y0:wr.cell? ⟨w.heap.size+3,0,none⟩=some (.string nm):=ai hI.r1;have y1:wr.cell? ⟨w.heap.size+3,1,none⟩=some (.slice Av k cv):=ai hI.r1;have f0:wr.frozen? ⟨w.heap.size+2,0,none⟩=false:=ax hI.r0;have f1:wr.frozen? ⟨w.heap.size+2,1,none⟩=false:=ax hI.r0;have z0:wr.cell? ⟨w.heap.size+2,0,none⟩=some (.string ⟨#[]⟩):=ai hI.r0;have z1:wr.cell? ⟨w.heap.size+2,1,none⟩=some (.slice none 0 0):=ai hI.r0;have u0:W9.cell? ⟨w.heap.size+2,0,none⟩=some (.string nm):=ai aE;have u1:W9.cell? ⟨w.heap.size+2,1,none⟩=some (.slice Av k cv):=ai aE
   have HD:Hid (∃ v bs,Ending.returned (.agg #[.string nm,.slice Av k cv])=.returned (.agg #[.string nm,v])∧Below w.heap.size w W9∧nm.size≤maxLen∧kV vars W9 [v] args bs∧New w.heap.size W9 bs):=
    η ⟨_,b9,rfl,bo,bu.out,by rw [← ϕ (Nat.le_of_eq he.symm) (l:=args)]; exact bp,bq.mono (by omega)⟩
   have bz:=η bn;have HU:=η (ι u0 u1);clear hI hq bo aE bp bq bn he u0 u1;go_wp2;rw [← bz.out];refine bodyPost_ret (v:=.agg #[.string nm,.slice Av k cv]) (by simp [results,Tryz.results114,go_sem,HU.out.1,HU.out.2]) rfl (by obtain ⟨v,bs,q1,q2,q3,q4,q5⟩:=HD.out; exact ⟨v,q1,q2,q3,bs,q4,q5⟩)
theorem Iw:(Tryz.prog.info? 234).map (fun i=>(i.zero,i.size,i.bytes))=some (some (.agg #[.slice none 0 0,.slice none 0 0]),2,48):=by kernel_rfl
theorem D.xO:Dv 2 jE:=fun h=>by
 obtain ⟨s,v,I,J,rfl,_,h1,y⟩:=h;obtain ⟨U,p1,rfl,_⟩:=aj h1;obtain ⟨A2,p2,rfl,_⟩:=aj y;simp [Value.oneCell']
theorem D.y8 {w:World} {Ad:Option Addr} {len cap k:Nat} {xs:List Bd} {bs:List Nat} (h:uD w [.slice Ad len cap] xs bs) (hk:k < xs.length):
  ∃ b o J p1 U p2 bk,Ad=some ⟨b,o,none⟩∧b ∈ bs∧w.cell? ⟨b,o+k * 2,none⟩=some (.slice J xs[k].length p1)∧w.cell? ⟨b,o+k * 2+1,none⟩=some (.slice U xs[k].length p2)∧jE w [.slice J xs[k].length p1,.slice U xs[k].length p2] xs[k] bk∧∀ c ∈ bk,c ∈ bs:=by
 obtain ⟨b,o,cs,bk,rfl,hb,a0,y,hR,I⟩:=jC h hk;obtain ⟨J,p1,U,p2,rfl⟩:=ni hR;exact ⟨b,o,J,p1,U,p2,bk,rfl,hb,by simpa using y 0 _ rfl,by simpa [Nat.add_assoc] using y 1 _ rfl,hR,I⟩
theorem D.PE (list:List A) (body:List Pt) (b:Bd) (k:Nat) (h:k < body.length):jl list (body.take (k+1)) b=(jl list (body.take k) b && (!body[k].no || !hasB list (cO body[k].atom b))):=by
 unfold jl;rw [ρ h,List.all_append];simp
theorem Gp (list:List A) (body:List Pt) (all:List Bd) (v0 v1 v2:Value) (bl bb ba:List Nat) (w:World) (hl:aC w [v0] list bl) (hb:jd w [v1] body bb) (h:uD w [v2] all ba)
  (af:gm list=true) (hn:all.length≤10000000000) (ag:∀ p ∈ body,p.atom.args.length≤1000000):
  Calls Tryz.prog 224 #[v0,v1,v2] w fun e w'=>Below w.heap.size w w'∧∃ v bs,e=.returned v∧uD w' [v] (all.filter (jl list body)) bs:=by
 obtain ⟨Al,pl,rfl,b1,b3⟩:=aj hl;obtain ⟨Ab,pb,rfl,b4,am⟩:=aj hb;obtain ⟨Aa,pa,rfl,b6,aq⟩:=aj h;obtain ⟨i0,hi,b7,b8,b9⟩:=info_parts Iw;have bu:=ay (τ b4 am);have bt:=ay (τ b6 aq);have HL:=η hl;have HB:=η hb;have HA:=η h;have bc:=η ag;clear hl hb h b1 b3 am aq ag;have ar:Below w.heap.size w (w.alloc (.cells #[] 234)):=ζ;have hE:aX 2 jE w.heap.size 234 (w.alloc (.cells #[] 234)) (.slice (some ⟨w.heap.size,0,none⟩) 0 0) [] [] []:=aX.empty (ω w _) ν
 go_enter Tryz.func224,Tryz.ntmps224
 go_wp2_with fail
 generalize w.alloc (.cells #[] 234)=w0 at *
 go_loopw [7,8,9,10] (fun o i _ _ wr=>∃ (k:Nat) (Am:Option Addr) (cm:Nat) (L:List Value) (bs:List Nat),k≤all.length∧i=.int .i64 k∧o=.slice Am ((all.take k).filter (jl list body)).length cm∧Hid (aX 2 jE w.heap.size 234 wr (.slice Am ((all.take k).filter (jl list body)).length cm) L ((all.take k).filter (jl list body)) bs)∧Hid (Below w.heap.size w wr)) (fun _ i _ _ _=>all.length - (intOf i).toNat)
 case atStart=>exact ⟨0,_,_,_,_,ε,rfl,rfl,η hE,η ar⟩
 case round=>
  obtain ⟨k,Am,cm,L,bs,hk,rfl,rfl,hC,a5⟩:=hrel;clear hE ar;by_cases a3:k < all.length
  ·have bv:(0:Int)≤(k:Int):=by omega
   have bf:(k:Int) < (all.length:Int):=by omega
   have a6:Hid ((all.take (k+1)).filter (jl list body)=(all.take k).filter (jl list body) ++ (if jl list body all[k] then [all[k]] else [])):=η (by
    rw [ρ a3,List.filter_append]
    congr 1
    by_cases hf:jl list body all[k]=true
    ·simp [List.filter,hf]
    ·simp [List.filter,hf])
   have aa:Hid (((all.take k).filter (jl list body)).length≤k):=η (τ (List.length_filter_le _ _) (by simp; omega));generalize hys:(all.take k).filter (jl list body)=ys at *;generalize hb0:all[k]=b0 at *;clear hys;generalize wr=wo at *
   go_wp2_with fail
   go_loopw [9,10] (fun ok i wr=>∃ (j:Nat),j≤body.length∧i=.int .i64 j∧ok=.bool (jl list (body.take j) b0)∧Hid (Below wo.heap.size wo wr)) (fun _ i _=>body.length - (intOf i).toNat)
   case atStart=>exact ⟨0,ε,rfl,rfl,η ϑ⟩
   case round=>
    obtain ⟨j,hj,rfl,rfl,J⟩:=hrel;have y:=a5.out.trans (J.out.mono a5.out.size);by_cases U:j < body.length
    ·obtain ⟨ac,po,Ae,ce,bk,rfl,_,e0,e1,e2,a7,_⟩:=iV (dN.below HB.out y) U
     obtain ⟨ae,ao,A1,p1,A2,p2,bq,rfl,_,d0,d1,I,_⟩:=y8 (nN.below HA.out y) a3;rw [hb0] at d0 d1 I;have bw:(0:Int)≤(j:Int):=by omega
     have bg:(j:Int) < (body.length:Int):=by omega
     have a1:=η (PE list body b0 j U);have bx:=η U;have bh:=η (bc.out _ (δ U));generalize body[j]=p at *;obtain ⟨bi,px⟩:=p;dsimp only at *
     cases hfb:jl list (body.take j) b0 with
     | false=>
      have HZ:Hid (jl list (body.take (j+1)) b0=false):=η (by rw [a1.out,hfb]; rfl);clear a1 hfb e0 e1 e2 a7 d0 d1 I
      go_wp2_with fail
      go_quiet (fail)
      go_wp2;go_roundw
      case rel=>exact ⟨j+1,U,by go_num,by rw [HZ.out],η (below_drewN J.out _)⟩
      case measure=>simp [intOf]; omega
     | true=>
      cases bi with
      | false=>
       have HZ:Hid (jl list (body.take (j+1)) b0=true):=η (by rw [a1.out,hfb]; rfl);clear a1 hfb e1 e2 a7 d0 d1 I
       go_wp2_with fail
       go_quiet (fail)
       go_wp2;go_roundw
       case rel=>exact ⟨j+1,U,by go_num,by rw [HZ.out],η (below_drewN J.out _)⟩
       case measure=>simp [intOf]; omega
      | true=>
       have HZ:Hid (jl list (body.take (j+1)) b0 = !hasB list (cO px b0)):=η (by rw [a1.out,hfb]; simp)
       have av:aJ wr [.string px.name,.slice Ae px.args.length ce] px bk:=by
        obtain ⟨t,aw,h1,h2⟩:=a7;simp only [List.cons.injEq,true_and,and_true] at aw;subst aw;exact ⟨_,rfl,h1,h2⟩
       have hD:Below wr.heap.size wr wr.drew:=Below.drew ϑ;have q1:=fun w' (hb:Below wr.heap.size wr w')=>MG px b0 _ _ _ _ bk bq w' (ak.below av hb) (dm.below I hb) bh.out
       have q2:=fun w' (hb:Below wr.heap.size wr w') d0 d1 b5 (h5:aJ w' [d0,d1] (cO px b0) b5)=>AZ list (cO px b0) _ d0 d1 bl b5 w' (au.below HL.out (y.trans (hb.mono y.size))) h5 af
       have Q1:=η q1;have Q2:=η q2;clear a1 hfb a7 I q1 q2 av
       go_wp2_with fail
       go_region_held3 (fun w'=>w'.cell? ⟨ac,po+j * 3,none⟩=some (.bool true)∧w'.cell? ⟨ac,po+j * 3+1,none⟩=some (.string px.name)∧w'.cell? ⟨ac,po+j * 3+2,none⟩=some (.slice Ae px.args.length ce)∧w'.cell? ⟨ae,ao+k * 2,none⟩=some (.slice A1 b0.length p1)∧w'.cell? ⟨ae,ao+k * 2+1,none⟩=some (.slice A2 b0.length p2))
        (first | go_keep | exact hq | exact az)
        (first
         | (go_at_call 172; refine (Q1.out _ hD).mono ?_; rintro e w5 ⟨aD,g0,g1,b5,rfl,h5,_⟩; have B5:=hD.trans (aD.mono hD.size); have hq:=ι (ξ B5 e0) (ι (ξ B5 e1) (ι (ξ B5 e2) (ι (ξ B5 d0) (ξ B5 d1)))))
         | (go_at_call 141; refine (Q2.out _ B5 _ _ _ h5).mono ?_; rintro e w6 ⟨rfl,aE⟩; have B6:=B5.trans (aE.mono B5.size); have az:=ι (ξ B6 e0) (ι (ξ B6 e1) (ι (ξ B6 e2) (ι (ξ B6 d0) (ξ B6 d1))))))
       have bj:=η (J.out.trans (B6.mono J.out.size));clear Q1 Q2 hq az h5 aD aE B5 B6 e0 e1 e2 d0 d1;go_wp2;go_roundw
       case rel=>exact ⟨j+1,U,by go_num,by rw [HZ.out],bj⟩
       case measure=>simp [intOf]; omega
    ·have he:j=body.length:=by omega
     have bg:¬ (j:Int) < (body.length:Int):=by omega
     have a8:Hid (jl list (body.take j) b0=jl list body b0):=η (by rw [he,ϕ ν]);have a9:=η (hC.out.below dm J.out);have a0:=η y;clear he hj
     cases hfb:jl list (body.take j) b0 with
     | false=>
      have HE:Hid ((all.take (k+1)).filter (jl list body)=ys):=η (by rw [a6.out,← a8.out,hfb]; simp);clear hfb a6 a8;go_wp2;go_roundw
      case rel=>exact ⟨k+1,Am,cm,L,bs,a3,by go_num,by rw [HE.out],by rw [HE.out]; exact a9,a0⟩
      case measure=>simp [intOf]; omega
     | true=>
      have HE:Hid ((all.take (k+1)).filter (jl list body)=ys ++ [b0]):=η (by rw [a6.out,← a8.out,hfb]; simp);obtain ⟨ae,ao,A1,p1,A2,p2,bq,rfl,_,d0,d1,I,aL⟩:=y8 (nN.below HA.out y) a3;rw [hb0] at d0 d1 I;clear hfb a6 a8;have a4:Below wr.heap.size wr (wr.alloc (.cells #[.slice A1 b0.length p1,.slice A2 b0.length p2] 234)):=ζ
      have ab:∀ c ∈ bq,(Value.slice Am ys.length cm).ownBlock ≠ some c:=fun c hc e=>by
       have h1:=(jJ a9.out.own c e).1;have h2:=nN.lt HA.out c (aL c hc);omega
      have a2:Hid (aX 2 jE w.heap.size 234 (wr.alloc (.cells #[.slice A1 b0.length p1,.slice A2 b0.length p2] 234)) (.slice Am ys.length cm) L ys bs∧aT 2 jE (wr.alloc (.cells #[.slice A1 b0.length p1,.slice A2 b0.length p2] 234)) [.slice A1 b0.length p1,.slice A2 b0.length p2] [b0] bq∧Lies (wr.alloc (.cells #[.slice A1 b0.length p1,.slice A2 b0.length p2] 234)) (some ⟨wr.heap.size,0,none⟩) [.slice A1 b0.length p1,.slice A2 b0.length p2]∧Below w.heap.size w (wr.alloc (.cells #[.slice A1 b0.length p1,.slice A2 b0.length p2] 234))∧w.heap.size≤(wr.alloc (.cells #[.slice A1 b0.length p1,.slice A2 b0.length p2] 234)).heap.size∧∀ c ∈ bq,(Value.slice Am ys.length cm).ownBlock ≠ some c):=
       η ⟨a9.out.below dm a4,aT.dJ xO (dm.below I a4),aP (ω wr _),a0.out.trans (a4.mono a0.out.size),τ a0.out.size a4.size,ab⟩
      have bn:Hid (ys.length+1≤maxLen):=η (by have:=aa.out; unfold maxLen; omega);have bo:Hid ((ys.length+1) * 48≤140737488355328):=η (by have:=aa.out; omega);clear a4 ab I hC a5 y J a9
      go_wp2_with (at_builtin; refine bU rfl _ _ _ rfl w.heap.size 234 i0 (.agg #[.slice none 0 0,.slice none 0 0]) 2 48 Tryz.underlying230 hi b7 b8 b9 rfl (Θ 1) dm (.slice Am ys.length cm) ys.length L _ bs rfl a2.out.1 rfl (some ⟨wr.heap.size,0,none⟩) 1 1 _ [b0] bq rfl a2.out.2.1 rfl a2.out.2.2.1 a2.out.2.2.2.2.2 bn.out bo.out w w.heap.size a2.out.2.2.2.1 ν a2.out.2.2.2.2.1 ?_; intro A4 c4 w4 aM aR bp br; have HZ:=η (ι aM aR); clear aM aR bp br)
      go_roundw
      case rel=>exact ⟨k+1,A4,c4,_,_,a3,by go_num,by rw [HE.out,χ]; rfl,by rw [HE.out,χ]; exact η HZ.out.1,η HZ.out.2⟩
      case measure=>simp [intOf]; omega
  ·have he:k=all.length:=by omega
   have bf:¬ (k:Int) < (all.length:Int):=by omega
   have HR:Hid (∃ b2,uD wr [.slice Am ((all.take k).filter (jl list body)).length cm] (all.filter (jl list body)) b2):=η (by
    obtain ⟨b2,h2,_⟩:=hC.out.slice;rw [he,ϕ ν] at h2;rw [he,ϕ ν]
    exact ⟨b2,h2⟩)
   clear hC he hk;go_wp2;go_ret;exact ⟨a5.out,_,rfl,HR.out⟩
end
end Go.Proofs.YtkjinanbccloeaaGreatDoor
