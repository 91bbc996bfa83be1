/- Of the proof of FnExactProofOk: VarsI, LooseI, FactsI, Bin, SeaP, StoW. -/
import Derived.Test.YtlmngncogomgeaaGreatDoorM22
import Derived.Test.YtlmngncogomgeaaGreatDoorM24
import Derived.Test.YtlmngncogomgeaaGreatDoorM25
set_option linter.unusedVariables false
set_option maxHeartbeats 2000000
set_option maxRecDepth 100000
namespace Go.Proofs.YtlmngncogomgeaaGreatDoor
section
open Go.RowKit D
attribute [local go_sem ↓] Go.wp_at_zero Go.wp_at_succ
theorem RG:(Tryz.prog.info? 9).map (fun i=>(i.zero,i.size,i.bytes))=some (some (.string ⟨#[]⟩),1,16):=by kernel_rfl
structure D.RH (w:World) (v:Value) (L:List Value) (xs:List ByteArray) (wr:World):Prop where
 coll:cu 1 jy w.heap.size 9 wr v L xs []
 bel:Below w.heap.size w wr
theorem D.RH.below {w wr w':World} {v:Value} {L:List Value} {xs:List ByteArray} (h:RH w v L xs wr) (y:Below wr.heap.size wr w'):RH w v L xs w':=⟨h.coll.below aN y,h.bel.trans (y.mono h.bel.size)⟩
theorem Gm (ps:List Pt) (v:Value) (bs:List Nat) (w:World) (h:gJ w [v] ps bs) (hs:dh (fun p=>p.atom.args.length) ps≤1000000):
  Calls Tryz.prog 145 #[v] w (Makes jA (ax ps) w.heap.size w):=by
 obtain ⟨Ad,cap,rfl,hl,hm⟩:=ai h;have bo:=ay (τ hl hm);obtain ⟨i0,hi,aL,aM,aR⟩:=info_parts RG;have b1:Hid (∀ k,(jd (ps.take k)).length≤dh (fun p=>p.atom.args.length) (ps.take k)):=η fun k=>qY _
 have HS:=η hs;have HV:=η (cu.nil (n:=1) (R:=jy) (base:=w.heap.size) (e:=9) w);clear hl hm hs
 go_enter Tryz.func145,Tryz.ntmps145
 go_wp2
 go_loopw [3,10] (fun v i wr=>∃ (k:Nat) (Av:Option Addr) (cp:Nat) (L:List Value) (xs:List ByteArray),k≤ps.length∧i=.int .i64 k∧v=.slice Av xs.length cp∧xs=jd (ps.take k)∧RH w (.slice Av xs.length cp) L xs wr) (fun _ i _=>ps.length - (intOf i).toNat)
 case atStart=>exact ⟨0,none,0,[],[],ε,rfl,rfl,rfl,HV.out,ϑ⟩
 case round=>
  obtain ⟨k,Av,cp,L,xs,hk,rfl,rfl,ab,J⟩:=hrel;clear HV;have HV:=η J;have HX:=η ab;clear ab;obtain ⟨wo,rfl⟩:∃ wo:World,wo=wr:=⟨_,rfl⟩;by_cases I:k < ps.length
  ·obtain ⟨b,o,Ae,ce,bk,rfl,_,d0,d1,d2,ac,_⟩:=eU h I
   replace d0:=ξ J.bel d0;replace d1:=ξ J.bel d1;replace d2:=ξ J.bel d2;have bp:(0:Int)≤(k:Int):=by omega
   have b3:(k:Int) < (ps.length:Int):=by omega
   have ae:=η I;have HN:=η (FQ ps k I)
   have b4:Hid ((jd (ps.take k)).length+ps[k].atom.args.length≤1000000):=η (by
    have h1:=b1.out k;have h2:=kR (fun p:Pt=>p.atom.args.length) ps k I;have h3:=oJ (fun p:Pt=>p.atom.args.length) ps (k+1);have:=HS.out
    omega)
   have hA:Below wo.heap.size wo (wo.alloc (.cells #[.bool ps[k].no,.string ps[k].atom.name,.slice Ae ps[k].atom.args.length ce] 209)):=ζ;have ht:=dK (eX ac);obtain ⟨_,_,b5,af,ag⟩:=ai ht;have bq:=ay (τ af ag);have am:=η (J.below hA);have HT:=η ht;clear h J ac hA ht af ag b5 HV;generalize ps[k]=p at *;clear I;obtain ⟨no,nm,args⟩:=p;dsimp only at *;go_wp2;generalize wo.alloc (.cells #[.bool no,.string nm,.slice Ae args.length ce] 209)=w1 at *
   go_loopw [3,18] (fun v i wr=>∃ (j:Nat) (Av:Option Addr) (cp:Nat) (L:List Value) (ys:List ByteArray),j≤args.length∧i=.int .i64 j∧v=.slice Av ys.length cp∧ys=jd (ps.take k) ++ jc (args.take j)∧RH w (.slice Av ys.length cp) L ys wr) (fun _ i _=>args.length - (intOf i).toNat)
   case atStart=>exact ⟨0,Av,cp,L,xs,ε,rfl,rfl,by rw [← HX.out]; simp [jc],am.out⟩
   case round=>
    clear am HX;obtain ⟨j,Aw,cq,M,ys,hj,rfl,rfl,a0,J⟩:=hrel;have HV:=η J;have HY:=η a0;clear a0;by_cases I:j < args.length
    ·obtain ⟨b2,o2,rfl,_,f0,f1,ao⟩:=dN (aG.below HT.out J.bel) I
     have br:(0:Int)≤(j:Int):=by omega
     have b6:(j:Int) < (args.length:Int):=by omega
     have a3:=η I;have a4:=η (FP args j I);have a7:Below wr.heap.size wr (wr.alloc (.cells #[.bool args[j].var,.string args[j].name] 154)):=ζ;have ap:Below wr.heap.size wr ((wr.alloc (.cells #[.bool args[j].var,.string args[j].name] 154)).alloc (.cells #[.string args[j].name] 9)):=a7.alloc (by simp) _;have aq:=η (J.below a7);have a5:=η (J.below ap)
     have HK:Hid (ys.length+1≤maxLen∧(ys.length+1) * 16≤140737488355328):=η (by
      have h1:=zD (args.take j);rw [List.length_take] at h1;have h2:=b4.out;rw [HY.out,χ]
      unfold maxLen; omega)
     have b7:=η ao;clear J a7 ap ao HV;generalize args[j]=t at *;clear I;obtain ⟨tv,U⟩:=t;dsimp only at *;cases tv
     ·have a1:Hid (jc (args.take (j+1))=jc (args.take j)):=η (by rw [a4.out]; simp)
      clear a4 a5;go_wp2;go_roundw
      case rel=>exact ⟨j+1,Aw,cq,M,ys,a3.out,by go_num,rfl,by rw [a1.out]; exact HY.out,aq.out⟩
      case measure=>have:=a3.out; simp [intOf]; omega
     ·have a1:Hid (jc (args.take (j+1))=jc (args.take j) ++ [U]):=η (by rw [a4.out]; simp)
      have b8:Hid (aV 1 jy ((wr.alloc (.cells #[.bool true,.string U] 154)).alloc (.cells #[.string U] 9)) [.string U] [U] []):=η (aV.dY iY ⟨rfl,b7.out,rfl⟩);have bc:Hid (Lies ((wr.alloc (.cells #[.bool true,.string U] 154)).alloc (.cells #[.string U] 9)) (some ⟨wr.heap.size+1,0,none⟩) [.string U]):=η (by have:=aS (ω (wr.alloc (.cells #[.bool true,.string U] 154)) (.cells #[.string U] 9)); simpa using this);clear a4 aq
      go_wp2_with (at_builtin; refine gU rfl _ _ _ rfl w.heap.size 9 i0 (.string ⟨#[]⟩) 1 16 Tryz.underlying132 hi aL aM aR rfl (by omega) aN (.slice Aw ys.length cq) ys.length _ _ _ rfl a5.out.coll rfl (some ⟨wr.heap.size+1,0,none⟩) 1 1 _ [U] _ rfl b8.out rfl bc.out (fun b hb=>by simp at hb) HK.out.1 HK.out.2 w w.heap.size a5.out.bel ν a5.out.bel.size ?_; intro A2 bf w2 a2 ar bg _)
      have bh:=η a2;have bi:=η ar;clear a2 ar bg;go_wp2;go_roundw
      case rel=>exact ⟨j+1,A2,bf,_,ys ++ [U],a3.out,by go_num,by simp,by rw [a1.out,HY.out,List.append_assoc],by rw [χ]; exact bh.out,bi.out⟩
      case measure=>have:=a3.out; simp [intOf]; omega
    ·have he:j=args.length:=by omega
     have b6:¬ (j:Int) < (args.length:Int):=by omega
     have HE:Hid (ys=jd (ps.take (k+1))):=η (by rw [HN.out,HY.out,he,ϕ ν]);clear J he;go_wp2;go_roundw
     case rel=>exact ⟨k+1,Aw,cq,M,ys,ae.out,by go_num,rfl,HE.out,HV.out⟩
     case measure=>have:=ae.out; simp [intOf]; omega
  ·have he:k=ps.length:=by omega
   have b3:¬ (k:Int) < (ps.length:Int):=by omega
   have a8:xs=jd ps:=by rw [HX.out,he,ϕ ν]
   have a9:xs.length≤16777216:=by rw [a8]; have:=qY ps; have:=HS.out; omega
   have bj:=η a8;have bl:=η a9;have c1:=OD xs _ L w.heap.size wo J.coll a9;have bt:=η (lX J.coll.own);clear h J he a8 a9 HX hk
   go_wp2_with fail
   refine c1.mono ?_;rintro e w2 ⟨rfl,ys,a0,av,aa,aw⟩;have B2:Below w.heap.size w w2:=gX HV.out.bel HV.out.coll.own ν HV.out.bel.size aw;have c2:=Gg ys _ _ w.heap.size w2 aa (by rw [av]; exact bl.out);have HY:=η (ι a0 (ι aa B2));clear c1 a0 av aa aw B2
   go_wp2_with fail
   refine c2.mono ?_;rintro e w3 ⟨v3,zs,rfl,a6,a2,az⟩
   have hz:zs=ax ps:=by
    have h1:=FT ps;rw [HY.out.1,bj.out] at a6;rw [h1] at a6
    have bn:∀ (a b:List ByteArray),a.map (·.data.toList)=b.map (·.data.toList)→a=b:=by
     intro a
     induction a with
     | nil=>intro b h; cases b; rfl; simp at h
     | cons x a ih=>intro b h; cases b with
      | nil=>simp at h
      | cons y b=>simp only [List.map_cons,List.cons.injEq] at h; rw [bytes_inj h.1,ih b h.2]
    exact bn _ _ a6
   subst hz;obtain ⟨b9,aD,aE⟩:=a2.new (New.nil _ _);have B3:=gX HY.out.2.2 HY.out.2.1.own ν HY.out.2.2.size az;have HZ:Hid (Makes jA (ax ps) w.heap.size w (.returned v3) w3):=η ⟨B3,_,_,rfl,aD,aE⟩;clear c2 a6 a2 az aD aE B3;go_wp2;go_ret;exact HZ.out
theorem D.Jr (r:Ru):(!fJ r.body r.head || qV r.body) = !eG r.head r.body:=by
 rw [Bool.eq_iff_iff];have h1:=Ed r.head r.body;have y:=pW r.body r.head;rw [← y] at h1
 cases ht:eG r.head r.body <;> cases ha:fJ r.body r.head <;> cases hl:qV r.body <;> simp_all
theorem D.MH (rs:List Ru) (k:Nat) (h:k < rs.length) (h0:(rs.take k).all (fun r=>eG r.head r.body)=true):((rs.take (k+1)).all fun r=>eG r.head r.body)=eG rs[k].head rs[k].body:=by
 rw [ρ h,List.all_append,h0]; simp
theorem D.O5 (rs:List Ru) (k:Nat) (h:k < rs.length) (h0:eG rs[k].head rs[k].body=false):(rs.all fun r=>eG r.head r.body)=false:=
 List.all_eq_false.2 ⟨_,δ h,by simp [h0]⟩
theorem DL (r:Ru) (c0 c1 c2:Value) (bs:List Nat) (w:World) (h:jk w [c0,c1,c2] r bs):
  Calls Tryz.prog 256 #[.agg #[c0,c1,c2]] w fun e w'=>e=.returned (.bool (!eG r.head r.body))∧Below w.heap.size w w':=by
 obtain ⟨Ad,cap,Ae,I,rfl,rfl,rfl⟩:=iK h;have J:Below w.heap.size w (w.alloc (.cells #[.string r.head.name,.slice Ad r.head.args.length cap,.slice Ae r.body.length I] 77)):=ζ;obtain ⟨b1,b2,_,hh,hb⟩:=dX h;have c1:=fun w' (hw:Below w.heap.size w w')=>xG r.body r.head _ _ _ b2 b1 w' (aU.below hb hw) (ak.below hh hw)
 have c2:=fun w' (hw:Below w.heap.size w w')=>DK r.body _ b2 w' (aU.below hb hw)
 rw [← Jr r];clear h hh hb;obtain ⟨⟨nm,args⟩,body⟩:=r;dsimp only at *;cases ha:fJ body ⟨nm,args⟩
 ·rw [ha] at c1
  clear c2 ha
  go_enter Tryz.func256,Tryz.ntmps256
  go_wp2_with fail
  refine (c1 _ J).mono ?_;rintro e w2 ⟨rfl,y⟩;have U:=J.trans (y.mono J.size);go_wp2;go_ret;exact ⟨rfl,U⟩
 ·rw [ha] at c1
  clear ha;generalize qV body=l at *
  go_enter Tryz.func256,Tryz.ntmps256
  go_wp2_with fail
  refine (c1 _ J).mono ?_;rintro e w2 ⟨rfl,y⟩;have U:=J.trans (y.mono J.size);have x2:w2.cell? ⟨w.heap.size,2,none⟩=some (.slice Ae body.length I):=ξ y (by go_simp)
  go_wp2_with fail
  refine (c2 _ U).mono ?_;rintro e w3 ⟨rfl,a0⟩;go_wp2;go_ret;exact ⟨aA (by simp),U.trans (a0.mono U.size)⟩
def Vt (b:Bool) (w:World) (e:Ending) (w':World):Prop:=(∃ z:Int,e=.returned (.int .i64 z)∧decide (0≤z)=b)∧Below w.heap.size w w'
theorem CZ (rs:List Ru) (v:Value) (bs:List Nat) (w:World) (h:dD w [v] rs bs):
  Calls Tryz.prog 268 #[v,.func (.func 256) #[] #[]] w (Vt (!rs.all fun r=>eG r.head r.body) w):=by
 obtain ⟨Ad,cap,rfl,hl,hm⟩:=ai h;have a2:=ay (τ hl hm);clear hm
 go_enter Tryz.func268,Tryz.ntmps268
 go_wp2
 go_loopw [8] (fun i wr=>∃ k:Nat,k≤rs.length∧i=.int .i64 k∧(rs.take k).all (fun r=>eG r.head r.body)=true∧Below w.heap.size w wr) (fun i _=>rs.length - (intOf i).toNat)
 case atStart=>exact ⟨0,ε,rfl,rfl,ϑ⟩
 case round=>
  obtain ⟨k,hk,rfl,I,hb⟩:=hrel;have HA:=η I;clear I;by_cases y:k < rs.length
  ·obtain ⟨b,o,Ae,ce,Af,cf,bk,rfl,_,d0,d1,d2,J,_⟩:=eF (aI.below h hb) y
   have HS:=η (MH rs k y HA.out);have U:=η (O5 rs k y);have a3:(0:Int)≤(k:Int):=by omega
   have a4:(k:Int) < (rs.length:Int):=by omega
   have a0:=η y;have c1:=DL rs[k] _ _ _ bk wr J;clear h J;generalize rs[k]=r at *;clear y;obtain ⟨⟨nm,args⟩,body⟩:=r;dsimp only at *
   go_wp2_with fail
   refine c1.mono ?_;rintro e w' ⟨rfl,a1⟩;have B':=hb.trans (a1.mono hb.size);clear c1;cases hv:eG ⟨nm,args⟩ body
   ·have HV:=η (U.out hv)
    clear hv;go_wp2;go_ret;exact ⟨⟨_,rfl,by rw [HV.out]; simp⟩,B'⟩
   ·have HV:=η (HS.out.trans hv)
    clear hv;go_wp2;go_roundw
    case rel=>exact ⟨k+1,a0.out,by go_num,HV.out,B'⟩
    case measure=>have:=a0.out; simp [intOf]; omega
  ·have he:=η (show k=rs.length by omega)
   go_wp2;go_ret;exact ⟨⟨_,rfl,by have:=HA.out; rw [he.out,ϕ ν] at this; rw [this]; rfl⟩,hb⟩
theorem xI (rs:List Ru) (v:Value) (y:List Nat) (w:World) (h:dD w [v] rs y):
  Calls Tryz.prog 255 #[v,.func (.func 256) #[] #[]] w fun e w'=>e=.returned (.bool (!rs.all fun r=>eG r.head r.body))∧Below w.heap.size w w':=by
 have hi:=CZ rs v y w h;clear h
 go_enter Tryz.func255,Tryz.ntmps255
 go_wp2_with fail
 refine hi.mono ?_;rintro e w' ⟨⟨z,rfl,I⟩,J⟩;have U:=η I;clear I;go_wp2;go_ret;exact ⟨aA U.out,J⟩
theorem Gn (xs:List A) (v:Value) (bs:List Nat) (w:World) (h:aQ w [v] xs bs):
  Calls Tryz.prog 204 #[v] w fun e w'=>e=.returned (.bool (lT xs))∧Below w.heap.size w w':=by
 obtain ⟨Ad,cap,rfl,hl,hm⟩:=ai h;have a9:=ay (τ hl hm);clear hm;by_cases I:xs.length≤300
 ·have a2:¬ (300:Int) < (xs.length:Int):=by omega
  have a3:¬ 300 < xs.length:=by omega
  have HE:Hid (lT xs=okB xs):=η (by rw [AV,decide_eq_true I,Bool.and_true]);clear I
  go_enter Tryz.func204,Tryz.ntmps204
  go_wp2
  go_loopw [10] (fun i wr=>∃ k:Nat,k≤xs.length∧i=.int .i64 k∧G8 xs k∧Below w.heap.size w wr) (fun i _=>xs.length - (intOf i).toNat)
  case atStart=>exact ⟨0,ε,rfl,Kv _,ϑ⟩
  case round=>
   obtain ⟨k,hk,rfl,J,hb⟩:=hrel;have HA:=η J;clear J;by_cases U:k < xs.length
   ·have aa:(0:Int)≤(k:Int):=by omega
    have ab:(k:Int) < (xs.length:Int):=by omega
    obtain ⟨b,o,Ae,ce,bk,rfl,_,c0,c1,a4,_⟩:=dQ (au.below h hb) U;have hA:Below wr.heap.size wr (wr.alloc (.cells #[.string xs[k].name,.slice Ae xs[k].args.length ce] 40)):=ζ;have hg:=ql xs[k] _ _ bk _ (ak.below a4 hA);have a5:=η (fun hf=>Kw (k:=k) HA.out U hf);have a6:=η (fun hf=>Nj U hf);generalize aW xs[k]=x at *;clear h a4
    go_wp2_with fail
    refine hg.mono ?_;rintro e w' ⟨rfl,a0⟩;have B':=hb.trans ((hA.trans (a0.mono hA.size)).mono hb.size);cases x
    ·go_wp2
     go_ret;exact ⟨aA (by rw [HE.out,a6.out (by simp)]),B'⟩
    ·go_wp2
     go_roundw
     case rel=>exact ⟨k+1,by omega,by go_num,a5.out (by simp),B'⟩
     case measure=>simp [intOf]; omega
   ·have he:k=xs.length:=by omega
    have HO:Hid (okB xs=iF xs):=η (by
     have hf:=HA.out;rw [he] at hf;unfold okB
     rw [show xs.all aW=true from by
      rw [ό]; intro y hy
      obtain ⟨j,hj,rfl⟩:=List.mem_iff_getElem.1 hy
      exact hf j hj hj,Bool.true_and])
    have ac:¬ (k:Int) < (xs.length:Int):=by omega
    have hs:=qG Ad xs.length cap wr;have a7:=fun w' (a0:Below wr.heap.size wr w')=>IB xs _ bs w' (au.below (au.below h hb) a0)
    clear h he HA
    go_wp2_with fail
    refine hs.mono ?_;rintro e w1 ⟨rfl,a1⟩
    go_wp2_with fail
    refine (a7 _ a1).mono ?_;rintro e w2 ⟨rfl,a8⟩;go_wp2;go_ret;exact ⟨aA (by rw [HE.out,HO.out]),hb.trans ((a1.trans (a8.mono a1.size)).mono hb.size)⟩
 ·have a2:(300:Int) < (xs.length:Int):=by omega
  have a3:300 < xs.length:=by omega
  have HE:Hid (lT xs=false):=η (by rw [AV,decide_eq_false I,Bool.and_false]);clear I h
  go_enter Tryz.func204,Tryz.ntmps204
  go_wp2;go_ret;exact ⟨aA HE.out.symm,ϑ⟩
theorem D.Js {xs:List A} {a:A} {m:Nat} (y:iF xs=true) (hm:m < xs.length) (h:dJ xs[m] a < 0):E8 xs a (m+1):=fun j J I=>by
 by_cases e:j=m
 ·subst e; exact h
 ·exact kS (AX y hm (by omega)) (by omega)
theorem MI (xs:List A) (a:A) (v d0 d1:Value) (bs b2:List Nat) (w:World) (h:aQ w [v] xs bs) (h2:aP w [d0,d1] a b2) (hs:iF xs=true) (hn:xs.length≤16777216):
  Calls Tryz.prog 194 #[v,.agg #[d0,d1],.func (.func 82) #[] #[]] w fun e w'=>e=.returned (.tuple #[.int .i64 (pl xs a),.bool (hasB xs a)])∧Below w.heap.size w w':=by
 obtain ⟨Ad,cap,rfl,hl,hm⟩:=ai h;obtain ⟨Aa,ca,rfl,rfl⟩:=bK h2;clear hm;have a2:Below w.heap.size w (w.alloc (.cells #[.string a.name,.slice Aa a.args.length ca] 40)):=ζ
 go_enter Tryz.func194,Tryz.ntmps194
 go_wp2
 go_loopw [9,10] (fun i j wr=>∃ k n:Nat,k≤n∧n≤xs.length∧i=.int .i64 k∧j=.int .i64 n∧E8 xs a k∧(∀ h:n < xs.length,¬ dJ xs[n] a < 0)∧Below w.heap.size w wr∧wr.cell? ⟨w.heap.size,0,none⟩=some (.string a.name)∧wr.cell? ⟨w.heap.size,1,none⟩=some (.slice Aa a.args.length ca)∧w.heap.size < wr.heap.size) (fun i j _=>(intOf j).toNat - (intOf i).toNat)
 case atStart=>exact ⟨0,xs.length,ε,ν,rfl,rfl,DZ _ _,fun h=>absurd h (Nat.lt_irrefl _),a2,by go_simp,by go_simp,by simp⟩
 case round=>
  obtain ⟨k,n,hk,a3,rfl,rfl,a1,a4,I,s0,s1,a5⟩:=hrel;have HA:=η a1;have HG:=η a4;clear a1 a4 a2;have hD:Below wr.heap.size wr wr.drew:=Below.drew ϑ;by_cases a6:k < n
  ·obtain ⟨m,hm⟩:∃ m,m=(k+n) / 2:=⟨_,rfl⟩
   have a9:k≤m:=by omega
   have ab:m < n:=by omega
   have a7:m < xs.length:=by omega
   have hq:((k:Int)+(n:Int)) / 2=(m:Int):=by omega
   have aa:(0:Int)≤(m:Int):=by omega
   have a8:(m:Int) < (xs.length:Int):=by omega
   clear hm;obtain ⟨b,o,Ae,ce,bk,rfl,_,c0,c1,U,_⟩:=dQ (au.below h I) a7;have J:=oh xs[m] a _ _ _ _ bk b2 _ (ak.below U hD) (ak.below h2 (I.trans (hD.mono I.size)));clear h h2 U;by_cases hc:dJ xs[m] a < 0
   ·have HC:=η (Js hs a7 hc)
    go_wp2
    go_region_held3 (fun w'=>w'.cell? ⟨b,o+m * 2,none⟩=some (.string xs[m].name)∧w'.cell? ⟨b,o+m * 2+1,none⟩=some (.slice Ae xs[m].args.length ce)∧w'.cell? ⟨w.heap.size,0,none⟩=some (.string a.name)∧w'.cell? ⟨w.heap.size,1,none⟩=some (.slice Aa a.args.length ca))
     (first | go_keep | exact ⟨y0,y1,y2,y3⟩)
     (first | (go_at_call 82; refine (J).mono ?_; rintro e w2 ⟨rfl,y⟩; have y0:=ξ y c0; have y1:=ξ y c1; have y2:=ξ y s0; have y3:=ξ y s1))
    have B2:=I.trans ((hD.trans y).mono I.size);clear J;go_wp2;go_roundw
    case rel=>exact ⟨m+1,n,by omega,a3,by go_num,rfl,HC.out,(fun h=>Int.not_lt.2 (HG.out h)),B2,y2,y3,κ a5 (hD.trans y).size⟩
    case measure=>simp [intOf]; omega
   ·have HC:Hid (∀ h:m < xs.length,¬ dJ xs[m] a < 0):=η (fun _=>hc)
    go_wp2
    go_region_held3 (fun w'=>w'.cell? ⟨b,o+m * 2,none⟩=some (.string xs[m].name)∧w'.cell? ⟨b,o+m * 2+1,none⟩=some (.slice Ae xs[m].args.length ce)∧w'.cell? ⟨w.heap.size,0,none⟩=some (.string a.name)∧w'.cell? ⟨w.heap.size,1,none⟩=some (.slice Aa a.args.length ca))
     (first | go_keep | exact ⟨y0,y1,y2,y3⟩)
     (first | (go_at_call 82; refine (J).mono ?_; rintro e w2 ⟨rfl,y⟩; have y0:=ξ y c0; have y1:=ξ y c1; have y2:=ξ y s0; have y3:=ξ y s1))
    have B2:=I.trans ((hD.trans y).mono I.size);clear J;go_wp2;go_roundw
    case rel=>exact ⟨k,m,a9,by omega,rfl,rfl,HA.out,(fun h=>Int.not_lt.2 (HC.out h)),B2,y2,y3,κ a5 (hD.trans y).size⟩
    case measure=>simp [intOf]; omega
  ·obtain ⟨j,hj⟩:∃ j,j=n:=⟨_,rfl⟩
   obtain rfl:k=n:=by omega
   have HP:=η (AY hs a3 HA.out HG.out);by_cases a0:k < xs.length
   ·have aa:(0:Int)≤(k:Int):=by omega
    have a8:(k:Int) < (xs.length:Int):=by omega
    have HH:=η (Ql hs a0 HA.out (HG.out a0));obtain ⟨b,o,Ae,ce,bk,rfl,_,c0,c1,U,_⟩:=dQ (au.below h I) a0;have J:=oh xs[k] a _ _ _ _ bk b2 _ (ak.below U hD) (ak.below h2 (I.trans (hD.mono I.size)));clear h h2 U hj hk a6;go_wp2
    go_region_held3 (fun w'=>w'.cell? ⟨b,o+k * 2,none⟩=some (.string xs[k].name)∧w'.cell? ⟨b,o+k * 2+1,none⟩=some (.slice Ae xs[k].args.length ce)∧w'.cell? ⟨w.heap.size,0,none⟩=some (.string a.name)∧w'.cell? ⟨w.heap.size,1,none⟩=some (.slice Aa a.args.length ca))
     (first | go_keep | exact ⟨y0,y1,y2,y3⟩)
     (first | (go_at_call 82; refine (J).mono ?_; rintro e w2 ⟨rfl,y⟩; have y0:=ξ y c0; have y1:=ξ y c1; have y2:=ξ y s0; have y3:=ξ y s1))
    have B2:=I.trans ((hD.trans y).mono I.size);go_wp2;go_ret2;exact ⟨by rw [← HP.out,HH.out]; rfl,B2⟩
   ·have he:=η (show k=xs.length by omega)
    have a8:decide ((k:Int) < (xs.length:Int))=false:=decide_eq_false (by omega);clear h h2 hj hk a6;go_wp2
    go_quiet (fail)
    go_wp2;go_ret2;have hA:=HA.out;refine ⟨?_,below_drewN I _⟩;rw [← HP.out,Nk (by rw [← he.out]; exact hA)];rfl
theorem RI (xs:List A) (a:A) (v U d1:Value) (bs b2:List Nat) (w:World) (h:aQ w [v] xs bs) (I:aP w [U,d1] a b2) (hs:iF xs=true) (hn:xs.length≤16777216):
  Calls Tryz.prog 144 #[.agg #[v,.func (.func 82) #[] #[]],.agg #[U,d1]] w fun e w'=>e=.returned (.tuple #[.int .i64 (pl xs a),.bool (hasB xs a)])∧Below w.heap.size w w':=by
 obtain ⟨Ad,cap,rfl,hl,hm⟩:=ai h;obtain ⟨Aa,ca,rfl,rfl⟩:=bK I;have y:Below w.heap.size w ((w.alloc (.cells #[.slice Ad xs.length cap,.func (.func 82) #[] #[]] 219)).alloc (.cells #[.string a.name,.slice Aa a.args.length ca] 40)):=(ζ).alloc (by simp) _;have hk:=MI xs a _ _ _ bs b2 _ (au.below h y) (ak.below I y) hs hn;clear h I hm
 go_enter Tryz.func144,Tryz.ntmps144
 go_wp2_with fail
 refine hk.mono ?_;rintro e w1 ⟨rfl,J⟩;go_wp2;go_ret2;exact ⟨rfl,y.trans (J.mono y.size)⟩
theorem ND (xs:List A) (a:A) (v d0 d1:Value) (bs b2:List Nat) (w:World) (h:aQ w [v] xs bs) (h2:aP w [d0,d1] a b2) (hs:iF xs=true) (hn:xs.length≤16777216):
  Calls Tryz.prog 83 #[v,.agg #[d0,d1]] w fun e w'=>e=.returned (.bool (hasB xs a && aW a))∧Below w.heap.size w w':=by
 obtain ⟨Ad,cap,rfl,hl,hm⟩:=ai h;obtain ⟨I,J,rfl,rfl⟩:=bK h2;have a1:Below w.heap.size w (w.alloc (.cells #[.string a.name,.slice I a.args.length J] 40)):=ζ;have k1:=qG Ad xs.length cap (w.alloc (.cells #[.string a.name,.slice I a.args.length J] 40)).drew;have k2:=fun w' (hb:Below w.heap.size w w')=>RI xs a _ _ _ bs b2 w' (au.below h hb) (ak.below h2 hb) hs hn
 have k3:=fun w' (hb:Below w.heap.size w w')=>ql a _ _ b2 w' (ak.below h2 hb)
 generalize aW a=x at *;generalize hasB xs a=y at *;clear h h2 hm;have c0:(w.alloc (.cells #[.string a.name,.slice I a.args.length J] 40)).cell? ⟨w.heap.size,0,none⟩=some (.string a.name):=by go_simp
 have c1:(w.alloc (.cells #[.string a.name,.slice I a.args.length J] 40)).cell? ⟨w.heap.size,1,none⟩=some (.slice I a.args.length J):=by go_simp
 have a3:w.heap.size < (w.alloc (.cells #[.string a.name,.slice I a.args.length J] 40)).heap.size:=by simp
 go_enter Tryz.func83,Tryz.ntmps83
 go_wp2;generalize w.alloc (.cells #[.string a.name,.slice I a.args.length J] 40)=wa at *
 go_region_held3 (fun w'=>w'.cell? ⟨w.heap.size,0,none⟩=some (.string a.name)∧w'.cell? ⟨w.heap.size,1,none⟩=some (.slice I a.args.length J))
  (first | go_keep | exact ⟨x0,x1⟩ | exact ⟨y0,y1⟩)
  (first
   | (go_at_call 143; refine k1.mono ?_; rintro e w1 ⟨rfl,U⟩; have x0:=ξ U c0; have x1:=ξ U c1; have B1:=a1.drew.trans (U.mono a1.size))
   | (go_at_call 144; refine (k2 _ B1).mono ?_; rintro e w2 ⟨rfl,a0⟩; have y0:=ξ a0 x0; have y1:=ξ a0 x1; have B2:=B1.trans (a0.mono B1.size)))
 clear k1 k2 x0 x1 c0 c1;cases y
 ·go_wp2
  go_ret;exact ⟨aA (by simp),B2⟩
 ·go_wp2_with fail
  refine (k3 _ B2).mono ?_;rintro e w3 ⟨rfl,a2⟩;go_wp2;go_ret;exact ⟨aA (by simp),B2.trans (a2.mono B2.size)⟩
end
section
open Go.RowKit D
structure D.kP (sk sb:Nat) (v1 v2:Value) (wt:Nat→Bool) (io:Bool) (ah:Int) (tell:Value) (w:World):Prop where
 st:w.cell? ⟨sk,0,none⟩=some (.pointer (some ⟨sb,0,none⟩))
 p1:w.cell? ⟨sk,1,none⟩=some v1
 p2:w.cell? ⟨sk,2,none⟩=some v2
 wd:∀ i,i < 12→w.cell? ⟨sk,4+i,none⟩=some (.bool (wt i))
 io:w.cell? ⟨sk,16,none⟩=some (.bool io)
 ah:w.cell? ⟨sk,17,none⟩=some (.int .i64 ah)
 tl:w.cell? ⟨sk,43,none⟩=some tell
section
variable {sk sb:Nat} {v1 v2:Value} {wt:Nat→Bool} {io:Bool} {ah:Int} {tell:Value} {w w':World}
theorem D.kP.keep (h:kP sk sb v1 v2 wt io ah tell w) (e:w'.heap[sk]? = w.heap[sk]?):kP sk sb v1 v2 wt io ah tell w':=
 ⟨(World.cell?_of_block e).trans h.st,(World.cell?_of_block e).trans h.p1,(World.cell?_of_block e).trans h.p2,fun i hi=>(World.cell?_of_block e).trans (h.wd i hi),(World.cell?_of_block e).trans h.io,(World.cell?_of_block e).trans h.ah,(World.cell?_of_block e).trans h.tl⟩
theorem D.kP.lt (h:kP sk sb v1 v2 wt io ah tell w):sk < w.heap.size:=lt_of_cell h.st
end
def D.setB (vars:List ByteArray) (b:Bd) (wt:Nat→Bool):Bool:=(List.range 12).all fun i=>!wt i || decide (Ey vars b i ≠ ⟨#[]⟩)
theorem D.Dc {vars:List ByteArray} {b:Bd} {wt:Nat→Bool}:setB vars b wt=true ↔ ∀ i,i < 12→wt i=true→Ey vars b i ≠ ⟨#[]⟩:=by
 unfold setB;rw [ό];constructor
 ·intro h i hi y
  have:=h i (List.mem_range.2 hi);simpa [y] using this
 ·intro h i hi
  have hi:=List.mem_range.1 hi;cases y:wt i
  ·rfl
  ·simpa using h i hi y
structure D.RJ where
 k:WK
 v:Value
 L:List Value
 n:Nat
def D.Vu (u v:Value):Prop:=∀ x,u.ownBlock=some x→v.ownBlock ≠ some x
theorem D.Vu.symm {u v:Value} (h:Vu u v):Vu v u:=fun x e y=>h x y e
abbrev D.Jt (r:RJ):Value × Value × Nat:=(Ei r.k,r.v,r.n)
structure D.rJ (B:Nat) (G:WK→List Nat) (ou:List Nat) (rows:List RJ) (w:World):Prop where
 coll:∀ r ∈ rows,cu 1 xk B 3 w r.v r.L (G r.k) []
 dis:∀ r ∈ rows,∀ s ∈ rows,r.k ≠ s.k→Vu r.v s.v
 own:∀ r ∈ rows,∀ x,r.v.ownBlock=some x→x ∈ ou
structure D.rM (B mu:Nat) (G:WK→List Nat) (ou:List Nat) (w:World):Prop where
 ex:∃ rows c,oO FZ mu (rows.map Jt) c w∧rJ B G ou rows w∧∀ k,(∀ r ∈ rows,r.k ≠ k)→G k = []
structure D.Df (B mu:Nat) (G:WK→List Nat) (ou:List Nat) (k:WK) (u:Value) (L:List Value) (n:Nat) (w:World):Prop where
 ex:∃ A1 B1 c,oO FZ mu (A1.map Jt ++ (Ei k,u,n) :: B1.map Jt) c w∧rJ B G ou (A1 ++ B1) w∧(∀ r ∈ A1 ++ B1,r.k ≠ k∧Vu u r.v)∧∀ k',k' ≠ k→(∀ r ∈ A1 ++ B1,r.k ≠ k')→G k' = []
 coll:cu 1 xk B 3 w u L (G k) []
 own:∀ x,u.ownBlock=some x→x ∈ ou
def D.Dh (G:WK→List Nat) (k:WK) (i:Nat):WK→List Nat:=fun y=>if y=k then G k ++ [i] else G y
section
variable {B mu:Nat} {G:WK→List Nat} {ou:List Nat} {w w':World}
theorem D.rJ.keep {rows:List RJ} (h:rJ B G ou rows w) (hk:∀ r ∈ rows,∀ x,r.v.ownBlock=some x→w'.heap[x]? = w.heap[x]?):rJ B G ou rows w':=
 ⟨fun r hr=>(h.coll r hr).lI iI (hk r hr) (fun b y=>by simp at y),h.dis,h.own⟩
theorem D.rJ.lt {rows:List RJ} (h:rJ B G ou rows w) {r:RJ} (hr:r ∈ rows) {x:Nat} (y:r.v.ownBlock=some x):B≤x∧x < w.heap.size:=bD (h.coll r hr).own y
theorem D.rM.keep (h:rM B mu G ou w) (h1:w'.heap[mu]? = w.heap[mu]?) (I:∀ x ∈ ou,w'.heap[x]? = w.heap[x]?):rM B mu G ou w':=by
 obtain ⟨rows,c,J,y,U⟩:=h.ex;exact ⟨rows,c,J.same h1,y.keep fun r hr x hx=>I x (y.own r hr x hx),U⟩
theorem D.Df.keep {k:WK} {u:Value} {L:List Value} {n:Nat} (h:Df B mu G ou k u L n w) (h1:w'.heap[mu]? = w.heap[mu]?) (I:∀ x ∈ ou,w'.heap[x]? = w.heap[x]?):Df B mu G ou k u L n w':=by
 obtain ⟨U,B1,c,g1,J,g3,g4⟩:=h.ex;exact ⟨⟨U,B1,c,g1.same h1,J.keep fun r hr x y=>I x (J.own r hr x y),g3,g4⟩,h.coll.lI iI (fun x y=>I x (h.own x y)) (fun b hb=>by simp at hb),h.own⟩
theorem D.rM.entry (h:rM B mu G ou w) (hm:mu < B) (k:WK):
  ∃ w' u n L,(Instr.mapEntry 111 (.map (some mu)) (.agg #[.string k.name,.int .i64 k.size,.int .i64 k.place,.string k.word])).run Tryz.prog w=.ok (.tuple #[u,.int .i64 (n:Nat)]) w'∧Df B mu G ou k u L n w'∧w.grownBy w' (some mu):=by
 obtain ⟨rows,c,g1,g2,g3⟩:=h.ex
 have kp:∀ {w':World},w.grownBy w' (some mu)→∀ r ∈ rows,∀ x,r.v.ownBlock=some x→w'.heap[x]? = w.heap[x]?:=fun hg r hr x hx=>by
  obtain ⟨h1,h2⟩:=g2.lt hr hx;exact hg.block x h2 (fun e=>by injection e with e; omega)
 by_cases hex:∃ r ∈ rows,r.k=k
 ·obtain ⟨r,hr,rfl⟩:=hex
  obtain ⟨A1,B1,rfl⟩:=List.append_of_mem hr;rw [List.map_append,List.map_cons] at g1;obtain ⟨w',r1,r2,r3⟩:=FO wW (w:=w) trivial Tryz.underlying111 g1;have I:∀ s ∈ A1 ++ B1,s ∈ A1 ++ r :: B1:=fun s y=>(μ.1 y).elim (fun h=>Ξ _ h) fun h=>Ω _ (Δ _ h)
  have a0:∀ s ∈ A1 ++ B1,s.k ≠ r.k:=fun s y e=>by
   have ho:=r2.once;obtain ⟨p1,p2,p3⟩:=List.pairwise_append.1 ho
   rcases μ.1 y with y | y
   ·exact p3 (Jt s) (List.mem_map.2 ⟨s,y,rfl⟩) (Jt r) Γ (by show Ei s.k=Ei r.k; rw [e])
   ·exact (List.pairwise_cons.1 p2).1 (Jt s) (List.mem_map.2 ⟨s,y,rfl⟩) (by show Ei r.k=Ei s.k; rw [e])
  have U:=g2.keep (kp r3);refine ⟨w',r.v,r.n,r.L,r1,⟨⟨A1,B1,c,r2,⟨fun s y=>U.coll s (I s y),fun s y t ht=>U.dis s (I s y) t (I t ht),fun s y=>U.own s (I s y)⟩,fun s y=>⟨a0 s y,g2.dis r hr s (I s y) (fun e=>a0 s y e.symm)⟩,fun k' a1 J=>g3 k' fun s y=>?_⟩,U.coll r hr,g2.own r hr⟩,r3⟩
  rcases μ.1 y with y | y
  ·exact J s (Ξ _ y)
  ·rcases ύ.1 y with rfl | y
   ·exact fun e=>a1 e.symm
   ·exact J s (Ω _ y)
 ·have J:∀ r ∈ rows,r.k ≠ k:=fun r hr e=>hex ⟨r,hr,e⟩
  obtain ⟨w',r1,r2,r3⟩:=FN wW (w:=w) trivial Tryz.underlying111 (k:=Ei k) (z:=.slice none 0 0) g1 (by kernel_rfl) ⟨k,rfl⟩ (fun p hp e=>by
   obtain ⟨r,hr,rfl⟩:=List.mem_map.1 hp
   exact J r hr (F5 e))
  refine ⟨w',.slice none 0 0,c,[],r1,⟨⟨rows,[],c+1,by simpa using r2,by simpa using g2.keep (kp r3),fun r hr=>?_,fun k' a1 hn=>g3 k' fun r hr=>hn r (by simpa using hr)⟩,by rw [g3 k J]; exact cu.nil _,fun x hx=>by simp [Value.ownBlock] at hx⟩,r3⟩;simp at hr;exact ⟨J r hr,fun x hx=>by simp [Value.ownBlock] at hx⟩
theorem D.Df.store {k:WK} {u I:Value} {L L':List Value} {n i:Nat} (h:Df B mu G ou k u L n w) (hm:mu < B) (hg:w.grownBy w' u.ownBlock) (hc:cu 1 xk B 3 w' I L' (G k ++ [i]) []) (U:I.ownBlock=u.ownBlock∨I.ownBlock=some w.heap.size):
  ∃ w2 a2,(Instr.entryStore 111 (.map (some mu)) (.int .i64 (n:Nat)) I).run Tryz.prog w'=.ok () w2∧rM B mu (Dh G k i) a2 w2∧w'.grownBy w2 (some mu)∧∀ x ∈ a2,x ∈ ou∨(I.ownBlock=some x∧x=w.heap.size):=by
 obtain ⟨A1,B1,c,g1,g2,g3,g4⟩:=h.ex
 have a8:w'.heap[mu]? = w.heap[mu]?:=hg.block mu g1.lt (fun e=>by
  have:=(bD h.coll.own e.symm).1; omega)
 obtain ⟨w2,r1,r2,r3⟩:=BN (P:=Tryz.prog) (t:=111) I (g1.same a8);have a3:∀ x,B≤x→x < w'.heap.size→w2.heap[x]? = w'.heap[x]?:=fun x h1 h2=>r3.block x h2 (fun e=>by injection e with e; omega)
 have a4:rJ B G ou (A1 ++ B1) w2:=g2.keep fun r hr x J=>by
  obtain ⟨h1,h2⟩:=g2.lt hr J;exact (a3 x h1 (κ h2 hg.size)).trans (hg.block x h2 (fun e=>(g3 r hr).2 x e.symm J))
 have a9:cu 1 xk B 3 w2 I L' (G k ++ [i]) []:=hc.lI iI (fun x J=>by
  obtain ⟨h1,h2⟩:=bD hc.own J
  exact a3 x h1 h2) (fun b hb=>by simp at hb)
 have a0:∀ r ∈ A1 ++ B1,Vu I r.v:=fun r hr x J a5=>by
  rcases U with e | e
  ·exact (g3 r hr).2 x (e ▸ J) a5
  ·rw [e] at J
   have:=(g2.lt hr a5).2
   injection J with J
   omega
 refine ⟨w2,ou ++ I.ownBlock.toList,r1,⟨A1 ++ ⟨k,I,L',n⟩ :: B1,c,by rw [List.map_append,List.map_cons]; exact r2,⟨fun r hr=>?_,fun r hr s hs a6=>?_,fun r hr x J=>?_⟩,fun k' a1=>?_⟩,r3,fun x J=>?_⟩
 ·rcases μ.1 hr with hr | hr
  ·have:=a4.coll r (Ξ _ hr)
   unfold Dh; rw [if_neg (g3 r (Ξ _ hr)).1]; exact this
  ·rcases ύ.1 hr with rfl | hr
   ·unfold Dh; rw [if_pos rfl]; exact a9
   ·have:=a4.coll r (Ω _ hr)
    unfold Dh; rw [if_neg (g3 r (Ω _ hr)).1]; exact this
 ·have cs:∀ t ∈ A1 ++ ⟨k,I,L',n⟩ :: B1,t=⟨k,I,L',n⟩∨t ∈ A1 ++ B1:=fun t ht=>by
   rcases μ.1 ht with ht | ht
   ·exact .inr (Ξ _ ht)
   ·rcases ύ.1 ht with rfl | ht
    ·exact .inl rfl
    ·exact .inr (Ω _ ht)
  rcases cs r hr with rfl | hr <;> rcases cs s hs with rfl | hs
  ·exact absurd rfl a6
  ·exact a0 s hs
  ·exact (a0 r hr).symm
  ·exact g2.dis r hr s hs a6
 ·rcases μ.1 hr with hr | hr
  ·exact Ξ _ (g2.own r (Ξ _ hr) x J)
  ·rcases ύ.1 hr with rfl | hr
   ·have y:I.ownBlock=some x:=J
    exact Ω _ (by rw [y]; simp)
   ·exact Ξ _ (g2.own r (Ω _ hr) x J)
 ·have a7:k' ≠ k:=fun e=>a1 ⟨k,I,L',n⟩ (by simp) e.symm
  unfold Dh;rw [if_neg a7];exact g4 k' a7 fun r hr=>(μ.1 hr).elim (fun h=>a1 r (Ξ _ h)) fun h=>a1 r (Ω _ (Δ _ h))
 ·rcases μ.1 J with h' | h'
  ·exact .inl h'
  ·have y:I.ownBlock=some x:=by simpa using h'
   rcases U with e | e
   ·exact .inl (h.own x (e ▸ y))
   ·refine .inr ⟨y,?_⟩
    rw [e] at y
    injection y with y
    exact y.symm
end
end
end Go.Proofs.YtlmngncogomgeaaGreatDoor
