/- Of the proof of FnExactDelta: EvalS, StoQ, RunP3, FolQ, StoI, FolR. -/
import Derived.Test.YtiidmgchadagbaaGreatDoorM35
import Derived.Test.YtiidmgchadagbaaGreatDoorM36
set_option linter.unusedVariables false
set_option maxHeartbeats 4000000
set_option maxRecDepth 100000
namespace Go.Proofs.YtiidmgchadagbaaGreatDoor
open Go.RowKit D
attribute [local go_sem ↓] Go.wp_at_zero Go.wp_at_succ
def D.fP (rs:List Ru) (xs:List A):Bool:=decide (fO rs=0) && (okB xs && decide (xs.length≤40)) && uf (aQ rs) xs
def D.dJ (rs:List Ru) (xs:List A):List A × Bool:=if fP rs xs then (if (iM rs xs).2 then ((iM rs xs).1.1,true) else ([],false)) else ([],false)
theorem KD (rs:List Ru) (xs:List A) (v1 v2:Value) (b1 b2:List Nat) (w:World) (h:dO w [v1] rs b1) (h2:aI w [v2] xs b2):
  Calls Tryz.prog 31 #[v1,v2] w fun e w'=>e=.returned (.bool (fP rs xs))∧Below w.heap.size w w':=by
 have c1:=Dp rs v1 b1 w h;have C2:=η fun w' (hb:Below w.heap.size w w')=>JS xs v2 b2 40 w' (ai.below h2 hb) (by omega)
 have C3:=η fun w' (hb:Below w.heap.size w w') (hn:(aQ rs).length≤1000000)=>Qc rs xs v1 v2 b1 b2 w' (aC.below h hb) (ai.below h2 hb) hn
 have hle:(fO rs:Int)≤5:=by have:=Ji rs; omega
 clear h h2;by_cases hp:fO rs=0
 ·have hn:(aQ rs).length≤1000000:=by have h1:=(sW rs).1 hp; have:=(lD h1.ok).2; have:=h1.few; omega
  have C4:=η fun w' hb=>C3.out w' hb hn
  have HZ:Hid (fP rs xs=((okB xs && decide (xs.length≤40)) && uf (aQ rs) xs)):=η (by unfold fP; rw [decide_eq_true hp,Bool.true_and]);rw [hp] at c1;clear hp hn C3 hle;generalize uf (aQ rs) xs=z at *
  go_enter Tryz.func31,Tryz.ntmps31
  go_wp2_with fail
  refine c1.mono ?_;rintro e w1 ⟨rfl,hb1⟩;clear c1
  go_wp2_with fail
  refine (C2.out _ hb1).mono ?_;rintro e w2 ⟨rfl,hb2⟩;have B2:=hb1.trans (hb2.mono hb1.size);clear C2 hb1 hb2;cases hx:(okB xs && decide (xs.length≤40))
  ·have HZ2:Hid (fP rs xs=false):=η (by rw [HZ.out,hx]; rfl)
   clear HZ hx C4;go_wp2;go_ret;exact ⟨aO HZ2.out.symm,B2⟩
  ·have HZ2:Hid (fP rs xs=z):=η (by rw [HZ.out,hx]; rfl)
   clear HZ hx
   go_wp2_with fail
   refine (C4.out _ B2).mono ?_;rintro e w3 ⟨rfl,hb3⟩;have B3:=B2.trans (hb3.mono B2.size);clear C4 hb3;go_wp2;go_ret;exact ⟨aO HZ2.out.symm,B3⟩
 ·have HZ2:Hid (fP rs xs=false):=η (by unfold fP; rw [decide_eq_false hp]; rfl)
  have hp':¬ (fO rs:Int)=0:=by omega
  clear hp C2 C3
  go_enter Tryz.func31,Tryz.ntmps31
  go_wp2_with fail
  refine c1.mono ?_;rintro e w1 ⟨rfl,hb1⟩;go_wp2;go_ret;exact ⟨aO HZ2.out.symm,hb1⟩
theorem D.KE {a:A} (h:aZ a=true):a.args.length≤3:=by
 unfold aZ at h;simp only [Bool.and_eq_true,decide_eq_true_eq] at h;exact h.1.2
theorem D.TU {r:Ru} (h:fC r=true):r.body.length≤4∧r.head.args.length≤1000∧∀ p ∈ r.body,p.atom.args.length≤1000:=by
 unfold fC oW at h;simp only [Bool.and_eq_true,decide_eq_true_eq,List.all_eq_true] at h;exact ⟨h.1.1,Nat.le_trans (KE h.2) (by omega),fun p hp=>Nat.le_trans (KE (h.1.2 p hp)) (by omega)⟩
structure D.KF (rs:List Ru) (xs:List A):Prop where
 ig:ig xs=true
 n:xs.length≤40
 m:rs.length≤8
 ok:rs.all fC=true
 facts:∀ a ∈ xs,dM a=true
 fine:Fine rs
 fit:uf (aQ rs) xs=true
theorem D.oK {rs:List Ru} {xs:List A} (h:fP rs xs=true):KF rs xs:=by
 unfold fP okB at h;simp only [Bool.and_eq_true,decide_eq_true_eq,List.all_eq_true] at h;have hf:=(sW rs).1 h.1.1;exact ⟨h.1.2.1.2,h.1.2.2,hf.few,hf.ok,h.1.2.1.1,hf,h.2⟩
theorem D.KF.rules {rs:List Ru} {xs:List A} (h:KF rs xs):∀ r ∈ rs,r.body.length≤4∧r.head.args.length≤1000∧∀ p ∈ r.body,p.atom.args.length≤1000:=fun r hr=>TU (List.all_eq_true.1 h.ok r hr)
theorem D.KF.args {rs:List Ru} {xs:List A} (h:KF rs xs):∀ a ∈ xs,a.args.length≤1000:=fun a ha=>Nat.le_trans (yK (h.facts a ha)) (by omega)
theorem eval_any (rs:List Ru) (xs:List A) (v1 v2:Value) (b1 b2:List Nat) (w:World) (h:dO w [v1] rs b1) (h2:aI w [v2] xs b2):
  Calls Tryz.prog 8 #[v1,v2] w fun e w'=>Below w.heap.size w w'∧∃ v bs,e=.returned (.tuple #[v,.bool (dJ rs xs).2])∧aI w' [v] (dJ rs xs).1 bs:=by
 have c1:=KD rs xs v1 v2 b1 b2 w h h2;have HR:=η h;have HX:=η h2;clear h h2
 cases hok:fP rs xs with
 | false=>
  have HE:Hid (dJ rs xs=([],false)):=η (by unfold dJ; rw [hok]; rfl);rw [hok] at c1;clear hok
  go_enter Tryz.func8,Tryz.ntmps8
  go_wp2_with fail
  refine c1.mono ?_;rintro e w1 ⟨rfl,hb1⟩;have hbe:Below w.heap.size w (w1.alloc (.cells #[] 68)):=hb1.alloc hb1.size _;clear c1;go_wp2;go_ret2;exact ⟨hbe,.slice (some ⟨w1.heap.size,0,none⟩) 0 0,[],(by rw [HE.out]; try rfl),by rw [HE.out]; exact sG⟩
 | true=>
  have HK:=η (oK hok);rw [hok] at c1
  go_enter Tryz.func8,Tryz.ntmps8
  go_wp2_with fail
  refine c1.mono ?_;rintro e w1 ⟨rfl,hb1⟩;have q:=run_any rs xs v1 v2 b1 b2 w1 (aC.below HR.out hb1) (ai.below HX.out hb1) HK.out.ig (by have:=HK.out.n; omega) HK.out.m HK.out.ok HK.out.rules HK.out.args;clear c1
  go_wp2_with fail
  refine q.mono ?_;rintro e w2 ⟨hb2,e0,e1,bs2,rfl,h2⟩;have B2:=η (hb1.trans (hb2.mono hb1.size));obtain ⟨A3,p3,bx,ox,cx,ba,bb,rfl,rfl,rfl,h3,-,-⟩:=oJ h2;have H3:=η (ai.below h3 ((Below.refl w2.heap.size w2).alloc (Nat.le_refl _) (.cells #[.slice A3 (iM rs xs).1.1.length p3,.slice (some ⟨bx,ox,none⟩) (iM rs xs).1.2.length cx] 63)));have B3:=η (B2.out.alloc B2.out.size (.cells #[.slice A3 (iM rs xs).1.1.length p3,.slice (some ⟨bx,ox,none⟩) (iM rs xs).1.2.length cx] 63));clear q h2 h3 hb1 hb2
  cases hr:(iM rs xs).2 with
  | false=>
   have HE:Hid (dJ rs xs=([],false)):=η (by unfold dJ; rw [hok,hr]; rfl);have B4:=η (B3.out.alloc B3.out.size (.cells #[] 68));clear hok hr;go_wp2;go_ret2;exact ⟨B4.out,.slice (some ⟨w2.heap.size+1,0,none⟩) 0 0,[],(by rw [HE.out]; try rfl),by rw [HE.out]; exact sG⟩
  | true=>
   have HE:Hid (dJ rs xs=((iM rs xs).1.1,true)):=η (by unfold dJ; rw [hok,hr]; rfl);clear hok hr;go_wp2;go_ret2;exact ⟨B3.out,.slice A3 (iM rs xs).1.1.length p3,ba,(by rw [HE.out]; try rfl),by rw [HE.out]; exact H3.out⟩
end Go.Proofs.YtiidmgchadagbaaGreatDoor
namespace Go.Proofs.YtiidmgchadagbaaGreatDoor
open Go.RowKit Go.ChangeMaps Go.MapKept D
def D.zf (fs:List A):List (Value × Value):=fs.zipIdx.map fun p=>(.string (eu p.1),.int .i64 (p.2:Nat))
theorem D.FK (fs:List A) (a:A):zf (fs ++ [a])=zf fs ++ [(.string (eu a),.int .i64 (fs.length:Nat))]:=by
 unfold zf;rw [List.zipIdx_append,List.map_append];simp
theorem D.yC {fs:List A} {p:Value × Value}:p ∈ zf fs ↔ ∃ i,∃ h:i < fs.length,p=(.string (eu fs[i]),.int .i64 (i:Nat)):=by
 unfold zf;rw [List.mem_map];constructor
 ·rintro ⟨q,hq,rfl⟩
  obtain ⟨a,i⟩:=q;obtain ⟨h1,h2,h3⟩:=List.mem_zipIdx hq;simp at h2 h3;exact ⟨i,h2,by rw [← h3]⟩
 ·rintro ⟨i,h,rfl⟩
  exact ⟨(fs[i],i),by rw [List.mem_zipIdx_iff_getElem?]; simp [h],rfl⟩
theorem D.TV {w:World} {Ad:Option Addr} {n c:Nat} {xs:List Nat} {b:List Nat} (h:jD w [.slice Ad n c] xs b):∀ x ∈ b,(Value.slice Ad n c).ownBlock=some x:=by
 obtain ⟨Ad',cap,he,_,_,h0,h1⟩:=h;simp only [List.cons.injEq,Value.slice.injEq,and_true] at he;obtain ⟨rfl,rfl,rfl⟩:=he;intro x hx;by_cases hxs:xs = []
 ·rw [h0 hxs] at hx; simp at hx
 ·obtain ⟨b0,o,rfl,F,G,rfl,h3⟩:=h1 hxs
  rcases List.mem_cons.1 hx with rfl | hx
  ·rfl
  ·obtain ⟨k,hk,hk2⟩:=List.mem_flatMap.1 hx
   have hk:=List.mem_range.1 hk;obtain ⟨_,_,h5⟩:=h3 k _ (List.getElem?_eq_getElem hk);rw [h5.2] at hk2;simp at hk2
theorem D.kZ.view {B sb mu mp:Nat} {Af:Option Addr} {nf cf:Nat} {Lf:List Value} {fs:List A} {bf:List Nat} {Ar:Option Addr} {nr cr:Nat} {Lr:List Value} {rn:List Nat} {ou:List Nat} {w:World} (h:kZ B sb mu mp Af nf cf Lf fs bf Ar nr cr Lr rn (zf fs) (idxs fs) ou w) (B0:Nat) (hB0:B0≤sb∧B0≤mu∧B0≤mp∧B0≤B):
  ∃ bs,kE sb fs rn bs w∧∀ x ∈ bs,B0≤x∨x ∈ bf:=by
 obtain ⟨l1,l2,l3,_⟩:=h.lo;have hs:=h.pX;have hef:=h.ef;have her:=h.er;subst hef her;obtain ⟨b2,hF,hF2⟩:=h.cF.slice;obtain ⟨b3,hR,hR2⟩:=h.cR.slice;obtain ⟨rows,c,g1,g2,g3⟩:=h.un.ex;refine ⟨sb :: mu :: mp :: (b2 ++ b3 ++ ou),⟨⟨Af,cf,Ar,cr,mu,mp,b2,b3,(rows.map J3).map (fun p=>(p.1,p.2.1)),zf fs,h.blk,hF,hR,g1.WV,h.pl,fun k=>?_,fun s=>?_,fun p hp=>?_,by simp,by simp,fun b hb=>by simp [hb],fun b hb=>by simp [hb]⟩,by simp,fun x hx=>?_⟩,fun x hx=>?_⟩
 ·by_cases hex:∃ r ∈ rows,r.k=k
  ·obtain ⟨r,hr,rfl⟩:=hex
   obtain ⟨b,hb,_⟩:=(g2.coll r hr).slice;obtain ⟨Ad,cap,hv,_⟩:=af hb;refine .inl ⟨r.v,b,List.mem_map.2 ⟨J3 r,List.mem_map.2 ⟨r,hr,rfl⟩,rfl⟩,hb,fun x hx=>?_⟩;rw [hv] at hb;have:=g2.own r hr x (by rw [hv]; exact TV hb x hx);simp [this]
  ·refine .inr ⟨fun p hp e=>?_,g3 k fun r hr e=>hex ⟨r,hr,e⟩⟩
   obtain ⟨q,hq,rfl⟩:=List.mem_map.1 hp;obtain ⟨r,hr,rfl⟩:=List.mem_map.1 hq;exact hex ⟨r,hr,GK e⟩
 ·constructor
  ·rintro ⟨i,hi⟩
   obtain ⟨j,hj,e⟩:=yC.1 hi;simp at e;exact List.mem_map.2 ⟨fs[j],List.getElem_mem hj,e.1.symm⟩
  ·intro hm
   obtain ⟨f,hf,rfl⟩:=List.mem_map.1 hm;obtain ⟨j,hj,rfl⟩:=List.getElem_of_mem hf;exact ⟨j,yC.2 ⟨j,hj,rfl⟩⟩
 ·obtain ⟨i,hi,rfl⟩:=yC.1 hp
  exact ⟨i,rfl⟩
 ·simp only [List.mem_cons,List.mem_append] at hx
  rcases hx with rfl | rfl | rfl | (hx | hx) | hx
  ·omega
  ·omega
  ·omega
  ·exact ai.lt hF x hx
  ·exact dL.lt hR x hx
  ·exact (h.ous x hx).2
 ·simp only [List.mem_cons,List.mem_append] at hx
  rcases hx with rfl | rfl | rfl | (hx | hx) | hx
  ·exact .inl hB0.1
  ·exact .inl hB0.2.1
  ·exact .inl hB0.2.2.1
  ·exact (hF2 x hx).imp (fun h=>by omega) id
  ·rcases hR2 x hx with h | h
   ·exact .inl (by omega)
   ·simp at h
  ·have:=(h.ous x hx).1; exact .inl (by omega)
theorem D.KG {fs:List A} (hf:∀ f ∈ fs,aX f) {a:A} (ha:aX a) (hno:a ∉ fs):∀ p ∈ zf fs,p.1 ≠ .string (eu a):=fun p hp e=>by
 obtain ⟨i,hi,rfl⟩:=yC.1 hp;simp at e;exact hno (y8 (hf _ (List.getElem_mem hi)).ok ha.ok e ▸ List.getElem_mem hi)
end Go.Proofs.YtiidmgchadagbaaGreatDoor
namespace Go.Proofs.YtiidmgchadagbaaGreatDoor
open Go.RowKit D
section
variable {vars:List ByteArray} {fs ps ns:List A} {head:A} {wt:Nat→Bool} {K:Nat→Prop} {sk:Nat} {T:Bool→World→List A→Prop} {go:List A→Bool} {b:Bd} {left m:Nat} {L:List Nat} {told ts:List A} {hd more s:Bool} {k:Nat} {w wr w5 w6:World}
def D.uy (vars:List ByteArray) (fs ps ns:List A) (head:A) (K:Nat→Prop) (sk:Nat) (T:Bool→World→List A→Prop) (go:List A→Bool) (b:Bd) (left:Nat) (told:List A) (w:World) (e:Ending) (w':World):Prop:=
 ∃ held more,e=.returned (.tuple #[.bool held,.bool more])∧jc vars fs ps ns head K sk T go b left told held more w w'
theorem D.jc.ret (P:jc vars fs ps ns head K sk T go b left told hd more w w5):uy vars fs ps ns head K sk T go b left told w (.returned (.tuple #[.bool hd,.bool more])) w5:=⟨hd,more,rfl,P⟩
theorem D.jc.bd {b':Bd} {held' more':Bool} {left':Nat} {told':List A} (P:jc vars fs ps ns head K sk T go b' left' told' held' more' w w6):iJ vars b' sk 18 w6:=by
 obtain ⟨_,_,h,_⟩:=P;exact h
structure D.gV (vars:List ByteArray) (fs ps ns:List A) (head:A) (K:Nat→Prop) (sk:Nat) (T:Bool→World→List A→Prop) (go:List A→Bool) (b:Bd) (left m:Nat) (L:List Nat) (told ts:List A) (hd more:Bool) (k:Nat) (w wr:World):Prop where
 kept:bV K sk w wr
 at_:iJ vars b sk 18 wr
 st:T more wr (told ++ ts)
 sound:∀ t ∈ ts,∃ σ,uT fs ps ns b left σ∧gY σ head=t
 whole:more=true→∀ i,i < k→∀ (h:i < L.length) (j:Nat) (hj:j < fs.length),L[i]=j→∀ (hm:m < ps.length) σ,uT fs ps ns b left σ→gY σ ps[m]=fs[j]→gY σ head ∈ ts
 held:hd=true→ts ≠ []
 nogo:more=false→go (told ++ ts)=false
theorem D.gV.skip (I:gV vars fs ps ns head K sk T go b left m L told ts hd true k w wr) (hk:k < L.length) (hj:L[k] < fs.length) (hm:m < ps.length) (hmt:(aK ps[m] fs[L[k]] b).2=false)
  (k6:bV K sk wr w6) (at6:iJ vars b sk 18 w6) (st6:T true w6 (told ++ ts)):gV vars fs ps ns head K sk T go b left m L told ts hd true (k+1) w w6:=by
 refine ⟨I.kept.trans k6,at6,st6,I.sound,fun _ i hi h j hj' e hm' σ hσ he=>?_,I.held,fun h=>by cases h⟩
 rcases Nat.lt_succ_iff_lt_or_eq.1 hi with h1 | rfl
 ·exact I.whole rfl i h1 h j hj' e hm' σ hσ he
 ·subst e
  rw [(nO hσ.1 he).1] at hmt;cases hmt
theorem D.gV.took (I:gV vars fs ps ns head K sk T go b left m L told ts hd true k w wr) (hl:left < 16) (hp4:ps.length≤4) (hk:k < L.length) (hj:L[k] < fs.length) (hgr:Gr fs[L[k]]) (hm:m < ps.length) (hbit:left.testBit m=true) (hmt:(aK ps[m] fs[L[k]] b).2=true)
  {w4:World} {held' more':Bool} (P:jc vars fs ps ns head K sk T go (aK ps[m] fs[L[k]] b).1 (left - 2 ^ m) (told ++ ts) held' more' w4 w5) (k4:bV K sk wr w4) (k6:bV K sk w5 w6) (at6:iJ vars b sk 18 w6) (hT:∀ ts',T more' w5 ts'→T more' w6 ts'):
  ∃ ts2,gV vars fs ps ns head K sk T go b left m L told ts2 (hd || held') more' (k+1) w w6:=by
 obtain ⟨ts',p1,p2,p3,p4,p5,p6,p7⟩:=P;refine ⟨ts ++ ts',I.kept.trans (k4.trans (p1.trans k6)),at6,by rw [← List.append_assoc]; exact hT _ p3,fun t ht=>?_,fun hmo i hi h j hj' e hm' σ hσ he=>?_,fun hh=>?_,fun h=>by rw [← List.append_assoc]; exact p7 h⟩
 ·rcases List.mem_append.1 ht with ht | ht
  ·exact I.sound t ht
  ·obtain ⟨σ,h1,h2⟩:=p4 t ht
   exact ⟨σ,h1.back hl hp4 hm hbit (List.getElem_mem _) hgr hmt,h2⟩
 ·rcases Nat.lt_succ_iff_lt_or_eq.1 hi with h1 | rfl
  ·exact List.mem_append_left _ (I.whole rfl i h1 h j hj' e hm' σ hσ he)
  ·subst e
   exact List.mem_append_right _ (p5 hmo σ (hσ.step hl hp4 hm hbit he).2)
 ·intro e
  rcases List.append_eq_nil_iff.1 e with ⟨e1,e2⟩
  rcases Bool.or_eq_true_iff.1 hh with h | h
  ·exact I.held h e1
  ·exact p6 h e2
theorem D.gV.drewN {c5 c7:Addr} (I:gV vars fs ps ns head K sk T go b left m L told ts hd more k w wr) (hT:wL vars head sk K c5 c7 T go) (hs:sk < w.heap.size) {n:Nat}:gV vars fs ps ns head K sk T go b left m L told ts hd more k w (wr.drewN n):=by
 have h2:Below wr.heap.size wr (wr.drewN n):=Fv (Below.refl _ _) n;have hs2:=Nat.lt_of_lt_of_le hs I.kept.size;exact ⟨I.kept.trans (bV.of_below hs2 h2),I.at_.keep rfl,hT.keep _ _ _ I.st (dD.of_below h2 hs2),I.sound,I.whole,I.held,I.nogo⟩
theorem D.gV.off (I:gV vars fs ps ns head K sk T go b left m L told ts hd false k w wr):jc vars fs ps ns head K sk T go b left told hd false w wr:=
 ⟨ts,I.kept,I.at_,I.st,I.sound,fun h=>absurd h (by decide),I.held,I.nogo⟩
theorem D.gV.brk (hc:xK b head.args) (I:gV vars fs ps ns head K sk T go b left m L told ts true true k w wr):jc vars fs ps ns head K sk T go b left told true true w wr:=
 ⟨ts,I.kept,I.at_,I.st,I.sound,fun _ σ hσ=>TQ hc I.sound (I.held rfl) σ hσ,I.held,I.nogo⟩
theorem D.gV.fin (E:rH vars fs ps ns head wt) {key:WK} {A9:Option Addr} {c9:Nat} {bs bx:List Nat} {w3:World} (C:wJ fs ps b bs left m A9 c9 key bx w3) (hL:L=idxs fs key) (I:gV vars fs ps ns head K sk T go b left m L told ts hd true k w wr) (hk:L.length≤k):
  jc vars fs ps ns head K sk T go b left told hd true w wr:=by
 refine ⟨ts,I.kept,I.at_,I.st,I.sound,fun _ σ hσ=>?_,I.held,I.nogo⟩;have hin:=hσ.2.1 m C.lt C.bit;obtain ⟨j,hj,e⟩:=List.getElem_of_mem hin;have hmt:=(nO (f:=fs[j]) hσ.1 e.symm).1;have hkey:=C.key_ (ps[m]'C.lt) (List.getElem?_eq_getElem _) fs[j] (E.fok _ (List.getElem_mem hj)).gr hmt;have hji:j ∈ L:=by rw [hL]; exact Dl.2 ⟨hj,hkey⟩
 obtain ⟨i,hi,e2⟩:=List.getElem_of_mem hji;exact I.whole rfl i (by omega) hi j hj e2 C.lt σ hσ e.symm
end
def D.lg (fs:List A) (r:Ru) (t:A):Prop:=∃ σ:Wo,t=gY σ r.head∧(∀ p ∈ r.body,p.no=false→gY σ p.atom ∈ fs)∧∀ p ∈ r.body,p.no=true→gY σ p.atom ∉ fs
structure D.kL (r:Ru):Prop where
 hok:aZ r.head=true
 pok:∀ p ∈ r.body,aZ p.atom=true
 few:r.body.length≤4
 tight:SG r
theorem D.qx {body:List Pt} {a:A}:a ∈ gZ body ↔ ∃ p ∈ body,p.no=false∧p.atom=a:=by
 unfold gZ;rw [List.mem_map];constructor
 ·rintro ⟨p,hp,rfl⟩
  obtain ⟨h1,h2⟩:=List.mem_filter.1 hp;exact ⟨p,h1,by simpa using h2,rfl⟩
 ·rintro ⟨p,h1,h2,rfl⟩
  exact ⟨p,List.mem_filter.2 ⟨h1,by simpa using h2⟩,rfl⟩
theorem D.qy {body:List Pt} {a:A}:a ∈ dX body ↔ ∃ p ∈ body,p.no=true∧p.atom=a:=by
 unfold dX;rw [List.mem_map];constructor
 ·rintro ⟨p,hp,rfl⟩
  obtain ⟨h1,h2⟩:=List.mem_filter.1 hp;exact ⟨p,h1,h2,rfl⟩
 ·rintro ⟨p,h1,h2,rfl⟩
  exact ⟨p,List.mem_filter.2 ⟨h1,h2⟩,rfl⟩
theorem D.FM:∀ (l:List Pt),(∀ p ∈ l,aZ p.atom=true)→bI (fun p:Pt=>p.atom.args.length) l≤l.length * 3
 | [],_=>Nat.zero_le _
 | p :: l,h=>by
  have h1:=FM l fun q hq=>h q (List.mem_cons_of_mem _ hq)
  have h2:=nR (h p (List.mem_cons_self ..));have h3:bI (fun p:Pt=>p.atom.args.length) (p :: l)=p.atom.args.length+bI (fun p:Pt=>p.atom.args.length) l:=by simp [bI]
  rw [h3,List.length_cons,Nat.add_mul];omega
theorem D.OB {r:Ru} (R:kL r):jT (aG r.body):=by
 refine ⟨?_,vW (lX r.body sN)⟩;have h1:=nZ r.body [];have h2:=FM r.body R.pok;have h3:=R.few;show (fD r.body []).length≤12;simp at h1;omega
theorem D.OC {ps:List Pt}:∀ p ∈ ps,∀ t ∈ p.atom.args,t.var=true→t.name ∈ aG ps:=fun p hp t ht htv=>(iq ps [] _).2 (.inr ⟨p,hp,t,ht,htv,rfl⟩)
theorem D.Ho {fs:List A} {r:Ru} (R:kL r) (hfs:∀ f ∈ fs,aX f) (hfl:fs.length≤1000000) {wt:Nat→Bool} (hwt:∀ i,i < 12→wt i=Ky (aG r.body) r.head (dX r.body) i):
  rH (aG r.body) fs (gZ r.body) (dX r.body) r.head wt:=by
 have hf:=R.few;have l1:(gZ r.body).length≤r.body.length:=by unfold gZ; rw [List.length_map]; exact List.length_filter_le _ _
 have l2:(dX r.body).length≤r.body.length:=by unfold dX; rw [List.length_map]; exact List.length_filter_le _ _
 refine ⟨OB R,by omega,hfl,by omega,hfs,fun p hp=>?_,fun n hn=>?_,R.hok,fun p hp=>?_,fun n hn=>?_,fun t ht htv=>?_,hwt,fun b hb=>?_⟩
 ·obtain ⟨q,h1,_,rfl⟩:=qx.1 hp; exact R.pok q h1
 ·obtain ⟨q,h1,_,rfl⟩:=qy.1 hn; exact R.pok q h1
 ·obtain ⟨q,h1,_,rfl⟩:=qx.1 hp; exact OC q h1
 ·obtain ⟨q,h1,_,rfl⟩:=qy.1 hn; exact OC q h1
 ·obtain ⟨p,hp,_,hv⟩:=R.tight t.name (.inl ⟨t,ht,htv,rfl⟩)
  exact (iq r.body [] _).2 (.inr ⟨p,hp,hv⟩)
 ·obtain ⟨h1,h2⟩:=ES R.tight (b:=b) fun p hp hn=>hb _ (qx.2 ⟨p,hp,hn,rfl⟩)
  exact ⟨h1,fun n hn=>by obtain ⟨q,h3,_,rfl⟩:=qy.1 hn; exact h2 q h3⟩
theorem D.TW {fs:List A} {r:Ru} (R:kL r) {ts:List A} (h1:∀ t ∈ ts,∃ σ,uT fs (gZ r.body) (dX r.body) [] (2 ^ (gZ r.body).length - 1) σ∧gY σ r.head=t)
  (h2:∀ σ,uT fs (gZ r.body) (dX r.body) [] (2 ^ (gZ r.body).length - 1) σ→gY σ r.head ∈ ts) (t:A):t ∈ ts ↔ lg fs r t:=by
 constructor
 ·intro h
  obtain ⟨σ,⟨_,g2,g3⟩,rfl⟩:=h1 t h;refine ⟨σ,rfl,fun p hp hn=>?_,fun p hp hn=>g3 _ (qy.2 ⟨p,hp,hn,rfl⟩)⟩;obtain ⟨j,hj,e⟩:=List.getElem_of_mem (qx.2 ⟨p,hp,hn,rfl⟩);rw [← e];exact g2 j hj (by rw [Nat.testBit_two_pow_sub_one]; simpa using hj)
 ·rintro ⟨σ,rfl,g1,g2⟩
  refine h2 σ ⟨fun n v h=>by simp [fV] at h,fun j hj _=>?_,fun n hn=>?_⟩
  ·obtain ⟨p,hp,hn,e⟩:=qx.1 (List.getElem_mem hj)
   rw [← e]; exact g1 p hp hn
  ·obtain ⟨p,hp,hn',rfl⟩:=qy.1 hn
   exact g2 p hp hn'
theorem D.Qu {r:Ru} (R:kL r) {b:Bd} (hw:uo b) (hc:xK b r.head.args):aX (bY r.head b):=uP R.hok hw hc
end Go.Proofs.YtiidmgchadagbaaGreatDoor
namespace Go.Proofs.YtiidmgchadagbaaGreatDoor
open Go.RowKit D
attribute [local go_sem ↓] Go.wp_at_zero Go.wp_at_succ
def D.Hq (xs:List A) (bx:List Nat) (w0:World) (k:Nat) (w:World):Prop:=
 ∃ Af cf Lf Ar cr Lr ou bf,kZ (w0.heap.size+3) (w0.heap.size+2) w0.heap.size (w0.heap.size+1) Af (xs.take k).length cf Lf (xs.take k) bf Ar (List.replicate k 0).length cr Lr (List.replicate k 0) (zf (xs.take k)) (idxs (xs.take k)) ou w∧Below w0.heap.size w0 w∧∀ x ∈ bf,x ∈ bx
theorem KH (xs:List A) (v:Value) (bx:List Nat) (w:World) (h:aI w [v] xs bx) (hf:∀ f ∈ xs,aX f) (hn:xs.Pairwise fun a b=>a ≠ b) (hl:xs.length≤1000000):
  Calls Tryz.prog 69 #[v] w fun e w'=>e=.returned (.pointer (some ⟨w.heap.size+2,0,none⟩))∧Hq xs bx w xs.length w':=by
 obtain ⟨Ad,cap,rfl,hlc,hm⟩:=af h;have hlm:=au (Nat.le_trans hlc hm);have hA:Below w.heap.size w (((w.alloc (.map #[] 0)).alloc (.map #[] 0)).alloc (.cells #[.slice none 0 0,.slice none 0 0,.map (some w.heap.size),.map (some (w.heap.size+1))] 87)):=(((Below.refl _ _).alloc (Nat.le_refl _) _).alloc (by simp) _).alloc (by simp; omega) _;have hm1:qj GI w.heap.size [] 0 (((w.alloc (.map #[] 0)).alloc (.map #[] 0)).alloc (.cells #[.slice none 0 0,.slice none 0 0,.map (some w.heap.size),.map (some (w.heap.size+1))] 87)):=(qj.made (S:=GI) w).same (by rw [Below.heap_alloc _ _ _ (by simp; omega),Below.heap_alloc _ _ _ (by simp)])
 have hm2:nK isStr (w.heap.size+1) [] (((w.alloc (.map #[] 0)).alloc (.map #[] 0)).alloc (.cells #[.slice none 0 0,.slice none 0 0,.map (some w.heap.size),.map (some (w.heap.size+1))] 87)):=by
  have h0:=nK.made (S:=isStr) (w.alloc (.map #[] 0));have e:(w.alloc (.map #[] 0)).heap.size=w.heap.size+1:=by simp
  rw [e] at h0;exact h0.same (by rw [Below.heap_alloc _ _ _ (by simp)])
 have hb0:(((w.alloc (.map #[] 0)).alloc (.map #[] 0)).alloc (.cells #[.slice none 0 0,.slice none 0 0,.map (some w.heap.size),.map (some (w.heap.size+1))] 87)).heap[w.heap.size+2]? = some (.cells #[.slice none 0 0,.slice none 0 0,.map (some w.heap.size),.map (some (w.heap.size+1))] 87 (0,0)):=by
  have:=heap_alloc_new ((w.alloc (.map #[] 0)).alloc (.map #[] 0)) (.cells #[.slice none 0 0,.slice none 0 0,.map (some w.heap.size),.map (some (w.heap.size+1))] 87);simpa using this
 have HI0:Hid (Hq xs bx w 0 (((w.alloc (.map #[] 0)).alloc (.map #[] 0)).alloc (.cells #[.slice none 0 0,.slice none 0 0,.map (some w.heap.size),.map (some (w.heap.size+1))] 87))):=η
  ⟨none,0,[],none,0,[],[],[],⟨hb0,rfl,rfl,cO.nil _,cO.nil _,⟨⟨[],0,hm1,⟨fun r hr=>by simp at hr,fun r hr=>by simp at hr,fun r hr=>by simp at hr⟩,fun k _=>by simp [idxs]⟩⟩,hm2,fun x hx=>by simp [Value.ownBlock] at hx,fun x hx=>by simp at hx,fun x hx=>by simp at hx,fun x hx=>by simp at hx,by omega,fun x hx=>by simp at hx,by simp⟩,hA,fun x hx=>by simp at hx⟩
 have HH:=η h;have HF:=η (And.intro hf hn);clear h hf hn hlc hm hA hm1 hm2 hb0;have hmm:=@run_makeMap Tryz.prog
 go_enter Tryz.func69,Tryz.ntmps69
 go_wp2;generalize (((w.alloc (.map #[] 0)).alloc (.map #[] 0)).alloc (.cells #[.slice none 0 0,.slice none 0 0,.map (some w.heap.size),.map (some (w.heap.size+1))] 87))=W at *
 go_loopw [12] (fun i wr=>∃ (k:Nat),k≤xs.length∧i=.int .i64 k∧Hq xs bx w k wr) (fun i _=>xs.length - (intOf i).toNat)
 case atStart=>exact ⟨0,Nat.zero_le _,rfl,HI0.out⟩
 case round=>
  obtain ⟨k,hk,rfl,hI⟩:=hrel;clear HI0;by_cases hlt:k < xs.length
  ·obtain ⟨Af,cf,Lf,Ar,cr,Lr,ou,bf,S,hbel,hbx⟩:=hI
   obtain ⟨bq,oq,Ae,ce,ba,rfl,_,f0,f1,hat,hsub⟩:=dG (ai.below HH.out hbel) hlt;have hk0:(0:Int)≤(k:Int):=by omega
   have hk1:(k:Int) < (xs.length:Int):=by omega
   have hA2:Below wr.heap.size wr (wr.alloc (.cells #[.string xs[k].name,.slice Ae xs[k].args.length ce] 68)):=(Below.refl _ _).alloc (Nat.le_refl _) _;have hfk:=HF.out.1 _ (List.getElem_mem hlt)
   have hnk:xs[k] ∉ xs.take k:=fun hm=>by
    obtain ⟨i,hi,e⟩:=List.getElem_of_mem hm;simp at hi e;exact List.pairwise_iff_getElem.1 HF.out.2 i k (by omega) hlt (by omega) e
   have hcall:=put_any (w.heap.size+3) (w.heap.size+2) w.heap.size (w.heap.size+1) Af cf Lf (xs.take k) bf Ar cr Lr (List.replicate k 0) (zf (xs.take k)) ou xs[k] (.slice Ae xs[k].args.length ce) ba ba 0 (wr.alloc (.cells #[.string xs[k].name,.slice Ae xs[k].args.length ce] 68)) (S.later hA2) (aj.below hat hA2) (fun x hx=>hx)
    (fun x hx=>(S.later hA2).low (by have:=ai.lt HH.out x (hsub x hx); omega)) (fun x hx=>Nat.lt_of_lt_of_le (aj.lt hat x hx) hA2.size) hfk.ok (KG (fun f hf=>HF.out.1 f (List.mem_of_mem_take hf)) hfk hnk) (by simp; omega) (by simp; omega) w.heap.size (by omega)
   have HB:=η (hbel.trans (hA2.mono hbel.size));have HLT:=η hlt;have HBX:Hid (∀ x ∈ bf ++ ba,x ∈ bx):=η fun x hx=>(List.mem_append.1 hx).elim (hbx x) (hsub x)
   have HTK:Hid (xs.take (k+1)=xs.take k ++ [xs[k]]):=η (List.take_succ_eq_append_getElem hlt);clear S hbel hbx hat hsub hA2 hfk hnk hk;generalize xs[k]=a at *;obtain ⟨an,aargs⟩:=a;dsimp only at *;clear hlt
   go_wp2_with fail
   refine hcall.mono ?_;rintro e w2 ⟨rfl,hb2,Af',cf',Lf',Ar',cr',Lr',ou',S',-⟩
   have HI2:Hid (Hq xs bx w (k+1) w2):=η ⟨Af',cf',Lf',Ar',cr',Lr',ou',_,by
    rw [HTK.out,List.replicate_succ',FK,List.length_append,List.length_append]; exact S',HB.out.trans hb2,HBX.out⟩
   clear hcall hb2 S';go_wp2;go_roundw
   case rel=>exact ⟨k+1,HLT.out,by go_num,HI2.out⟩
   case measure=>have:=HLT.out; simp [intOf]; omega
  ·have he:k=xs.length:=by omega
   have hk1:¬ (k:Int) < (xs.length:Int):=by omega
   have HD:Hid (Hq xs bx w xs.length wr):=η (he ▸ hI);clear hI;go_wp2;go_ret;exact ⟨rfl,HD.out⟩
theorem D.Hq.all {xs:List A} {bx:List Nat} {w0 w:World} (h:Hq xs bx w0 xs.length w):
  Below w0.heap.size w0 w∧∃ Af cf Lf Ar cr Lr ou bf,kZ (w0.heap.size+3) (w0.heap.size+2) w0.heap.size (w0.heap.size+1) Af xs.length cf Lf xs bf Ar (List.replicate xs.length 0).length cr Lr (List.replicate xs.length 0) (zf xs) (idxs xs) ou w∧∀ x ∈ bf,x ∈ bx:=by
 obtain ⟨Af,cf,Lf,Ar,cr,Lr,ou,bf,S,hbel,hbx⟩:=h;rw [List.take_length] at S;exact ⟨hbel,Af,cf,Lf,Ar,cr,Lr,ou,bf,S,hbx⟩
end Go.Proofs.YtiidmgchadagbaaGreatDoor
namespace Go.Proofs.YtiidmgchadagbaaGreatDoor
open Go.RowKit D
theorem D.TY {rs:List Ru} (h:fO rs=0) {r:Ru} (hr:r ∈ rs):kL r:=by
 unfold fO at h
 split at h
 ·cases h
 ·rename_i h1
  split at h
  ·cases h
  ·split at h
   ·cases h
   ·split at h
    ·cases h
    ·rename_i h4
     have g1:=List.all_eq_true.1 (by simpa using h1) r hr;have g4:=List.all_eq_true.1 (by simpa using h4) r hr;unfold fC oW at g1;simp only [Bool.and_eq_true,decide_eq_true_eq,List.all_eq_true] at g1;obtain ⟨t1,t2⟩:=(EH _ _).1 g4;refine ⟨g1.2,g1.1.2,g1.1.1,fun x hx=>?_⟩
     have hb:iU r.body x=true:=by
      rcases hx with hx | ⟨p,hp,hx⟩
      ·exact t1 x hx
      ·unfold sO at t2
       have:=List.all_eq_true.1 (by simpa using t2) p hp;exact (qO _ _).1 this x hx
     have:=(og _ _).1 hb;rw [iq] at this
     rcases this with h | ⟨p,hp,hv⟩
     ·simp at h
     ·obtain ⟨q1,q2⟩:=List.mem_filter.1 hp
      exact ⟨p,q1,by simpa using q2,hv⟩
theorem D.FN {a:A} (h:dM a=true):aX a:=by
 unfold dM kC at h;simp only [Bool.and_eq_true,Bool.not_eq_true',List.any_eq_false] at h;exact ⟨h.1,fun t ht=>by simpa using h.2 t ht⟩
theorem D.FO {a:A} (h:aX a):dM a=true:=by
 unfold dM kC;simp only [Bool.and_eq_true,Bool.not_eq_true',List.any_eq_false];exact ⟨h.ok,fun t ht=>by simpa using h.gr t ht⟩
theorem D.Vq {xs:List A} (hx:∀ x ∈ xs,aX x) (r:Ru) (t:A):Xb xs r t ↔ lg xs r t:=by
 have hg:∀ x ∈ xs,Gr x:=fun x h=>(hx x h).gr
 constructor
 ·rintro ⟨σ,rfl,h⟩
  refine ⟨σ,rfl,fun p hp hn=>?_,fun p hp hn hm=>?_⟩
  ·exact (qX hg (qW _ _)).1 (by rw [h p hp,hn]; rfl)
  ·have:=(qX hg (qW σ p.atom)).2 hm
   rw [h p hp,hn] at this;cases this
 ·rintro ⟨σ,rfl,h1,h2⟩
  refine ⟨σ,rfl,fun p hp=>?_⟩;cases hn:p.no
  ·exact (qX hg (qW _ _)).2 (h1 p hp hn)
  ·cases hb:hasB xs (gY σ p.atom)
   ·rfl
   ·exact absurd ((qX hg (qW _ _)).1 hb) (h2 p hp hn)
theorem D.Ua {xs:List A} (hx:∀ x ∈ xs,aX x) {r:Ru} (R:kL r) {t:A} (h:lg xs r t):aX t:=by
 obtain ⟨σ,rfl,h1,_⟩:=h;refine ⟨?_,qW _ _⟩;have h0:=R.hok;unfold aZ at h0 ⊢;unfold gY;simp only [Bool.and_eq_true,decide_eq_true_eq,List.all_eq_true,List.length_map] at h0 ⊢;refine ⟨h0.1,fun u hu=>?_⟩;obtain ⟨v,hv,rfl⟩:=List.mem_map.1 hu;have g:=h0.2 v hv;unfold jd at *;unfold xJ;cases hvv:v.var
 ·simpa [hvv] using g
 ·obtain ⟨p,hp,hn,y,hy,hyv,hyn⟩:=R.tight v.name (.inl ⟨v,hv,hvv,rfl⟩)
  have hm:=(hx _ (h1 p hp hn)).names (xJ σ y) (List.mem_map.2 ⟨y,hy,rfl⟩);unfold xJ at hm;rw [hyv,hyn] at hm;simpa using hm.2
theorem D.yD {xs:List A} (hx:∀ x ∈ xs,aX x) {a:A} (ha:aX a) (x:A):x ∈ fA xs a ↔ x ∈ xs∨x=a:=by
 constructor
 ·exact Gg
 ·intro h
  have hi:∀ y ∈ fA xs a,Gr y:=fun y hy=>(Gg hy).elim (fun h=>(hx y h).gr) fun h=>h ▸ ha.gr
  have hgx:Gr x:=h.elim (fun h=>(hx x h).gr) fun h=>h ▸ ha.gr
  refine (qX hi hgx).1 ?_;rw [Iw]
  rcases h with h | rfl
  ·rw [mF h]; rfl
  ·rw [uH]; simp
theorem D.KI {β:Type} (f:β→A):∀ (l:List β) (out:List A),ig out=true→(∀ x ∈ out,aX x)→(∀ b ∈ l,aX (f b))→
  ig (l.foldl (fun o b=>fA o (f b)) out)=true∧(∀ x ∈ l.foldl (fun o b=>fA o (f b)) out,aX x)∧∀ x,x ∈ l.foldl (fun o b=>fA o (f b)) out ↔ x ∈ out∨∃ b ∈ l,f b=x
 | [],out,h1,h2,_=>⟨h1,h2,fun x=>by simp⟩
 | b :: l,out,h1,h2,h3=>by
  have hb:=h3 b (List.mem_cons_self ..);obtain ⟨g1,g2,g3⟩:=KI f l (fA out (f b)) (AL h1 _) (fun x hx=>((yD h2 hb x).1 hx).elim (h2 x) fun e=>e ▸ hb) fun c hc=>h3 c (List.mem_cons_of_mem _ hc)
  refine ⟨g1,g2,fun x=>?_⟩;rw [List.foldl_cons,g3,yD h2 hb];constructor
  ·rintro ((h | h) | ⟨c,hc,h⟩)
   ·exact .inl h
   ·exact .inr ⟨b,List.mem_cons_self ..,h.symm⟩
   ·exact .inr ⟨c,List.mem_cons_of_mem _ hc,h⟩
  ·rintro (h | ⟨c,hc,h⟩)
   ·exact .inl (.inl h)
   ·rcases List.mem_cons.1 hc with rfl | hc
    ·exact .inl (.inr h.symm)
    ·exact .inr ⟨c,hc,h⟩
theorem D.Qv {xs:List A} {level:Nat} (hx:∀ x ∈ xs,aX x) {rl:List (Ru × Nat)} (hr:∀ p ∈ rl,kL p.1):ig (ja xs level rl)=true∧(∀ t ∈ ja xs level rl,aX t)∧∀ t,t ∈ ja xs level rl ↔ ∃ p ∈ rl,p.2=level∧lg xs p.1 t:=by
 have hg:∀ x ∈ xs,Gr x:=fun x h=>(hx x h).gr
 have main:∀ (l:List (Ru × Nat)) (out:List A),(∀ p ∈ l,kL p.1)→ig out=true→(∀ x ∈ out,aX x)→
   ig (l.foldl (fun out p=>if p.2=level then Ec xs p.1 out else out) out)=true∧(∀ t ∈ l.foldl (fun out p=>if p.2=level then Ec xs p.1 out else out) out,aX t)∧
   ∀ t,t ∈ l.foldl (fun out p=>if p.2=level then Ec xs p.1 out else out) out ↔ t ∈ out∨∃ p ∈ l,p.2=level∧lg xs p.1 t:=by
  intro l
  induction l with
  | nil=>intro out _ h1 h2; exact ⟨h1,h2,fun t=>by simp⟩
  | cons q l ih=>
   intro out hl h1 h2;have R:=hl q (List.mem_cons_self ..);have hq:=fun p hp=>hl p (List.mem_cons_of_mem _ hp)
   by_cases hv:q.2=level
   ·have hmem:∀ t,(∃ b ∈ allB xs q.1.body,bY q.1.head b=t) ↔ lg xs q.1 t:=fun t=>(SH hg R.tight t).trans (Vq hx q.1 t)
    obtain ⟨g1,g2,g3⟩:=KI (fun b=>bY q.1.head b) (allB xs q.1.body) out h1 h2 fun b hb=>Ua hx R ((hmem _).1 ⟨b,hb,rfl⟩)
    rw [List.foldl_cons,if_pos hv];obtain ⟨k1,k2,k3⟩:=ih (Ec xs q.1 out) hq g1 g2;refine ⟨k1,k2,fun t=>?_⟩;rw [k3]
    have hp:t ∈ Ec xs q.1 out ↔ t ∈ out∨lg xs q.1 t:=by
     unfold Ec;rw [g3,hmem]
    rw [hp];constructor
    ·rintro ((h | h) | ⟨p,hp,h⟩)
     ·exact .inl h
     ·exact .inr ⟨q,List.mem_cons_self ..,hv,h⟩
     ·exact .inr ⟨p,List.mem_cons_of_mem _ hp,h⟩
    ·rintro (h | ⟨p,hp,hpv,h⟩)
     ·exact .inl (.inl h)
     ·rcases List.mem_cons.1 hp with rfl | hp
      ·exact .inl (.inr h)
      ·exact .inr ⟨p,hp,hpv,h⟩
   ·rw [List.foldl_cons,if_neg hv]
    obtain ⟨k1,k2,k3⟩:=ih out hq h1 h2;refine ⟨k1,k2,fun t=>?_⟩;rw [k3];constructor
    ·rintro (h | ⟨p,hp,h⟩)
     ·exact .inl h
     ·exact .inr ⟨p,List.mem_cons_of_mem _ hp,h⟩
    ·rintro (h | ⟨p,hp,hpv,h⟩)
     ·exact .inl h
     ·rcases List.mem_cons.1 hp with rfl | hp
      ·exact absurd hpv hv
      ·exact .inr ⟨p,hp,hpv,h⟩
 obtain ⟨k1,k2,k3⟩:=main rl [] hr rfl (fun x h=>by simp at h)
 exact ⟨k1,k2,fun t=>by
  have:=k3 t;simp only [List.not_mem_nil,false_or] at this
  exact this⟩
theorem D.kX {xs:List A} (h:ig xs=true):xs.Nodup:=by
 refine List.pairwise_iff_getElem.2 fun i j hi hj hij e=>?_
 have:=F7 h hj hij;rw [e,uH] at this;omega
theorem D.Ub {xs ys:List A} (h1:ig xs=true) (h2:ig ys=true) (f1:∀ x ∈ xs,aX x) (f2:∀ x ∈ ys,aX x) (h:∀ t,t ∈ xs ↔ t ∈ ys):xs=ys:=by
 refine Gf h1 h2 (fun x hx=>FO (f1 x hx)) (fun x hx=>FO (f2 x hx)) fun a=>?_
 rw [Bool.eq_iff_iff,qc,qc];constructor
 ·rintro ⟨x,hx,hc⟩; exact ⟨x,(h x).1 hx,hc⟩
 ·rintro ⟨x,hx,hc⟩; exact ⟨x,(h x).2 hx,hc⟩
end Go.Proofs.YtiidmgchadagbaaGreatDoor
