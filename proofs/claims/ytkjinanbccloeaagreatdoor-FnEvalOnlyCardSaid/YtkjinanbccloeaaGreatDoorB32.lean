/- Of the proof of FnEvalOnly: Fit, DrawGv, FlwP. -/
import Derived.Test.YtkjinanbccloeaaGreatDoorB31
import Derived.Test.YtkjinanbccloeaaGreatDoorB28
set_option linter.unusedVariables false
set_option maxHeartbeats 2000000
set_option maxRecDepth 100000
namespace Go.Proofs.YtkjinanbccloeaaGreatDoor
section
open Go.RowKit D
attribute [local go_sem ↓] Go.wp_at_zero Go.wp_at_succ
theorem D.VO {y:List A} (h:jH y=true) (x:A):J3 y x=(!decide (x.name ∈ (dG y).1) || decide ((dG y).2.1 x.name=x.args.length)):=by
 obtain ⟨i1,_,i2,_⟩:=vY y;rw [Bool.eq_iff_iff];unfold J3;simp only [List.all_eq_true,Bool.or_eq_true,Bool.not_eq_true',decide_eq_false_iff_not,decide_eq_true_eq];constructor
 ·intro hc
  by_cases hm:x.name ∈ (dG y).1
  ·obtain ⟨a,ha,e⟩:=(i1 _).1 hm
   have h1:=hc a ha;have I:=Jv h ha;rw [e] at I;unfold clash at h1;rw [decide_eq_true e,Bool.true_and,decide_eq_false_iff_not,Classical.not_not] at h1;exact .inr (by rw [I,h1])
  ·exact .inl hm
 ·intro hc a ha
  unfold clash;by_cases e:a.name=x.name
  ·have hm:x.name ∈ (dG y).1:=(i1 _).2 ⟨a,ha,e⟩
   have h1:=hc.resolve_left fun h=>h hm
   have I:=Jv h ha;rw [e,h1] at I;have:a.args.length=x.args.length:=by exact_mod_cast I.symm
   simp [this]
  ·simp [e]
theorem Ia (a:A) (c0 c1:Value) (bs:List Nat) (w:World) (B n:Nat) (L:List ByteArray) (f:ByteArray→Int) (h:aG w [c0,c1] a bs) (hM:gI B n L f w) (hf:∀ s ∈ L,0≤f s∧f s≤1000000):
  Calls Tryz.prog 70 #[.map (some B),.agg #[c0,c1]] w fun e w'=>e=.returned (.bool (!decide (a.name ∈ L) || decide (f a.name=a.args.length)))∧Below w.heap.size w w':=by
 obtain ⟨s,U,a0,ht⟩:=h;simp only [List.cons.injEq,and_true] at U;obtain ⟨rfl,rfl⟩:=U;obtain ⟨Ad,cap,rfl,hl,hm⟩:=ak ht;have a1:=aA (τ hl hm);obtain ⟨nm,args⟩:=a;dsimp only at *;have hA:Below w.heap.size w (w.alloc (.cells #[.string nm,.slice Ad args.length cap] 33)):=ζ;have HM:=η (hM.below hA hM.lt);have y:=η a0;clear hl hm ht hM a0;by_cases I:nm ∈ L
 ·have J:Hid (decide (nm ∈ L)=true):=η (decide_eq_true I)
  have hr:=hf nm I;obtain ⟨v,hv⟩:∃ v,f nm=v:=⟨_,rfl⟩;have HV:Hid ((if nm ∈ L then f nm else 0)=v):=η ((if_pos I).trans hv);rw [hv] at hr ⊢;clear hv hf I;by_cases he:v=args.length
  ·have HZ:Hid ((!decide (nm ∈ L) || decide (v=(args.length:Int)))=true):=η (by rw [J.out,decide_eq_true he]; rfl)
   subst he
   go_enter Tryz.func70,Tryz.ntmps70
   go_wp2_with (first | (at_lookup; refine dB _ rfl _ _ _ rfl Tryz.underlying116 _ _ _ _ rfl HM.out nm rfl y.out true J.out _ HV.out ?_) | go_in)
   go_ret;exact ⟨rfl,hA⟩
  ·have HZ:Hid ((!decide (nm ∈ L) || decide (v=(args.length:Int)))=false):=η (by rw [J.out,decide_eq_false he]; rfl)
   go_enter Tryz.func70,Tryz.ntmps70
   go_wp2_with (first | (at_lookup; refine dB _ rfl _ _ _ rfl Tryz.underlying116 _ _ _ _ rfl HM.out nm rfl y.out true J.out _ HV.out ?_) | go_in)
   go_ret;exact ⟨aJ (by rw [HZ.out]; first | rfl | exact beq_eq_false_iff_ne.2 he),hA⟩
 ·have J:Hid (decide (nm ∈ L)=false):=η (decide_eq_false I)
  have HV:Hid ((if nm ∈ L then f nm else 0)=0):=η (if_neg I);have HZ:Hid ((!decide (nm ∈ L) || decide (f nm=(args.length:Int)))=true):=η (by rw [J.out]; rfl);clear hf I
  go_enter Tryz.func70,Tryz.ntmps70
  go_wp2_with (first | (at_lookup; refine dB _ rfl _ _ _ rfl Tryz.underlying116 _ _ _ _ rfl HM.out nm rfl y.out false J.out _ HV.out ?_) | go_in)
  go_ret;exact ⟨aJ (by rw [HZ.out]),hA⟩
theorem tX (rs:List Ru) (xs:List A) (v1 v2:Value) (b1 b2:List Nat) (w:World) (h:dS w [v1] rs b1) (h2:aU w [v2] xs b2) (hg:oV w):
  Calls Tryz.prog 19 #[v1,v2] w fun e w'=>e=.returned (.bool (eF rs xs))∧Below w.heap.size w w':=by
 have c1:=Hz rs v1 b1 w h hg;have C2:=η fun w' (hb:Below w.heap.size w w')=>Hy xs v2 b2 w' (au.below h2 hb)
 have C3:=η fun w' (hb:Below w.heap.size w w') (hok:rs.all dN=true) (hf:rs.length≤8)=>Dj rs v1 b1 w' (bJ.below h hb) hok hf
 obtain ⟨ag,cap2,rfl,a2,a3⟩:=ak h2;have am:=aA (τ a2 a3);clear h hg a2 a3;by_cases hp:dV rs=0
 ·have a4:=(lN rs).1 hp
  have HF:=η a4;have HZ:Hid (eF rs xs=(jy xs && mP (aF rs) xs)):=η (by unfold eF; rw [decide_eq_true hp,Bool.true_and]);rw [decide_eq_true hp] at c1;clear hp a4
  go_enter Tryz.func19,Tryz.ntmps19
  go_wp2_with fail
  refine c1.mono ?_;rintro e w1 ⟨rfl,I⟩;clear c1
  go_wp2_with fail
  refine (C2.out _ I).mono ?_;rintro e w2 ⟨rfl,a5⟩;have B2:=I.trans (a5.mono I.size);clear C2 I a5;cases hx:jy xs
  ·have a1:Hid (eF rs xs=false):=η (by rw [HZ.out,hx]; rfl)
   clear HZ hx C3;go_wp2;go_ret;exact ⟨aJ a1.out.symm,B2⟩
  ·have a1:Hid (eF rs xs=mP (aF rs) xs):=η (by rw [HZ.out,hx,Bool.true_and])
   clear HZ hx
   go_wp2_with fail
   refine (C3.out _ B2 HF.out.ok HF.out.few).mono ?_;rintro e w3 ⟨rfl,n,hM,a6⟩;have B3:=B2.trans (a6.mono B2.size);have HM:=η hM;have aa:=η (zh HF.out.ok HF.out.few (xs:=aF rs) fun a h=>h);have ab:=η (VO HF.out.alike);have af:w2.heap.size < w3.heap.size:=hM.lt;clear hM C3 a6;generalize aF rs=az at *;go_wp2
   go_loopw [24] (fun i wr=>∃ k:Nat,k≤xs.length∧i=.int .i64 k∧mP az (xs.take k)=true∧gI w2.heap.size n (dG az).1 (dG az).2.1 wr∧Below w.heap.size w wr) (fun i _=>xs.length - (intOf i).toNat)
   case atStart=>exact ⟨0,ε,rfl,rfl,HM.out,B3⟩
   case round=>
    clear HM;obtain ⟨k,hk,rfl,y,hM,hb⟩:=hrel;by_cases J:k < xs.length
    ·obtain ⟨b,o,Ae,ce,bk,rfl,_,d0,d1,a7,_⟩:=dJ (au.below h2 hb) J
     have ao:(0:Int)≤(k:Int):=by omega
     have ac:(k:Int) < (xs.length:Int):=by omega
     have hA:Below wr.heap.size wr (wr.alloc (.cells #[.string xs[k].name,.slice Ae xs[k].args.length ce] 33)):=ζ;have c4:=Ia xs[k] _ _ bk _ _ n _ _ (aj.below a7 hA) (hM.below hA hM.lt) aa.out;rw [← ab.out xs[k]] at c4;have HS:=η (J4 az xs k J y);have U:=η (Oy az xs k J);have HM:=η (hM.below hA hM.lt);have HB:=η (hb.trans (hA.mono hb.size));clear h2 a7 hA y hM hb;have a8:=η J;generalize xs[k]=x at *;clear J;obtain ⟨xn,xa⟩:=x;dsimp only at *
     go_wp2_with fail
     refine c4.mono ?_;rintro e w5 ⟨rfl,a9⟩;have B5:=HB.out.trans (a9.mono HB.out.size);have ae:=η (HM.out.below a9 HM.out.lt);clear c4 HM HB;cases hf:J3 az ⟨xn,xa⟩
     ·have a0:Hid (eF rs xs=false):=η (by rw [a1.out]; exact U.out hf)
      clear hf HS U;go_wp2;go_ret;exact ⟨aJ a0.out.symm,B5⟩
     ·have a0:=η (HS.out.trans hf)
      clear hf HS U;go_wp2;go_roundw
      case rel=>exact ⟨k+1,a8.out,by go_num,a0.out,ae.out,B5⟩
      case measure=>have:=a8.out; simp [intOf]; omega
    ·have he:k=xs.length:=by omega
     have ac:¬ (k:Int) < (xs.length:Int):=by omega
     have a0:Hid (eF rs xs=true):=η (by rw [a1.out]; rw [he,ϕ ν] at y; exact y);clear he y hM h2;go_wp2;go_ret;exact ⟨aJ a0.out.symm,hb⟩
 ·have HZ:Hid (eF rs xs=false):=η (by unfold eF; rw [decide_eq_false hp]; rfl)
  rw [decide_eq_false hp] at c1;clear hp C2 C3 h2
  go_enter Tryz.func19,Tryz.ntmps19
  go_wp2_with fail
  refine c1.mono ?_;rintro e w1 ⟨rfl,I⟩;go_wp2;go_ret;exact ⟨aJ HZ.out.symm,I⟩
def VP (g p q:Nat) (w:World) (e:Ending) (w':World):Prop:=
 ∃ (rs:List Ru) (y:Option Addr) (c0:Nat) (b0:List Nat) (xs:List A) (I:Option Addr) (c1:Nat) (J:List Nat) (U:Nat),e=.returned (.tuple #[.slice y rs.length c0,.slice I xs.length c1])∧dS w' [.slice y rs.length c0] rs b0∧aU w' [.slice I xs.length c1] xs J∧
  (∀ b ∈ b0,w.heap.size≤b)∧(∀ b ∈ J,w.heap.size≤b)∧rs.length≤9∧(∀ r ∈ rs,QZ r)∧xs.length≤50∧(∀ a ∈ xs,a.args.length≤4)∧kH g U w'∧U≤p+q∧aH [g] w w'
theorem D.OB {g p p1 p2 q1 q2:Nat} {w w1 w2 U:World} {rs:List Ru} {v:Value} {xs:List A} {v2:Value} {b1:List Nat} (hk:aH [g] w w1) (hg:g < w.heap.size) (h1:rs.length≤9) (h2:p1≤p+q1) (hI:fJ g p1 w1 rs v w2) (hR:kH g p2 U) (hK:aH [g] w2 U) (h3:p2≤p1+q2)
  (I:aU U [v2] xs b1) (J:∀ b ∈ b1,w2.heap.size≤b) (hx:xs.length≤50) (hs:∀ a ∈ xs,a.args.length≤4):VP g p (q1+q2) w (.returned (.tuple #[v,v2])) U:=by
 have y:=hI.call hR hK;obtain ⟨A0,c0,rfl⟩:=y.shape;obtain ⟨b0,hr,a0⟩:=y.rules;obtain ⟨A1,c1,rfl,_,_⟩:=ak I;exact ⟨rs,A0,c0,b0,xs,A1,c1,b1,p2,rfl,hr,I,fun b hb=>τ hk.size (a0 b hb),fun b hb=>τ (τ hk.size hI.kept.size) (J b hb),h1,hI.small,hx,hs,hR,by omega,hk.trans y.kept⟩
theorem Ib (g p:Nat) (w:World) (h:kH g p w) (hp:p≤200000):
  Calls Tryz.prog 52 #[.pointer (some ⟨g,0,none⟩)] w (VP g p 400 w):=by
 have a4:=pick_any g p 6 w h (by omega) (by omega) (by omega);have HL:=η h.lt;have HP:=η hp;clear h hp
 go_enter Tryz.func52,Tryz.ntmps52
 go_wp2_with fail
 refine a4.mono ?_;rintro e w1 ⟨k,rfl,a8,J,a5⟩;have a9:Hid (aH [g] w w1):=η (aH.dM a5);obtain ⟨p1,a6⟩:∃ p1,p1=p+1:=⟨_,rfl⟩;have a1:Hid (p1≤p+1):=η (by omega);rw [← a6] at J;by_cases hk:k=0
 ·have hd:=zN g p1 w1 J (by have:=HP.out; omega)
  subst hk;clear a4 J a5 a6 a8
  go_wp2_with fail
  refine hd.mono ?_;rintro e w2 ⟨rs,v,p2,rfl,hx,hq,hI⟩;have U:=zM g p2 w2 hI.rdr (by have:=HP.out; have:=a1.out; omega);have HI:=η (ι hI (ι hx hq));obtain ⟨A0,c0,rfl⟩:=hI.shape;clear hd hx hq hI
  go_wp2_with fail
  refine U.mono ?_;rintro e w3 ⟨xs,v2,b1,p3,rfl,⟨I,y⟩,a2,a0,aa,a7,ab⟩;have HZ:Hid (VP g p 400 w (.returned (.tuple #[.slice A0 rs.length c0,v2])) w3):=η (OB (q1:=160) (q2:=240) a9.out HL.out HI.out.2.1 (by have:=HI.out.2.2; have:=a1.out; omega) HI.out.1 aa ab (by omega) I y a2 a0);obtain ⟨A1,c1,rfl,_,_⟩:=ak I;clear U I y a2 a0 aa a7 ab;go_wp2;go_ret2;exact HZ.out
 ·have ac:¬ ((k:Int)=0):=by omega
  have hd:=xk g p1 w1 J (by have:=HP.out; omega);clear a4 J a5 a6 a8 hk
  go_wp2_with fail
  refine hd.mono ?_;rintro e w2 ⟨rs,v,p2,rfl,hx,hq,hI⟩;have U:=wW g p2 10 w2 hI.rdr (by have:=HP.out; have:=a1.out; omega) (by omega) (by omega);have HI:=η (ι hI (ι hx hq));obtain ⟨A0,c0,rfl⟩:=hI.shape;clear hd hx hq hI
  go_wp2_with fail
  refine U.mono ?_;rintro e w3 ⟨xs,v2,p3,rfl,_,a2,a0,a7,a3⟩;obtain ⟨b1,I,y⟩:=a3.atoms;have HZ:Hid (VP g p 400 w (.returned (.tuple #[.slice A0 rs.length c0,v2])) w3):=η (OB (q1:=160) (q2:=240) a9.out HL.out (τ HI.out.2.1 (by omega)) (by have:=HI.out.2.2; have:=a1.out; omega) HI.out.1 a3.rdr a3.kept (by omega) I y (by omega) (fun a ha=>τ (a0 a ha) (by omega)));obtain ⟨A1,c1,rfl,_,_⟩:=ak I;clear U I y a2 a0 a7 a3;go_wp2;go_ret2;exact HZ.out
end
section
open Go.RowKit D
def D.tH (fs ps y:List A) (b:Bd) (left:Nat) (σ:Wo):Prop:=QY b σ∧(∀ j (h:j < ps.length),left.testBit j=true→fH σ ps[j] ∈ fs)∧∀ n ∈ y,fH σ n ∉ fs
def D.rO (b:Bd):Prop:=∀ p ∈ b,gZ p.2=true
theorem D.rP {s:ByteArray} (h:gZ s=true):s ≠ ⟨#[]⟩:=by
 rintro rfl;revert h
 decide
theorem D.qm:∀ (y fs:List T) (b:Bd),∃ c,(bY y fs b).1=b ++ c
 | [],fs,b=>by cases fs <;> exact ⟨[],by simp [bY]⟩
 | t :: y,[],b=>⟨[],by simp [bY]⟩
 | t :: y,f :: fs,b=>by
  rw [bY]
  split
  ·split
   ·split
    ·exact qm y fs b
    ·exact ⟨[],by simp⟩
   ·obtain ⟨c,hc⟩:=qm y fs (b ++ [(t.name,f.name)])
    exact ⟨(t.name,f.name) :: c,by rw [hc]; simp⟩
  ·split
   ·exact qm y fs b
   ·exact ⟨[],by simp⟩
theorem D.uX (a f:A) (b:Bd):(aC a f b).1.take b.length=b:=by
 unfold aC
 split
 ·obtain ⟨c,hc⟩:=qm a.args f.args b
  rw [hc]; simp
 ·simp
theorem D.tY (a f:A) (b:Bd):b.length≤(aC a f b).1.length:=by
 have:=congrArg List.length (uX a f b);simp at this;omega
theorem D.qo:∀ (I fs:List T) (b:Bd),rO b→(∀ f ∈ fs,gZ f.name=true)→rO (bY I fs b).1
 | [],fs,b,h,_=>by cases fs <;> simpa [bY] using h
 | t :: I,[],b,h,_=>by simpa [bY] using h
 | t :: I,f :: fs,b,h,hf=>by
  have y:∀ g ∈ fs,gZ g.name=true:=fun g U=>hf g (Δ _ U)
  rw [bY]
  split
  ·split
   ·split
    ·exact qo I fs b h y
    ·exact h
   ·refine qo I fs _ (fun p J=>?_) y
    rcases μ.1 J with J | J
    ·exact h p J
    ·rw [List.mem_singleton.1 J]; exact hf f Γ
  ·split
   ·exact qo I fs b h y
   ·exact h
theorem D.DL {a f:A} {b:Bd} (h:rO b) (hf:∀ t ∈ f.args,gZ t.name=true):rO (aC a f b).1:=by
 unfold aC
 split
 ·exact qo _ _ _ h hf
 ·exact h
structure D.aI (f:A):Prop where
 ok:aX f=true
 gr:Gr f
theorem D.aI.names {f:A} (h:aI f):∀ t ∈ f.args,t.var=false∧gZ t.name=true:=fun t y=>by
 have h0:=h.ok;unfold aX at h0;simp only [ο,decide_eq_true_eq,List.all_eq_true] at h0;have h1:=h0.2 t y;have I:=h.gr t y;unfold iM at h1;rw [I] at h1;exact ⟨I,by simpa using h1⟩
theorem D.sS {a:A} (ha:aX a=true) {b:Bd} (J:rO b) (hc:wF b a.args):aI (bQ a b):=by
 have h0:=ha;unfold aX at h0;simp only [ο,decide_eq_true_eq,List.all_eq_true] at h0;refine ⟨?_,pY (iU b) a⟩;unfold aX bQ;simp only [ο,decide_eq_true_eq,List.all_eq_true,List.length_map];refine ⟨h0.1,fun t U=>?_⟩;obtain ⟨u,y,rfl⟩:=List.mem_map.1 U;have h1:=h0.2 u y;unfold iM at *;unfold dA;cases hv:u.var
 ·simpa [hv] using h1
 ·obtain ⟨v,I⟩:=Option.isSome_iff_exists.1 (hc u y hv)
  simp only [if_true,iU,I,Option.getD_some];exact J _ (wP I)
theorem D.xu {fs:List A} (hf:∀ f ∈ fs,aI f) {a:A} (ha:aI a):decide (bU a ∈ fs.map bU)=true ↔ a ∈ fs:=by
 rw [decide_eq_true_eq,List.mem_map];constructor
 ·rintro ⟨f,h1,y⟩
  rw [← sN (hf f h1).ok ha.ok y]; exact h1
 ·exact fun h=>⟨a,h,rfl⟩
theorem D.Ic {vars:List ByteArray} (hv:jr vars) {b:Bd} (hb:jq vars b) {ts:List T} (hin:∀ t ∈ ts,t.var=true→t.name ∈ vars):
  wF b ts ↔ ∀ i,i < 12→fD vars ts i=true→Iq vars b i ≠ ⟨#[]⟩:=by
 constructor
 ·intro hc i _ hw
  unfold fD at hw;obtain ⟨t,y,h2⟩:=List.any_eq_true.1 hw;simp only [ο,beq_iff_eq] at h2;obtain ⟨h3,rfl⟩:=h2;have I:=List.idxOf_lt_length_of_mem (hin t y h3);obtain ⟨v,U⟩:=Option.isSome_iff_exists.1 (hc t y h3);unfold Iq;rw [dif_pos I];have e:vars[vars.idxOf t.name]=t.name:=List.getElem_idxOf I;rw [e];intro e2;rw [(hb.oU _).1 e2] at U;cases U
 ·intro h t y J
  have hm:=hin t y J;have I:=List.idxOf_lt_length_of_mem hm;have a0:=hv.few;have h1:=h (vars.idxOf t.name) (by omega) (List.any_eq_true.2 ⟨t,y,by simp [J]⟩);unfold Iq at h1;rw [dif_pos I] at h1;have e:vars[vars.idxOf t.name]=t.name:=List.getElem_idxOf I;rw [e] at h1
  cases U:eY b t.name with
  | some v=>rfl
  | none=>exact absurd ((hb.oU _).2 U) h1
def D.KL (vars:List ByteArray) (head:A) (y:List A) (i:Nat):Bool:=fD vars head.args i || y.any fun n=>fD vars n.args i
theorem D.rQ {vars:List ByteArray} (hv:jr vars) {b:Bd} (hb:jq vars b) {head:A} {ns:List A} {wt:Nat→Bool} (J:∀ i,i < 12→wt i=KL vars head ns i) (hh:∀ t ∈ head.args,t.var=true→t.name ∈ vars) (hn:∀ n ∈ ns,∀ t ∈ n.args,t.var=true→t.name ∈ vars):
  setB vars b wt=true ↔ wF b head.args∧∀ n ∈ ns,wF b n.args:=by
 rw [Dw,Ic hv hb hh];constructor
 ·intro h
  refine ⟨fun i I U=>h i I (by rw [J i I]; unfold KL; rw [U]; rfl),fun n y=>(Ic hv hb (hn n y)).2 fun i I U=>h i I (by rw [J i I]; unfold KL; rw [List.any_eq_true.2 ⟨n,y,U⟩]; simp)⟩
 ·rintro ⟨h1,h2⟩ i I U
  rw [J i I] at U;unfold KL at U
  rcases Bool.or_eq_true_iff.1 U with h | h
  ·exact h1 i I h
  ·obtain ⟨n,y,h3⟩:=List.any_eq_true.1 h
   exact (Ic hv hb (hn n y)).1 (h2 n y) i I h3
theorem D.F7 (l i:Nat) (y:l < 16) (I:i < 4) (h:l.testBit i=true):bits .andNot .i64 (l:Int) (wrap64 (2 ^ i))=((l - 2 ^ i:Nat):Int):=by
 have H:∀ l:Nat,l < 16→∀ i:Nat,i < 4→l.testBit i=true→bits .andNot .i64 (l:Int) (wrap64 (2 ^ i))=((l - 2 ^ i:Nat):Int):=by decide +kernel
 exact H l y i I h
theorem D.xw (l i j:Nat) (y:l < 16) (I:i < 4) (J:j < 4) (h:l.testBit i=true):(l - 2 ^ i).testBit j=(l.testBit j && decide (j ≠ i)):=by
 have H:∀ l:Nat,l < 16→∀ i:Nat,i < 4→∀ j:Nat,j < 4→l.testBit i=true→(l - 2 ^ i).testBit j=(l.testBit j && decide (j ≠ i)):=by decide +kernel
 exact H l y i I j J h
theorem D.OC (l i:Nat) (y:l < 16) (I:i < 4) (h:l.testBit i=true):l - 2 ^ i < l:=by
 have H:∀ l:Nat,l < 16→∀ i:Nat,i < 4→l.testBit i=true→l - 2 ^ i < l:=by decide +kernel
 exact H l y i I h
theorem D.Ub (l n:Nat) (y:l < 2 ^ n) (I:n≤4) (h:l ≠ 0):∃ j,j < n∧l.testBit j=true:=by
 have H:∀ n:Nat,n < 5→∀ l:Nat,l < 2 ^ n→l ≠ 0→∃ j,j < n∧l.testBit j=true:=by decide +kernel
 exact H n (by omega) l y h
theorem D.tH.step {fs ps I:List A} {b:Bd} {left m:Nat} {σ:Wo} {f:A} (U:left < 16) (a0:ps.length≤4) (hm:m < ps.length) (y:left.testBit m=true) (h:tH fs ps I b left σ) (he:fH σ ps[m]=f):
  (aC ps[m] f b).2=true∧tH fs ps I (aC ps[m] f b).1 (left - 2 ^ m) σ:=by
 obtain ⟨h1,h2,h3⟩:=h;obtain ⟨g1,g2⟩:=mO h1 he;refine ⟨g1,g2,fun j hj J=>h2 j hj ?_,h3⟩;rw [xw left m j U (by omega) (by omega) y] at J;exact (Bool.and_eq_true_iff.1 J).1
theorem D.tH.back {fs ps U:List A} {b:Bd} {left m:Nat} {σ:Wo} {f:A} (hl:left < 16) (a0:ps.length≤4) (hm:m < ps.length) (y:left.testBit m=true) (hf:f ∈ fs) (I:Gr f) (J:(aC ps[m] f b).2=true) (h:tH fs ps U (aC ps[m] f b).1 (left - 2 ^ m) σ):
  tH fs ps U b left σ:=by
 obtain ⟨h1,h2,h3⟩:=h;obtain ⟨g1,g2⟩:=lS I J;refine ⟨h1.of_le (mZ _ _ _),fun j hj hb=>?_,h3⟩;by_cases e:j=m
 ·subst e
  rw [← jO g1 h1,g2]; exact hf
 ·refine h2 j hj ?_
  rw [xw left m j hl (by omega) (by omega) y,hb];simpa using e
end
end Go.Proofs.YtkjinanbccloeaaGreatDoor
