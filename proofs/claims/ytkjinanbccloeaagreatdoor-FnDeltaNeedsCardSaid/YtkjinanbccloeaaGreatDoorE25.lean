/- Of the proof of FnDeltaNeeds: ChoI, HinI, Fit, DrawGv, AscI, FlwP, NamV. -/
import Derived.Test.YtkjinanbccloeaaGreatDoorE24
set_option linter.unusedVariables false
set_option maxHeartbeats 4000000
set_option maxRecDepth 100000
namespace Go.Proofs.YtkjinanbccloeaaGreatDoor
section
open Go.RowKit D
attribute [local go_sem ↓] Go.wp_at_zero Go.wp_at_succ
theorem D.VQ (l i:Nat) (y:l < 16) (I:i < 4):(bits .and .i64 (l:Int) (wrap64 (2 ^ i)) == 0) = !l.testBit i:=by
 have h:∀ l:Nat,l < 16→∀ i:Nat,i < 4→(bits .and .i64 (l:Int) (wrap64 (2 ^ i)) == 0) = !l.testBit i:=by decide +kernel
 exact h l y i I
structure D.xQ (fs ps:List A) (b:Bd) (bs:List Nat) (left m:Nat) (A9:Option Addr) (c9:Nat) (key:WK) (bx:List Nat) (w:World):Prop where
 lt:m < ps.length
 bit:left.testBit m=true
 row:jT w [.slice A9 (idxs fs key).length c9] (idxs fs key) bx
 sub:∀ x ∈ bx,x ∈ bs
 key_:∀ p,ps[m]? = some p→∀ f,Gr f→(aG p f b).2=true→key ∈ keysOf f
theorem D.xQ.below {fs ps:List A} {b:Bd} {bs:List Nat} {left m:Nat} {y:Option Addr} {I:Nat} {key:WK} {J:List Nat} {w w':World} (h:xQ fs ps b bs left m y I key J w) (hb:Below w.heap.size w w'):xQ fs ps b bs left m y I key J w':=
 ⟨h.lt,h.bit,dS.below h.row hb,h.sub,h.key_⟩
theorem PW (vars:List ByteArray) (hv:kC vars) (b:Bd) (fs:List A) (rn:List Nat) (bs:List Nat) (ps:List A) (Ap:Option Addr) (cp:Nat) (bp:List Nat) (sk sb:Nat) (v2:Value) (wt:Nat→Bool) (ah:Int) (tell:Value) (left:Nat) (w:World)
  (h:mP sk sb (.slice Ap ps.length cp) v2 wt false ah tell w) (hb:iM vars b sk 18 w) (aq:kW sb fs rn bs w) (ar:uN vars w [.slice Ap ps.length cp] ps bp) (hin:∀ p ∈ ps,∀ t ∈ p.args,t.var=true→t.name ∈ vars) (av:∀ p ∈ ps,p.args.length≤1000000) (b6:ps.length≤4) (aw:left < 16) (ag:fs.length≤1000000)
  (a6:∃ j,j < ps.length∧left.testBit j=true):
  Calls Tryz.prog 231 #[.pointer (some ⟨sk,0,none⟩),.int .i64 left] w fun e w'=>∃ m A9 c9 key bx,e=.returned (.tuple #[.int .i64 (m:Nat),.slice A9 (idxs fs key).length c9])∧xQ fs ps b bs left m A9 c9 key bx w'∧Below w.heap.size w w':=by
 have a7:=h.lt;have y0:=h.p1;have HX:=η (ι h (ι hb (ι aq (ι ar (ι hin (ι av a6))))));clear h hb aq ar hin av a6
 go_enter Tryz.func231,Tryz.ntmps231
 go_wp2
 go_loopw [6,7,17] (fun best list i wr=>∃ (k:Nat),k≤ps.length∧i=.int .i64 k∧Below w.heap.size w wr∧
  ((best=.int .i64 (-1)∧list=.slice none 0 0∧∀ j,j < k→left.testBit j=false)∨∃ m A9 c9 key bx,best=.int .i64 (m:Nat)∧list=.slice A9 (idxs fs key).length c9∧xQ fs ps b bs left m A9 c9 key bx wr)) (fun _ _ i _=>ps.length - (intOf i).toNat)
 case atStart=>exact ⟨0,ε,rfl,ϑ,.inl ⟨rfl,rfl,fun j hj=>by omega⟩⟩
 case round=>
  obtain ⟨k,hk,rfl,I,halt⟩:=hrel;by_cases a0:k < ps.length
  ·obtain ⟨bq,oq,Ae,ce,bk,rfl,_,f0,f1,⟨vv,az,aD,am⟩,_⟩:=yR ((dX vars).below HX.out.2.2.2.1 I) a0
   simp only [List.cons.injEq,and_true,true_and] at az;subst az;have b7:(0:Int)≤(k:Int):=by omega
   have b2:(k:Int) < (ps.length:Int):=by omega
   have b8:(k:Int) < 4:=by omega
   have af:=VQ left k aw (by omega);have a8:Below wr.heap.size wr (wr.alloc (.cells #[.string ps[k].name,.slice Ae ps[k].args.length ce] 168)):=ζ;have a1:=I.trans (a8.mono I.size);have J:=η a0;have aE:=η a8;have a9:=η a1;have a4:=η halt;cases htb:left.testBit k
   ·rw [htb] at af
    have ao:=η htb;clear a8 a1 aD am I htb hk halt;simp only [Bool.not_false] at af;generalize ps[k].name=pn at *;generalize ps[k].args.length=pl at *;clear a0;go_wp2;go_roundw
    case rel=>
     refine ⟨k+1,J.out,by go_num,a9.out,?_⟩
     rcases a4.out with ⟨h1,h2,h3⟩ | ⟨m,A9,c9,key,bx,h1,h2,h3⟩
     ·refine .inl ⟨h1,h2,fun j hj=>?_⟩
      rcases Nat.lt_succ_iff_lt_or_eq.1 hj with h | rfl
      ·exact h3 j h
      ·exact ao.out
     ·exact .inr ⟨m,A9,c9,key,bx,h1,h2,h3.below aE.out⟩
    case measure=>have:=J.out; simp [intOf]; omega
   ·rw [htb] at af
    have b5:sk < (wr.alloc (.cells #[.string ps[k].name,.slice Ae ps[k].args.length ce] 168)).heap.size:=κ a7 a1.size;have HC:=η (FT vars hv b sb fs rn bs ps[k] Ae ce bk sk 18 (wr.alloc (.cells #[.string ps[k].name,.slice Ae ps[k].args.length ce] 168)).drew (HX.out.2.2.1.below a1.drew) (HX.out.2.1.keep (a1.drew.block _ a7)) ((dw vars).below am a8.drew) (HX.out.2.2.2.2.1 _ (δ a0)) (HX.out.2.2.2.2.2.1 _ (δ a0)) ag);have s0:(wr.alloc (.cells #[.string ps[k].name,.slice Ae ps[k].args.length ce] 168)).cell? ⟨sk,0,none⟩=some (.pointer (some ⟨sb,0,none⟩)):=(HX.out.1.keep (a1.block _ a7)).st;have z0:(wr.alloc (.cells #[.string ps[k].name,.slice Ae ps[k].args.length ce] 168)).cell? ⟨wr.heap.size,0,none⟩=some (.string ps[k].name):=by go_simp
    have z1:(wr.alloc (.cells #[.string ps[k].name,.slice Ae ps[k].args.length ce] 168)).cell? ⟨wr.heap.size,1,none⟩=some (.slice Ae ps[k].args.length ce):=by go_simp
    have aL:Hid (∀ p,ps[k]? = some p→p=ps[k]):=η fun p hp=>by rw [Ψ a0] at hp; exact (Option.some.inj hp).symm
    have ao:=η htb;clear a8 a1 aD am I htb hk halt;simp only [Bool.not_true] at af;generalize ps[k]=p at *;clear a0;obtain ⟨pn,a2⟩:=p;dsimp only at *
    have aM:∀ (y:WK) (a3:List Nat) (A8:Option Addr) (c8:Nat) (w8:World),jT w8 [.slice A8 (idxs fs y).length c8] (idxs fs y) a3→(∀ x ∈ a3,x ∈ bs)→(∀ f,Gr f→(aG ⟨pn,a2⟩ f b).2=true→y ∈ keysOf f)→xQ fs ps b bs left k A8 c8 y a3 w8:=
     fun _ _ _ _ _ h1 h2 h3=>⟨J.out,ao.out,h1,h2,fun p hp=>by rw [aL.out p hp]; exact h3⟩
    have aR:=η aM;clear aM aL
    rcases a4.out with ⟨rfl,rfl,_⟩ | ⟨m,A9,c9,key,bx,rfl,rfl,h3⟩
    ·clear a4
     go_wp2;generalize wr.alloc (.cells #[.string pn,.slice Ae a2.length ce] 168)=W1 at *
     go_region_law
      (first
       | (go_simp; go_at_call 272; refine HC.out.mono ?_; rintro e w2 ⟨A8,c8,y,a3,rfl,aa,ab,ac,ae⟩; have U:=η ((Below.refl W1.heap.size W1).drew.trans ae); replace s0:=ξ U.out s0; have H8:=η (aR.out _ _ _ _ _ aa ab ac); clear aa ab ac ae))
     all_goals
      have a5:=η (a9.out.trans (U.out.mono a9.out.size));have q9:=(HX.out.1.keep (a5.out.block _ a7)).io;clear s0 z0 z1 HC U;go_wp2;go_roundw
      case rel=>exact ⟨k+1,J.out,by go_num,a5.out,.inr ⟨k,A8,c8,y,a3,rfl,rfl,H8.out⟩⟩
      case measure=>have:=J.out; simp [intOf]; omega
    ·have b9:¬ ((m:Nat):Int) < 0:=by omega
     have H3:=η h3;clear a4 h3;go_wp2;generalize wr.alloc (.cells #[.string pn,.slice Ae a2.length ce] 168)=W1 at *
     go_region_law
      (first
       | (go_simp; go_at_call 272; refine HC.out.mono ?_; rintro e w2 ⟨A8,c8,y,a3,rfl,aa,ab,ac,ae⟩; have U:=η ((Below.refl W1.heap.size W1).drew.trans ae); replace s0:=ξ U.out s0; have H8:=η (aR.out _ _ _ _ _ aa ab ac); clear aa ab ac ae))
     all_goals
      have a5:=η (a9.out.trans (U.out.mono a9.out.size));have q9:=(HX.out.1.keep (a5.out.block _ a7)).io;have H4:=η ((H3.out.below aE.out).below U.out);have bc:(idxs fs y).length≤1000000:=τ (nX _ _) ag;have bf:(idxs fs key).length≤1000000:=τ (nX _ _) ag;clear s0 z0 z1 HC U H3;by_cases hc:(idxs fs y).length < (idxs fs key).length
      ·have b3:((idxs fs y).length:Int) < ((idxs fs key).length:Int):=by omega
       go_wp2;go_roundw
       case rel=>exact ⟨k+1,J.out,by go_num,a5.out,.inr ⟨k,A8,c8,y,a3,rfl,rfl,H8.out⟩⟩
       case measure=>have:=J.out; simp [intOf]; omega
      ·have b3:¬ ((idxs fs y).length:Int) < ((idxs fs key).length:Int):=by omega
       go_wp2;go_roundw
       case rel=>exact ⟨k+1,J.out,by go_num,a5.out,.inr ⟨m,A9,c9,key,bx,rfl,rfl,H4.out⟩⟩
       case measure=>have:=J.out; simp [intOf]; omega
  ·have he:k=ps.length:=by omega
   subst he;have b2:¬ (ps.length:Int) < (ps.length:Int):=by omega
   rcases halt with ⟨rfl,rfl,h3⟩ | ⟨m,A9,c9,key,bx,rfl,rfl,h3⟩
   ·obtain ⟨j,b4,b1⟩:=HX.out.2.2.2.2.2.2
    rw [h3 j b4] at b1;cases b1
   ·have HP:=η (ι h3 I)
    clear h3 I;go_wp2;go_ret2;exact ⟨m,A9,c9,key,rfl,⟨bx,HP.out.1⟩,HP.out.2⟩
def D.zq (fs:List A) (y:List A) (b:Bd):Bool:=y.any fun n=>decide (eX (cO n b) ∈ fs.map eX)
theorem D.Tm (fs y:List A) (b:Bd) (k:Nat) (h:k < y.length):zq fs (y.take (k+1)) b=(zq fs (y.take k) b || decide (eX (cO y[k] b) ∈ fs.map eX)):=by
 unfold zq;rw [ρ h,List.any_append];simp
theorem D.XJ {fs y:List A} {b:Bd} {k:Nat} (h:k < y.length) (I:decide (eX (cO y[k] b) ∈ fs.map eX)=true):zq fs y b=true:=List.any_eq_true.2 ⟨y[k],δ h,I⟩
theorem sV (vars:List ByteArray) (hv:kC vars) (b:Bd) (aL:jZ vars b) (fs:List A) (rn:List Nat) (bs:List Nat) (y:List A) (An:Option Addr) (cn:Nat) (bn:List Nat) (sk sb:Nat) (v1:Value) (wt:Nat→Bool) (io:Bool) (ah:Int) (tell:Value) (w:World)
  (h:mP sk sb v1 (.slice An y.length cn) wt io ah tell w) (hb:iM vars b sk 18 w) (aq:kW sb fs rn bs w) (ar:uN vars w [.slice An y.length cn] y bn) (hin:∀ n ∈ y,∀ t ∈ n.args,t.var=true→t.name ∈ vars) (hok:∀ n ∈ y,aZ (cO n b)=true) (b2:y.length≤1000000):
  Calls Tryz.prog 230 #[.pointer (some ⟨sk,0,none⟩)] w fun e w'=>e=.returned (.bool (zq fs y b))∧Below w.heap.size w w':=by
 have ae:=h.lt;have y0:=h.p2;have HX:=η (ι h (ι hb (ι aq (ι ar (ι hin hok)))));clear h hb aq ar hin hok
 go_enter Tryz.func230,Tryz.ntmps230
 go_wp2
 go_loopw [11] (fun i wr=>∃ (k:Nat),k≤y.length∧i=.int .i64 k∧zq fs (y.take k) b=false∧Below w.heap.size w wr) (fun i _=>y.length - (intOf i).toNat)
 case atStart=>exact ⟨0,ε,rfl,by simp [zq],ϑ⟩
 case round=>
  obtain ⟨k,hk,rfl,a3,U⟩:=hrel;by_cases a0:k < y.length
  ·obtain ⟨bq,oq,Ae,ce,bk,rfl,_,f0,f1,⟨vv,av,aw,az⟩,_⟩:=yR ((dX vars).below HX.out.2.2.2.1 U) a0
   simp only [List.cons.injEq,and_true,true_and] at av;subst av;have b3:(0:Int)≤(k:Int):=by omega
   have aM:(k:Int) < (y.length:Int):=by omega
   have af:=Tm fs y b k a0;rw [a3,Bool.false_or] at af;have aR:=η af;have b1:=η (fun hd=>XJ (fs:=fs) (b:=b) a0 hd)
   have aD:y[k].args.length≤1000000:=by
    have h9:=HX.out.2.2.2.2.2 _ (δ a0);unfold aZ at h9;simp only [ο,decide_eq_true_eq] at h9;have:=h9.1.2;simp [cO] at this; omega
   have ag:Below wr.heap.size wr (wr.alloc (.cells #[.string y[k].name,.slice Ae y[k].args.length ce] 168)):=ζ;have a2:=U.trans (ag.mono U.size);have a1:sk < (wr.alloc (.cells #[.string y[k].name,.slice Ae y[k].args.length ce] 168)).heap.size:=κ ae a2.size;have HF:=η (Nu vars hv b aL y[k] Ae ce bk sk 18 (wr.alloc (.cells #[.string y[k].name,.slice Ae y[k].args.length ce] 168)).drew ((HX.out.2.1.keep (a2.block _ ae)).keep rfl) aw ((dw vars).below az (ag.drew)) (HX.out.2.2.2.2.1 _ (δ a0)) aD);have aa:=η (HX.out.2.2.2.2.2 _ (δ a0));have ab:=η (HX.out.2.2.1.below a2);have ac:=η a2;have s0:(wr.alloc (.cells #[.string y[k].name,.slice Ae y[k].args.length ce] 168)).cell? ⟨sk,0,none⟩=some (.pointer (some ⟨sb,0,none⟩)):=(HX.out.1.keep (a2.block _ ae)).st;have z0:(wr.alloc (.cells #[.string y[k].name,.slice Ae y[k].args.length ce] 168)).cell? ⟨wr.heap.size,0,none⟩=some (.string y[k].name):=by go_simp
   have z1:(wr.alloc (.cells #[.string y[k].name,.slice Ae y[k].args.length ce] 168)).cell? ⟨wr.heap.size,1,none⟩=some (.slice Ae y[k].args.length ce):=by go_simp
   have aE:=η a0;clear a3 U hk ag a2 aw az af aD;generalize y[k]=n at *;clear a0;obtain ⟨nn,J⟩:=n;dsimp only at *;generalize hr:decide (eX (cO ⟨nn,J⟩ b) ∈ fs.map eX)=r at *;have HR:=η hr;clear hr;cases r
   ·go_wp2
    generalize wr.alloc (.cells #[.string nn,.slice Ae J.length ce] 168)=W1 at *
    go_region_law
     (first
      | (go_simp; go_at_call 117; refine HF.out.mono ?_; rintro e w2 ⟨v9,b9,rfl,a4,a5,am⟩; have I:=η ((Below.refl W1.heap.size W1).drew.trans a4); replace s0:=ξ I.out s0; replace a1:=κ a1 I.out.size; have a6:=BH sb fs rn bs (cO ⟨nn,J⟩ b) (.string nn) v9 b9 w2 (ab.out.below I.out) a5 aa.out; have a7:=η a6; clear a4 a5 am a6)
      | (go_simp; go_at_call 193; refine a7.out.mono ?_; rintro e w3 ⟨rfl,a8⟩; have a9:=η (I.out.trans (a8.mono I.out.size)); rw [HR.out]; clear a8))
    all_goals
     have ao:=η (ac.out.trans (a9.out.mono ac.out.size));clear s0 z0 z1 HF a7 I a9 ab aa;go_wp2;go_roundw
     case rel=>exact ⟨k+1,aE.out,by go_num,aR.out,ao.out⟩
     case measure=>have:=aE.out; simp [intOf]; omega
   ·go_wp2
    generalize wr.alloc (.cells #[.string nn,.slice Ae J.length ce] 168)=W1 at *
    go_region_law
     (first
      | (go_simp; go_at_call 117; refine HF.out.mono ?_; rintro e w2 ⟨v9,b9,rfl,a4,a5,am⟩; have I:=η ((Below.refl W1.heap.size W1).drew.trans a4); replace s0:=ξ I.out s0; replace a1:=κ a1 I.out.size; have a6:=BH sb fs rn bs (cO ⟨nn,J⟩ b) (.string nn) v9 b9 w2 (ab.out.below I.out) a5 aa.out; have a7:=η a6; clear a4 a5 am a6)
      | (go_simp; go_at_call 193; refine a7.out.mono ?_; rintro e w3 ⟨rfl,a8⟩; have a9:=η (I.out.trans (a8.mono I.out.size)); rw [HR.out]; clear a8))
    all_goals
     have ao:=η (ac.out.trans (a9.out.mono ac.out.size));clear s0 z0 z1 HF a7 I a9 ab aa;go_wp2;go_ret;rw [b1.out (by trivial)];exact ⟨rfl,ao.out⟩
  ·have he:k=y.length:=by omega
   have aM:¬ (k:Int) < (y.length:Int):=by omega
   rw [ϕ (Nat.le_of_eq he.symm)] at a3;have HP:=η (ι a3 U);clear a3 U;go_wp2;go_ret;rw [HP.out.1];exact ⟨rfl,HP.out.2⟩
theorem D.XK {y:List A} (h:kH y=true) (x:A):SE y x=(!decide (x.name ∈ (dG y).1) || decide ((dG y).2.1 x.name=x.args.length)):=by
 obtain ⟨i1,_,i2,_⟩:=pJ y;rw [Bool.eq_iff_iff];unfold SE;simp only [ό,Bool.or_eq_true,Bool.not_eq_true',decide_eq_false_iff_not,decide_eq_true_eq];constructor
 ·intro hc
  by_cases hm:x.name ∈ (dG y).1
  ·obtain ⟨a,ha,e⟩:=(i1 _).1 hm
   have h1:=hc a ha;have I:=LJ h ha;rw [e] at I;unfold clash at h1;rw [decide_eq_true e,Bool.true_and,decide_eq_false_iff_not,Classical.not_not] at h1;exact .inr (by rw [I,h1])
  ·exact .inl hm
 ·intro hc a ha
  unfold clash;by_cases e:a.name=x.name
  ·have hm:x.name ∈ (dG y).1:=(i1 _).2 ⟨a,ha,e⟩
   have h1:=hc.resolve_left fun h=>h hm
   have I:=LJ h ha;rw [e,h1] at I;have:a.args.length=x.args.length:=by exact_mod_cast I.symm
   simp [this]
  ·simp [e]
theorem JK (a:A) (c0 c1:Value) (bs:List Nat) (w:World) (B n:Nat) (L:List ByteArray) (f:ByteArray→Int) (h:aJ w [c0,c1] a bs) (hM:gB B n L f w) (hf:∀ s ∈ L,0≤f s∧f s≤1000000):
  Calls Tryz.prog 70 #[.map (some B),.agg #[c0,c1]] w fun e w'=>e=.returned (.bool (!decide (a.name ∈ L) || decide (f a.name=a.args.length)))∧Below w.heap.size w w':=by
 obtain ⟨s,U,a0,ht⟩:=h;simp only [List.cons.injEq,and_true] at U;obtain ⟨rfl,rfl⟩:=U;obtain ⟨Ad,cap,rfl,hl,hm⟩:=aj ht;have a1:=ay (τ hl hm);obtain ⟨nm,args⟩:=a;dsimp only at *;have hA:Below w.heap.size w (w.alloc (.cells #[.string nm,.slice Ad args.length cap] 33)):=ζ;have HM:=η (hM.below hA hM.lt);have y:=η a0;clear hl hm ht hM a0;by_cases I:nm ∈ L
 ·have J:Hid (decide (nm ∈ L)=true):=η (decide_eq_true I)
  have hr:=hf nm I;obtain ⟨v,hv⟩:∃ v,f nm=v:=⟨_,rfl⟩;have HV:Hid ((if nm ∈ L then f nm else 0)=v):=η ((if_pos I).trans hv);rw [hv] at hr ⊢;clear hv hf I;by_cases he:v=args.length
  ·have HZ:Hid ((!decide (nm ∈ L) || decide (v=(args.length:Int)))=true):=η (by rw [J.out,decide_eq_true he]; rfl)
   subst he
   go_enter Tryz.func70,Tryz.ntmps70
   go_wp2_with (first | (at_lookup; refine bZ _ rfl _ _ _ rfl Tryz.underlying116 _ _ _ _ rfl HM.out nm rfl y.out true J.out _ HV.out ?_) | go_in)
   go_ret;exact ⟨rfl,hA⟩
  ·have HZ:Hid ((!decide (nm ∈ L) || decide (v=(args.length:Int)))=false):=η (by rw [J.out,decide_eq_false he]; rfl)
   go_enter Tryz.func70,Tryz.ntmps70
   go_wp2_with (first | (at_lookup; refine bZ _ rfl _ _ _ rfl Tryz.underlying116 _ _ _ _ rfl HM.out nm rfl y.out true J.out _ HV.out ?_) | go_in)
   go_ret;exact ⟨aH (by rw [HZ.out]; first | rfl | exact beq_eq_false_iff_ne.2 he),hA⟩
 ·have J:Hid (decide (nm ∈ L)=false):=η (decide_eq_false I)
  have HV:Hid ((if nm ∈ L then f nm else 0)=0):=η (if_neg I);have HZ:Hid ((!decide (nm ∈ L) || decide (f nm=(args.length:Int)))=true):=η (by rw [J.out]; rfl);clear hf I
  go_enter Tryz.func70,Tryz.ntmps70
  go_wp2_with (first | (at_lookup; refine bZ _ rfl _ _ _ rfl Tryz.underlying116 _ _ _ _ rfl HM.out nm rfl y.out false J.out _ HV.out ?_) | go_in)
  go_ret;exact ⟨aH (by rw [HZ.out]),hA⟩
theorem Gz (rs:List Ru) (xs:List A) (v1 v2:Value) (b1 b2:List Nat) (w:World) (h:dW w [v1] rs b1) (h2:aC w [v2] xs b2) (hg:oC w):
  Calls Tryz.prog 19 #[v1,v2] w fun e w'=>e=.returned (.bool (jU rs xs))∧Below w.heap.size w w':=by
 have c1:=sU rs v1 b1 w h hg;have C2:=η fun w' (hb:Below w.heap.size w w')=>sO xs v2 b2 w' (au.below h2 hb)
 have C3:=η fun w' (hb:Below w.heap.size w w') (hok:rs.all eY=true) (hf:rs.length≤8)=>sG rs v1 b1 w' (aS.below h hb) hok hf
 obtain ⟨ag,cap2,rfl,a2,a3⟩:=aj h2;have am:=ay (τ a2 a3);clear h hg a2 a3;by_cases hp:eU rs=0
 ·have a4:=(nO rs).1 hp
  have HF:=η a4;have HZ:Hid (jU rs xs=(aU xs && sJ (aB rs) xs)):=η (by unfold jU; rw [decide_eq_true hp,Bool.true_and]);rw [decide_eq_true hp] at c1;clear hp a4
  go_enter Tryz.func19,Tryz.ntmps19
  go_wp2_with fail
  refine c1.mono ?_;rintro e w1 ⟨rfl,I⟩;clear c1
  go_wp2_with fail
  refine (C2.out _ I).mono ?_;rintro e w2 ⟨rfl,a5⟩;have B2:=I.trans (a5.mono I.size);clear C2 I a5;cases hx:aU xs
  ·have a1:Hid (jU rs xs=false):=η (by rw [HZ.out,hx]; rfl)
   clear HZ hx C3;go_wp2;go_ret;exact ⟨aH a1.out.symm,B2⟩
  ·have a1:Hid (jU rs xs=sJ (aB rs) xs):=η (by rw [HZ.out,hx,Bool.true_and])
   clear HZ hx
   go_wp2_with fail
   refine (C3.out _ B2 HF.out.ok HF.out.few).mono ?_;rintro e w3 ⟨rfl,n,hM,a6⟩;have B3:=B2.trans (a6.mono B2.size);have HM:=η hM;have aa:=η (Dc HF.out.ok HF.out.few (xs:=aB rs) fun a h=>h);have ab:=η (XK HF.out.alike);have af:w2.heap.size < w3.heap.size:=hM.lt;clear hM C3 a6;generalize aB rs=az at *;go_wp2
   go_loopw [24] (fun i wr=>∃ k:Nat,k≤xs.length∧i=.int .i64 k∧sJ az (xs.take k)=true∧gB w2.heap.size n (dG az).1 (dG az).2.1 wr∧Below w.heap.size w wr) (fun i _=>xs.length - (intOf i).toNat)
   case atStart=>exact ⟨0,ε,rfl,rfl,HM.out,B3⟩
   case round=>
    clear HM;obtain ⟨k,hk,rfl,y,hM,hb⟩:=hrel;by_cases J:k < xs.length
    ·obtain ⟨b,o,Ae,ce,bk,rfl,_,d0,d1,a7,_⟩:=dL (au.below h2 hb) J
     have ao:(0:Int)≤(k:Int):=by omega
     have ac:(k:Int) < (xs.length:Int):=by omega
     have hA:Below wr.heap.size wr (wr.alloc (.cells #[.string xs[k].name,.slice Ae xs[k].args.length ce] 33)):=ζ;have c4:=JK xs[k] _ _ bk _ _ n _ _ (ak.below a7 hA) (hM.below hA hM.lt) aa.out;rw [← ab.out xs[k]] at c4;have HS:=η (MS az xs k J y);have U:=η (Qy az xs k J);have HM:=η (hM.below hA hM.lt);have HB:=η (hb.trans (hA.mono hb.size));clear h2 a7 hA y hM hb;have a8:=η J;generalize xs[k]=x at *;clear J;obtain ⟨xn,xa⟩:=x;dsimp only at *
     go_wp2_with fail
     refine c4.mono ?_;rintro e w5 ⟨rfl,a9⟩;have B5:=HB.out.trans (a9.mono HB.out.size);have ae:=η (HM.out.below a9 HM.out.lt);clear c4 HM HB;cases hf:SE az ⟨xn,xa⟩
     ·have a0:Hid (jU rs xs=false):=η (by rw [a1.out]; exact U.out hf)
      clear hf HS U;go_wp2;go_ret;exact ⟨aH a0.out.symm,B5⟩
     ·have a0:=η (HS.out.trans hf)
      clear hf HS U;go_wp2;go_roundw
      case rel=>exact ⟨k+1,a8.out,by go_num,a0.out,ae.out,B5⟩
      case measure=>have:=a8.out; simp [intOf]; omega
    ·have he:k=xs.length:=by omega
     have ac:¬ (k:Int) < (xs.length:Int):=by omega
     have a0:Hid (jU rs xs=true):=η (by rw [a1.out]; rw [he,ϕ ν] at y; exact y);clear he y hM h2;go_wp2;go_ret;exact ⟨aH a0.out.symm,hb⟩
 ·have HZ:Hid (jU rs xs=false):=η (by unfold jU; rw [decide_eq_false hp]; rfl)
  rw [decide_eq_false hp] at c1;clear hp C2 C3 h2
  go_enter Tryz.func19,Tryz.ntmps19
  go_wp2_with fail
  refine c1.mono ?_;rintro e w1 ⟨rfl,I⟩;go_wp2;go_ret;exact ⟨aH HZ.out.symm,I⟩
def XL (g p q:Nat) (w:World) (e:Ending) (w':World):Prop:=
 ∃ (rs:List Ru) (y:Option Addr) (c0:Nat) (b0:List Nat) (xs:List A) (I:Option Addr) (c1:Nat) (J:List Nat) (U:Nat),e=.returned (.tuple #[.slice y rs.length c0,.slice I xs.length c1])∧dW w' [.slice y rs.length c0] rs b0∧aC w' [.slice I xs.length c1] xs J∧
  (∀ b ∈ b0,w.heap.size≤b)∧(∀ b ∈ J,w.heap.size≤b)∧rs.length≤9∧(∀ r ∈ rs,Uc r)∧xs.length≤50∧(∀ a ∈ xs,a.args.length≤4)∧kQ g U w'∧U≤p+q∧aI [g] w w'
theorem D.QC {g p p1 p2 q1 q2:Nat} {w w1 w2 U:World} {rs:List Ru} {v:Value} {xs:List A} {v2:Value} {b1:List Nat} (hk:aI [g] w w1) (hg:g < w.heap.size) (h1:rs.length≤9) (h2:p1≤p+q1) (hI:gZ g p1 w1 rs v w2) (hR:kQ g p2 U) (hK:aI [g] w2 U) (h3:p2≤p1+q2)
  (I:aC U [v2] xs b1) (J:∀ b ∈ b1,w2.heap.size≤b) (hx:xs.length≤50) (hs:∀ a ∈ xs,a.args.length≤4):XL g p (q1+q2) w (.returned (.tuple #[v,v2])) U:=by
 have y:=hI.call hR hK;obtain ⟨A0,c0,rfl⟩:=y.shape;obtain ⟨b0,hr,a0⟩:=y.rules;obtain ⟨A1,c1,rfl,_,_⟩:=aj I;exact ⟨rs,A0,c0,b0,xs,A1,c1,b1,p2,rfl,hr,I,fun b hb=>τ hk.size (a0 b hb),fun b hb=>τ (τ hk.size hI.kept.size) (J b hb),h1,hI.small,hx,hs,hR,by omega,hk.trans y.kept⟩
theorem JL (g p:Nat) (w:World) (h:kQ g p w) (hp:p≤200000):
  Calls Tryz.prog 52 #[.pointer (some ⟨g,0,none⟩)] w (XL g p 400 w):=by
 have a4:=pick_any g p 6 w h (by omega) (by omega) (by omega);have HL:=η h.lt;have HP:=η hp;clear h hp
 go_enter Tryz.func52,Tryz.ntmps52
 go_wp2_with fail
 refine a4.mono ?_;rintro e w1 ⟨k,rfl,a8,J,a5⟩;have a9:Hid (aI [g] w w1):=η (aI.dB a5);obtain ⟨p1,a6⟩:∃ p1,p1=p+1:=⟨_,rfl⟩;have a1:Hid (p1≤p+1):=η (by omega);rw [← a6] at J;by_cases hk:k=0
 ·have hd:=DW g p1 w1 J (by have:=HP.out; omega)
  subst hk;clear a4 J a5 a6 a8
  go_wp2_with fail
  refine hd.mono ?_;rintro e w2 ⟨rs,v,p2,rfl,hx,hq,hI⟩;have U:=tN g p2 w2 hI.rdr (by have:=HP.out; have:=a1.out; omega);have HI:=η (ι hI (ι hx hq));obtain ⟨A0,c0,rfl⟩:=hI.shape;clear hd hx hq hI
  go_wp2_with fail
  refine U.mono ?_;rintro e w3 ⟨xs,v2,b1,p3,rfl,⟨I,y⟩,a2,a0,aa,a7,ab⟩;have HZ:Hid (XL g p 400 w (.returned (.tuple #[.slice A0 rs.length c0,v2])) w3):=η (QC (q1:=160) (q2:=240) a9.out HL.out HI.out.2.1 (by have:=HI.out.2.2; have:=a1.out; omega) HI.out.1 aa ab (by omega) I y a2 a0);obtain ⟨A1,c1,rfl,_,_⟩:=aj I;clear U I y a2 a0 aa a7 ab;go_wp2;go_ret2;exact HZ.out
 ·have ac:¬ ((k:Int)=0):=by omega
  have hd:=zo g p1 w1 J (by have:=HP.out; omega);clear a4 J a5 a6 a8 hk
  go_wp2_with fail
  refine hd.mono ?_;rintro e w2 ⟨rs,v,p2,rfl,hx,hq,hI⟩;have U:=oL g p2 10 w2 hI.rdr (by have:=HP.out; have:=a1.out; omega) (by omega) (by omega);have HI:=η (ι hI (ι hx hq));obtain ⟨A0,c0,rfl⟩:=hI.shape;clear hd hx hq hI
  go_wp2_with fail
  refine U.mono ?_;rintro e w3 ⟨xs,v2,p3,rfl,_,a2,a0,a7,a3⟩;obtain ⟨b1,I,y⟩:=a3.atoms;have HZ:Hid (XL g p 400 w (.returned (.tuple #[.slice A0 rs.length c0,v2])) w3):=η (QC (q1:=160) (q2:=240) a9.out HL.out (τ HI.out.2.1 (by omega)) (by have:=HI.out.2.2; have:=a1.out; omega) HI.out.1 a3.rdr a3.kept (by omega) I y (by omega) (fun a ha=>τ (a0 a ha) (by omega)));obtain ⟨A1,c1,rfl,_,_⟩:=aj I;clear U I y a2 a0 a7 a3;go_wp2;go_ret2;exact HZ.out
end
section
open Go.RowKit Go.Maps Go.Sort D
attribute [local go_sem ↓] Go.wp_at_zero Go.wp_at_succ
theorem VR:(Tryz.prog.info? 9).map (fun i=>(i.zero,i.size,i.bytes))=some (some (.string ⟨#[]⟩),1,16):=by kernel_rfl
def D.nY (L:List ByteArray):List ByteArray:=L.foldl jX []
theorem D.xR:∀ (L out:List ByteArray),oZ out→oZ (L.foldl jX out)∧∀ x,x ∈ L.foldl jX out ↔ x ∈ out∨x ∈ L
 | [],out,h=>⟨h,fun x=>by simp⟩
 | s :: L,out,h=>by
  obtain ⟨h1,y⟩:=xR L (jX out s) (Eo s h);refine ⟨h1,fun x=>?_⟩;rw [List.foldl_cons,y,yA,ύ,or_assoc]
theorem D.qV (L:List ByteArray):oZ (nY L):=(xR L [] o6).1
theorem D.ny (L:List ByteArray) (x:ByteArray):x ∈ nY L ↔ x ∈ L:=by
 have:=(xR L [] o6).2 x;simpa [nY] using this
theorem D.qC:∀ {a b:List ByteArray},a.map (·.data.toList)=b.map (·.data.toList)→a=b
 | [],b,h=>by cases b; rfl; simp at h
 | x :: a,b,h=>by
  cases b with
  | nil=>simp at h
  | cons y b=>simp only [List.map_cons,List.cons.injEq] at h; rw [bytes_inj h.1,qC h.2]
theorem D.NK {a b:List ByteArray} (ha:oZ a) (hb:oZ b) (h:∀ x,x ∈ a ↔ x ∈ b):a=b:=by
 refine qC (asc_one (List.pairwise_map.2 (ha.imp fun {a b} h=>(yF _ _).2 h)) (List.pairwise_map.2 (hb.imp fun {a b} h=>(yF _ _).2 h)) fun x=>?_);simp only [List.mem_map];exact ⟨fun ⟨y,I,e⟩=>⟨y,(h y).1 I,e⟩,fun ⟨y,I,e⟩=>⟨y,(h y).2 I,e⟩⟩
theorem D.Tn {a b:List ByteArray} (h:∀ x,x ∈ a ↔ x ∈ b):nY a=nY b:=NK (qV a) (qV b) fun x=>by rw [ny,ny,h]
theorem D.VS {xs ys L:List ByteArray} (hn:(xs.map (·.data.toList)).Nodup) (hm:∀ x,x ∈ xs ↔ x ∈ L) (I:ys.map (·.data.toList)=(xs.map (·.data.toList)).mergeSort leB):ys=nY L:=by
 have hp:=List.mergeSort_perm (xs.map (·.data.toList)) leB;have J:(ys.map (·.data.toList)).Nodup:=by rw [I]; exact hp.nodup_iff.2 hn
 have U:(ys.map (·.data.toList)).Pairwise (fun a b=>a≤b):=by rw [I]; exact CP _
 have a0:(ys.map (·.data.toList)).Pairwise (fun a b=>a < b):=(U.and J).imp fun {a b} h=>by
  rcases List.le_iff_lt_or_eq.1 h.1 with h1 | h1
  ·exact h1
  ·exact absurd h1 h.2
 refine qC (asc_one a0 (List.pairwise_map.2 ((qV L).imp fun {a b} h=>(yF _ _).2 h)) fun b=>?_);rw [I,hp.mem_iff];simp only [List.mem_map];exact ⟨fun ⟨y,h,e⟩=>⟨y,(ny L y).2 ((hm y).1 h),e⟩,fun ⟨y,h,e⟩=>⟨y,(hm y).2 ((ny L y).1 h),e⟩⟩
theorem ql (B n:Nat) (L:List ByteArray) (f:ByteArray→Int) (w:World) (hM:gB B n L f w) (hn:L.length≤1000000):
  Calls Tryz.prog 71 #[.map (some B)] w (Makes iF (nY L) w.heap.size w):=by
 by_cases h0:L.length=0
 ·have hL:L = []:=List.length_eq_zero_iff.1 h0
  subst hL;have HM:=η hM;clear hM h0
  go_enter Tryz.func71,Tryz.ntmps71
  go_wp2_with (first | (at_len; refine fA _ rfl _ _ rfl Tryz.underlying116 _ _ _ _ rfl HM.out ?_) | go_in)
  go_ret;exact ⟨ϑ,_,[],rfl,⟨_,_,rfl,ν,ε,fun _=>rfl,fun h=>absurd rfl h⟩,New.nil _ _⟩
 ·have HM:=η hM
  obtain ⟨⟨M,h1,h2,h3,h4⟩,h5,h6⟩:=hM;have H1:=η h1;have H2:=η h2;have H3:=η h3;have H6:=η h6;have bk:=h1.lt;have bR:¬ ((L.length:Nat):Int)=0:=by omega
  have bX:(L.length:Int)≤1000000:=by omega
  obtain ⟨i0,hi,af,ag,am⟩:=info_parts VR;clear h1 h2 h3 h4 h5 h6 h0
  go_enter Tryz.func71,Tryz.ntmps71
  go_wp2_with (first
   | (at_len; refine fA _ rfl _ _ rfl Tryz.underlying116 _ _ _ _ rfl HM.out ?_)
   | (at_make; refine wpList_make_own _ rfl _ _ 44 rfl w.heap.size 9 i0 (.string ⟨#[]⟩) 1 Tryz.underlying44 hi af ag .i64 .i64 _ L.length rfl rfl rfl (by rw [am]; omega) (by unfold maxLen; omega) ν ?_; intro w1 a0 a1)
   | (at_range; refine wpList_range_own _ rfl _ _ rfl _ _ Bc Tryz.underlying116 _ B n _ rfl (H1.out.kept a1 (by simp)) ?_; intro w0 a7 ab bl)
   | go_in)
  go_frame
  have ao:Below w.heap.size w w0:=(ϑ.grown a1 ν (fun j hj=>by cases hj)).grown ab a1.size (fun j hj=>by cases hj);have aq:Hid (aX 1 jI w.heap.size 9 w0 (.slice (some ⟨w.heap.size,0,none⟩) 0 L.length) [] [] []):=η ⟨a0.kept ab (Or.inr (by simp [Value.ownBlock])),aT.nil,fun b hb=>by simp at hb⟩;have ac:=η a7;have ar:=η ao;have bn:w.heap.size≤w1.heap.size:=a1.size;obtain ⟨r,hr⟩:∃ r,r=w1.heap.size:=⟨_,rfl⟩;have bo:w.heap.size≤r:=by omega
  rw [← hr] at ac ⊢;clear a0 a1 a7 ab bl ao bn hr
  go_loopw [3] (fun v wr=>∃ (left:Lit→Bool) (cnt:Nat) (xs:List ByteArray) (Av:Option Addr) (cp:Nat) (L2:List Value),wr.ranges Tryz.prog 9 (plainElem Tryz.prog 3) B r n M left cnt∧xs.length+cnt≤L.length∧
   v=.slice Av xs.length cp∧aX 1 jI w.heap.size 9 wr (.slice Av xs.length cp) L2 xs []∧Collected M left (xs.map (·.data.toList))∧Below w.heap.size w wr) (fun _ wr=>wr.rangeLeft B r)
  case atStart=>exact ⟨_,_,[],_,_,_,ac.out,by rw [H2.out]; simp,rfl,aq.out,Collected.start M,ar.out⟩
  case round=>
   clear aq ac ar;obtain ⟨left,cnt,xs,Av,cp,L2,av,aw,rfl,hC,a8,hB⟩:=hrel;have a2:=η av;have HC:=η hC;have I:=η a8;have HB:=η hB;have a4:=η aw;clear av hC a8 hB aw
   go_wp2_with (first
    | (at_next; refine wpList_next_ranges _ rfl _ rfl 9 Bc (plainElem Tryz.prog 3) encStr (Value.int .i64) (fun key kl hk=>by obtain ⟨x,hx,_⟩:=Maps.keyOf_str Tryz.underlying9 hk; exact ⟨x,hx⟩) (fun v y hv=>by obtain ⟨c,rfl,_⟩:=plainElem_int_inv Tryz.underlying3 hv; exact ⟨c,rfl⟩) B r n _ _ _ rfl a2.out ?_ ?_)
    | go_in)
   ·intro bp az
    have aD:Hid (∀ x,x ∈ xs ↔ x ∈ L):=η fun x=>by
     have h1:=I.out.2 x.data.toList;rw [az] at h1;have h2:=H3.out x;unfold Bf at h2;rw [h2] at h1;simp only [and_true,decide_eq_true_eq] at h1;rw [← h1,List.mem_map];exact ⟨fun h=>⟨x,h,rfl⟩,fun ⟨y,hy,e⟩=>by rw [← bytes_inj e]; exact hy⟩
    have bq:=η I.out.1;have a5:xs.length≤16777216:=by have:=a4.out; omega
    clear az bp a2 a4 I
    go_wp2_with fail
    refine (Ih xs _ L2 w.heap.size wr HC.out a5).mono ?_;rintro e U ⟨rfl,ys,aE,br,aL,J⟩;have aM:ys=nY L:=VS bq.out aD.out aE;obtain ⟨b9,aR,b1⟩:=aL.new (New.nil _ _);have B3:=iQ HB.out HC.out.own ν HB.out.size J;have HZ:Hid (Makes iF (nY L) w.heap.size w (.returned (.slice Av xs.length cp)) U):=η ⟨B3,_,b9,rfl,by rw [← aM]; exact aR,b1⟩;clear aE br aL J aM aR b1 B3;go_wp2;go_ret;exact HZ.out
   ·intro x c kl yd yp U b2 a9 b3 hv b4 a3 b5 J bt bu
    obtain ⟨x',ex,rfl,a5⟩:=Maps.keyOf_str Tryz.underlying9 a9;obtain rfl:x=x':=encStr_inj ex;obtain ⟨s,rfl⟩:∃ s:ByteArray,x=s.data.toList:=⟨⟨x.toArray⟩,rfl⟩;have b6:encStr s.data.toList=.string s:=by cases s; simp [encStr]
    rw [b6] at bu ⊢;have b7:s.size≤maxLen:=by simpa using a5
    have a6:aX 1 jI w.heap.size 9 U (.slice Av xs.length cp) L2 xs []:=⟨HC.out.own.kept J (Or.inr (row_ne_iter HC.out.own a2.out).symm),HC.out.row.keep aK fun b hb=>by simp at hb,fun b hb=>by simp at hb⟩;have ae:Below w.heap.size w U:=HB.out.grown J HB.out.size fun j hj=>by cases hj; exact bo
    have hA:Below U.heap.size U (U.alloc (.cells #[.string s] 9)):=ζ;have b8:Hid (some B ≠ (Value.slice Av xs.length cp).ownBlock∧some r ≠ (Value.slice Av xs.length cp).ownBlock):=η ⟨row_ne_low a6.own bk,row_ne_iter a6.own a3⟩;have bc:=η (a3.alloc (.cells #[.string s] 9));have bv:=η (a6.below aK hA);have bf:=η (ae.trans (hA.mono ae.size));have bw:Hid (aT 1 jI (U.alloc (.cells #[.string s] 9)) [.string s] [s] []):=η (aT.dJ jh ⟨rfl,b7,rfl⟩);have bx:Hid (Lies (U.alloc (.cells #[.string s] 9)) (some ⟨U.heap.size,0,none⟩) [.string s]):=η (by have:=aP (ω U (.cells #[.string s] 9)); simpa using this);have bz:=η (I.out.step b3 b4);have bg:=η b5;have HK:Hid (xs.length+1≤maxLen∧(xs.length+1) * 16≤140737488355328):=η (by have:=a4.out; unfold maxLen; omega);have bA:=η a2.out.left_eq;clear a6 ae hA a3 b3 b4 b5 J bt a9 hv a5 b6 b7 a2 HC I HB
    go_wp2_with (first
     | (at_builtin; refine bU rfl _ _ _ rfl w.heap.size 9 i0 (.string ⟨#[]⟩) 1 16 Tryz.underlying44 hi af ag am rfl (by omega) aK (.slice Av xs.length cp) xs.length _ _ _ rfl bv.out rfl (some ⟨U.heap.size,0,none⟩) 1 1 _ [s] _ rfl bw.out rfl bx.out (fun b hb=>by simp at hb) HK.out.1 HK.out.2 w w.heap.size bf.out ν bf.out.size ?_; intro A2 bB w3 bh bi bE bj; (have bL:=η bh); (have bO:=η bi); (have aa:=η (bc.out.kept bj b8.out.1 b8.out.2)); clear bh bi bE bj; go_frame)
     | go_in)
    go_roundw
    case rel=>exact ⟨_,b2,xs ++ [s],A2,bB,_,aa.out,by have h1:=a4.out; have h2:=bg.out; simp; omega,by simp,by rw [χ]; exact bL.out,by rw [List.map_append]; exact bz.out,bO.out⟩
    case measure=>rw [aa.out.left_eq,bA.out]; exact bg.out
theorem FU (rs:List Ru) (v:Value) (bs:List Nat) (w:World) (h:dW w [v] rs bs) (hg:oC w):
  Calls Tryz.prog 20 #[v] w (Makes iF (if eU rs=0 then nY ((aB rs).map (·.name)) else []) w.heap.size w):=by
 have c1:=sU rs v bs w h hg;have C2:=η fun w' (hb:Below w.heap.size w w') (hok:rs.all eY=true) (hf:rs.length≤8)=>sG rs v bs w' (aS.below h hb) hok hf
 clear h hg;by_cases J:eU rs=0
 ·have I:=(nO rs).1 J
  have HF:=η I;have HL:Hid ((dG (aB rs)).1.length≤1000000):=η (by have h1:=(pJ (aB rs)).2.1; have h2:=(jO I.ok).2; have:=I.few; omega);have HE:Hid (nY (dG (aB rs)).1=nY ((aB rs).map (·.name))):=η (Tn fun x=>by rw [(pJ (aB rs)).1,List.mem_map]);rw [if_pos J];rw [decide_eq_true J] at c1;clear J I
  go_enter Tryz.func20,Tryz.ntmps20
  go_wp2_with fail
  refine c1.mono ?_;rintro e w1 ⟨rfl,y⟩;clear c1
  go_wp2_with fail
  refine (C2.out _ y HF.out.ok HF.out.few).mono ?_;rintro e w2 ⟨rfl,n,hM,U⟩;have B2:=y.trans (U.mono y.size);have c3:=ql _ n _ _ w2 hM HL.out;clear hM y U C2
  go_wp2_with fail
  refine c3.mono ?_;rintro e w3 ⟨a0,v3,a3,rfl,a1,a2⟩;have HZ:Hid (Makes iF (nY ((aB rs).map (·.name))) w.heap.size w (.returned v3) w3):=η ⟨B2.trans (a0.mono B2.size),v3,a3,rfl,by rw [← HE.out]; exact a1,a2.mono B2.size⟩;clear a1 a2 a0 B2 c3;go_wp2;go_ret;exact HZ.out
 ·rw [if_neg J]
  rw [decide_eq_false J] at c1;clear J C2
  go_enter Tryz.func20,Tryz.ntmps20
  go_wp2_with fail
  refine c1.mono ?_;rintro e w1 ⟨rfl,y⟩;go_wp2;go_ret;exact ⟨y,_,[],rfl,⟨_,_,rfl,ν,ε,fun _=>rfl,fun h=>absurd rfl h⟩,New.nil _ _⟩
end
namespace D
open Go.RowKit
inductive Reach (rs:List Ru) (s:ByteArray):ByteArray→Prop
 | self:Reach rs s s
 | step {r:Ru} {p:Pt}:Reach rs s r.head.name→r ∈ rs→p ∈ r.body→Reach rs s p.atom.name
def kN (rs:List Ru):List ByteArray:=(aB rs).map (·.name)
theorem II {rs:List Ru} {r:Ru} {p:Pt} (hr:r ∈ rs) (y:p ∈ r.body):p.atom.name ∈ kN rs:=
 List.mem_map.2 ⟨p.atom,List.mem_flatMap.2 ⟨r,hr,Δ _ (List.mem_map.2 ⟨p,y,rfl⟩)⟩,rfl⟩
theorem PX {rs:List Ru} {s x:ByteArray} (h:Reach rs s x):x=s∨x ∈ kN rs:=by
 cases h with
 | self=>exact .inl rfl
 | step _ hr hp=>exact .inr (II hr hp)
open Classical in
noncomputable def needs (rs:List Ru) (s:ByteArray):List ByteArray:=nY ((s :: kN rs).filter fun x=>decide (Reach rs s x))
theorem vY {rs:List Ru} {s x:ByteArray}:x ∈ needs rs s ↔ Reach rs s x:=by
 unfold needs;rw [ny,List.mem_filter];simp only [decide_eq_true_eq];exact ⟨fun h=>h.2,fun h=>⟨(PX h).elim (fun e=>e ▸ Γ) (fun h=>Δ _ h),h⟩⟩
theorem Tq (rs:List Ru) (s:ByteArray):oZ (needs rs s):=qV _
theorem VT {rs:List Ru} {s:ByteArray} {L:List ByteArray} (h1:s ∈ L) (y:∀ x ∈ L,Reach rs s x) (I:∀ r ∈ rs,r.head.name ∈ L→∀ p ∈ r.body,p.atom.name ∈ L):∀ x,x ∈ L ↔ Reach rs s x:=fun x=>
 ⟨y x,fun h=>by
  induction h with
  | self=>exact h1
  | step _ hr hp ih=>exact I _ hr ih _ hp⟩
theorem NM {rs:List Ru} {s:ByteArray} {L:List ByteArray} (h1:s ∈ L) (y:∀ x ∈ L,Reach rs s x) (I:∀ r ∈ rs,r.head.name ∈ L→∀ p ∈ r.body,p.atom.name ∈ L):nY L=needs rs s:=
 NK (qV L) (Tq rs s) fun x=>(ny L x).trans ((VT h1 y I x).trans vY.symm)
end D
section
open Go.RowKit D
def D.wG (fs ps y:List A) (b:Bd) (left:Nat) (σ:Wo):Prop:=Ub b σ∧(∀ j (h:j < ps.length),left.testBit j=true→iC σ ps[j] ∈ fs)∧∀ n ∈ y,iC σ n ∉ fs
def D.vg (b:Bd):Prop:=∀ p ∈ b,jc p.2=true
theorem D.vk {s:ByteArray} (h:jc s=true):s ≠ ⟨#[]⟩:=by
 rintro rfl;revert h
 decide
theorem D.sW:∀ (y fs:List T) (b:Bd),∃ c,(cZ y fs b).1=b ++ c
 | [],fs,b=>by cases fs <;> exact ⟨[],by simp [cZ]⟩
 | t :: y,[],b=>⟨[],by simp [cZ]⟩
 | t :: y,f :: fs,b=>by
  rw [cZ]
  split
  ·split
   ·split
    ·exact sW y fs b
    ·exact ⟨[],by simp⟩
   ·obtain ⟨c,hc⟩:=sW y fs (b ++ [(t.name,f.name)])
    exact ⟨(t.name,f.name) :: c,by rw [hc]; simp⟩
  ·split
   ·exact sW y fs b
   ·exact ⟨[],by simp⟩
theorem D.xU (a f:A) (b:Bd):(aG a f b).1.take b.length=b:=by
 unfold aG
 split
 ·obtain ⟨c,hc⟩:=sW a.args f.args b
  rw [hc]; simp
 ·simp
theorem D.wP (a f:A) (b:Bd):b.length≤(aG a f b).1.length:=by
 have:=congrArg List.length (xU a f b);simp at this;omega
theorem D.sZ:∀ (I fs:List T) (b:Bd),vg b→(∀ f ∈ fs,jc f.name=true)→vg (cZ I fs b).1
 | [],fs,b,h,_=>by cases fs <;> simpa [cZ] using h
 | t :: I,[],b,h,_=>by simpa [cZ] using h
 | t :: I,f :: fs,b,h,hf=>by
  have y:∀ g ∈ fs,jc g.name=true:=fun g U=>hf g (Δ _ U)
  rw [cZ]
  split
  ·split
   ·split
    ·exact sZ I fs b h y
    ·exact h
   ·refine sZ I fs _ (fun p J=>?_) y
    rcases μ.1 J with J | J
    ·exact h p J
    ·rw [ώ.1 J]; exact hf f Γ
  ·split
   ·exact sZ I fs b h y
   ·exact h
theorem D.FV {a f:A} {b:Bd} (h:vg b) (hf:∀ t ∈ f.args,jc t.name=true):vg (aG a f b).1:=by
 unfold aG
 split
 ·exact sZ _ _ _ h hf
 ·exact h
structure D.aW (f:A):Prop where
 ok:aZ f=true
 gr:Gr f
theorem D.aW.names {f:A} (h:aW f):∀ t ∈ f.args,t.var=false∧jc t.name=true:=fun t y=>by
 have h0:=h.ok;unfold aZ at h0;simp only [ο,decide_eq_true_eq,ό] at h0;have h1:=h0.2 t y;have I:=h.gr t y;unfold jv at h1;rw [I] at h1;exact ⟨I,by simpa using h1⟩
theorem D.vZ {a:A} (ha:aZ a=true) {b:Bd} (J:vg b) (hc:yO b a.args):aW (cO a b):=by
 have h0:=ha;unfold aZ at h0;simp only [ο,decide_eq_true_eq,ό] at h0;refine ⟨?_,sD (jB b) a⟩;unfold aZ cO;simp only [ο,decide_eq_true_eq,ό,List.length_map];refine ⟨h0.1,fun t U=>?_⟩;obtain ⟨u,y,rfl⟩:=List.mem_map.1 U;have h1:=h0.2 u y;unfold jv at *;unfold dO;cases hv:u.var
 ·simpa [hv] using h1
 ·obtain ⟨v,I⟩:=Option.isSome_iff_exists.1 (hc u y hv)
  simp only [if_true,jB,I,Option.getD_some];exact J _ (yY I)
theorem D.zu {fs:List A} (hf:∀ f ∈ fs,aW f) {a:A} (ha:aW a):decide (eX a ∈ fs.map eX)=true ↔ a ∈ fs:=by
 rw [decide_eq_true_eq,List.mem_map];constructor
 ·rintro ⟨f,h1,y⟩
  rw [← BF (hf f h1).ok ha.ok y]; exact h1
 ·exact fun h=>⟨a,h,rfl⟩
theorem D.JM {vars:List ByteArray} (hv:kC vars) {b:Bd} (hb:jZ vars b) {ts:List T} (hin:∀ t ∈ ts,t.var=true→t.name ∈ vars):
  yO b ts ↔ ∀ i,i < 12→gX vars ts i=true→JZ vars b i ≠ ⟨#[]⟩:=by
 constructor
 ·intro hc i _ hw
  unfold gX at hw;obtain ⟨t,y,h2⟩:=List.any_eq_true.1 hw;simp only [ο,beq_iff_eq] at h2;obtain ⟨h3,rfl⟩:=h2;have I:=List.idxOf_lt_length_of_mem (hin t y h3);obtain ⟨v,U⟩:=Option.isSome_iff_exists.1 (hc t y h3);unfold JZ;rw [dif_pos I];have e:vars[vars.idxOf t.name]=t.name:=List.getElem_idxOf I;rw [e];intro e2;rw [(hb.qQ _).1 e2] at U;cases U
 ·intro h t y J
  have hm:=hin t y J;have I:=List.idxOf_lt_length_of_mem hm;have a0:=hv.few;have h1:=h (vars.idxOf t.name) (by omega) (List.any_eq_true.2 ⟨t,y,by simp [J]⟩);unfold JZ at h1;rw [dif_pos I] at h1;have e:vars[vars.idxOf t.name]=t.name:=List.getElem_idxOf I;rw [e] at h1
  cases U:gI b t.name with
  | some v=>rfl
  | none=>exact absurd ((hb.qQ _).2 U) h1
def D.NP (vars:List ByteArray) (head:A) (y:List A) (i:Nat):Bool:=gX vars head.args i || y.any fun n=>gX vars n.args i
theorem D.vw {vars:List ByteArray} (hv:kC vars) {b:Bd} (hb:jZ vars b) {head:A} {ns:List A} {wt:Nat→Bool} (J:∀ i,i < 12→wt i=NP vars head ns i) (hh:∀ t ∈ head.args,t.var=true→t.name ∈ vars) (hn:∀ n ∈ ns,∀ t ∈ n.args,t.var=true→t.name ∈ vars):
  setB vars b wt=true ↔ yO b head.args∧∀ n ∈ ns,yO b n.args:=by
 rw [FH,JM hv hb hh];constructor
 ·intro h
  refine ⟨fun i I U=>h i I (by rw [J i I]; unfold NP; rw [U]; rfl),fun n y=>(JM hv hb (hn n y)).2 fun i I U=>h i I (by rw [J i I]; unfold NP; rw [List.any_eq_true.2 ⟨n,y,U⟩]; simp)⟩
 ·rintro ⟨h1,h2⟩ i I U
  rw [J i I] at U;unfold NP at U
  rcases Bool.or_eq_true_iff.1 U with h | h
  ·exact h1 i I h
  ·obtain ⟨n,y,h3⟩:=List.any_eq_true.1 h
   exact (JM hv hb (hn n y)).1 (h2 n y) i I h3
theorem D.IJ (l i:Nat) (y:l < 16) (I:i < 4) (h:l.testBit i=true):bits .andNot .i64 (l:Int) (wrap64 (2 ^ i))=((l - 2 ^ i:Nat):Int):=by
 have H:∀ l:Nat,l < 16→∀ i:Nat,i < 4→l.testBit i=true→bits .andNot .i64 (l:Int) (wrap64 (2 ^ i))=((l - 2 ^ i:Nat):Int):=by decide +kernel
 exact H l y i I h
theorem D.zA (l i j:Nat) (y:l < 16) (I:i < 4) (J:j < 4) (h:l.testBit i=true):(l - 2 ^ i).testBit j=(l.testBit j && decide (j ≠ i)):=by
 have H:∀ l:Nat,l < 16→∀ i:Nat,i < 4→∀ j:Nat,j < 4→l.testBit i=true→(l - 2 ^ i).testBit j=(l.testBit j && decide (j ≠ i)):=by decide +kernel
 exact H l y i I j J h
theorem D.QD (l i:Nat) (y:l < 16) (I:i < 4) (h:l.testBit i=true):l - 2 ^ i < l:=by
 have H:∀ l:Nat,l < 16→∀ i:Nat,i < 4→l.testBit i=true→l - 2 ^ i < l:=by decide +kernel
 exact H l y i I h
theorem D.VU (l n:Nat) (y:l < 2 ^ n) (hn:n≤4) (h:l ≠ 0):∃ j,j < n∧l.testBit j=true:=by
 have H:∀ n:Nat,n < 5→∀ l:Nat,l < 2 ^ n→l ≠ 0→∃ j,j < n∧l.testBit j=true:=by decide +kernel
 exact H n (by omega) l y h
theorem D.wG.step {fs ps I:List A} {b:Bd} {left m:Nat} {σ:Wo} {f:A} (J:left < 16) (U:ps.length≤4) (hm:m < ps.length) (y:left.testBit m=true) (h:wG fs ps I b left σ) (he:iC σ ps[m]=f):
  (aG ps[m] f b).2=true∧wG fs ps I (aG ps[m] f b).1 (left - 2 ^ m) σ:=by
 obtain ⟨h1,h2,h3⟩:=h;obtain ⟨g1,g2⟩:=oJ h1 he;refine ⟨g1,g2,fun j hj hb=>h2 j hj ?_,h3⟩;rw [zA left m j J (by omega) (by omega) y] at hb;exact (Bool.and_eq_true_iff.1 hb).1
theorem D.wG.back {fs ps U:List A} {b:Bd} {left m:Nat} {σ:Wo} {f:A} (hl:left < 16) (a0:ps.length≤4) (hm:m < ps.length) (y:left.testBit m=true) (hf:f ∈ fs) (I:Gr f) (J:(aG ps[m] f b).2=true) (h:wG fs ps U (aG ps[m] f b).1 (left - 2 ^ m) σ):
  wG fs ps U b left σ:=by
 obtain ⟨h1,h2,h3⟩:=h;obtain ⟨g1,g2⟩:=nS I J;refine ⟨h1.of_le (oQ _ _ _),fun j hj hb=>?_,h3⟩;by_cases e:j=m
 ·subst e
  rw [← kR g1 h1,g2]; exact hf
 ·refine h2 j hj ?_
  rw [zA left m j hl (by omega) (by omega) y,hb];simpa using e
def D.VW (y:List A):List ByteArray:=nY (y.map (·.name))
def D.BJ (rs:List Ru):List ByteArray:=if eU rs=0 then VW (aB rs) else []
theorem DX (rs:List Ru) (v:Value) (bs:List Nat) (w:World) (h:dW w [v] rs bs) (y:oC w):
 Calls Tryz.prog 20 #[v] w (Makes iF (BJ rs) w.heap.size w):=FU rs v bs w h y
end
end Go.Proofs.YtkjinanbccloeaaGreatDoor
