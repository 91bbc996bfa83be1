/- Of the proof of FnExactProofOk: ChoI, HinI, Fit, FlwP. -/
import Derived.Test.YtlmngncogomgeaaGreatDoorM32
set_option linter.unusedVariables false
set_option maxHeartbeats 4000000
set_option maxRecDepth 100000
namespace Go.Proofs.YtlmngncogomgeaaGreatDoor
section
open Go.RowKit D
attribute [local go_sem ↓] Go.wp_at_zero Go.wp_at_succ
theorem D.RY (l i:Nat) (y:l < 16) (hi:i < 4):(bits .and .i64 (l:Int) (wrap64 (2 ^ i)) == 0) = !l.testBit i:=by
 have h:∀ l:Nat,l < 16→∀ i:Nat,i < 4→(bits .and .i64 (l:Int) (wrap64 (2 ^ i)) == 0) = !l.testBit i:=by decide +kernel
 exact h l y i hi
structure D.vO (fs ps:List A) (b:Bd) (bs:List Nat) (left m:Nat) (A9:Option Addr) (c9:Nat) (key:WK) (bx:List Nat) (w:World):Prop where
 lt:m < ps.length
 bit:left.testBit m=true
 row:jf w [.slice A9 (idxs fs key).length c9] (idxs fs key) bx
 sub:∀ x ∈ bx,x ∈ bs
 key_:∀ p,ps[m]? = some p→∀ f,Gr f→(aC p f b).2=true→key ∈ keysOf f
theorem D.vO.below {fs ps:List A} {b:Bd} {I:List Nat} {left m:Nat} {J:Option Addr} {U:Nat} {y:WK} {bx:List Nat} {w w':World} (h:vO fs ps b I left m J U y bx w) (hb:Below w.heap.size w w'):vO fs ps b I left m J U y bx w':=
 ⟨h.lt,h.bit,dG.below h.row hb,h.sub,h.key_⟩
theorem ML (vars:List ByteArray) (hv:ji vars) (b:Bd) (fs:List A) (rn:List Nat) (bs:List Nat) (ps:List A) (Ap:Option Addr) (cp:Nat) (bp:List Nat) (sk sb:Nat) (v2:Value) (wt:Nat→Bool) (ah:Int) (tell:Value) (left:Nat) (w:World)
  (h:kP sk sb (.slice Ap ps.length cp) v2 wt false ah tell w) (hb:fQ vars b sk 18 w) (aq:jO sb fs rn bs w) (ar:kK vars w [.slice Ap ps.length cp] ps bp) (hin:∀ p ∈ ps,∀ t ∈ p.args,t.var=true→t.name ∈ vars) (av:∀ p ∈ ps,p.args.length≤1000000) (b7:ps.length≤4) (aw:left < 16) (am:fs.length≤1000000)
  (a7:∃ j,j < ps.length∧left.testBit j=true):
  Calls Tryz.prog 260 #[.pointer (some ⟨sk,0,none⟩),.int .i64 left] w fun e w'=>∃ m A9 c9 I bx,e=.returned (.tuple #[.int .i64 (m:Nat),.slice A9 (idxs fs I).length c9])∧vO fs ps b bs left m A9 c9 I bx w'∧Below w.heap.size w w':=by
 have a8:=h.lt;have y0:=h.p1;have HX:=η (ι h (ι hb (ι aq (ι ar (ι hin (ι av a7))))));clear h hb aq ar hin av a7
 go_enter Tryz.func260,Tryz.ntmps260
 go_wp2
 go_loopw [6,7,17] (fun best list i wr=>∃ (k:Nat),k≤ps.length∧i=.int .i64 k∧Below w.heap.size w wr∧
  ((best=.int .i64 (-1)∧list=.slice none 0 0∧∀ j,j < k→left.testBit j=false)∨∃ m A9 c9 I bx,best=.int .i64 (m:Nat)∧list=.slice A9 (idxs fs I).length c9∧vO fs ps b bs left m A9 c9 I bx wr)) (fun _ _ i _=>ps.length - (intOf i).toNat)
 case atStart=>exact ⟨0,ε,rfl,ϑ,.inl ⟨rfl,rfl,fun j hj=>by omega⟩⟩
 case round=>
  obtain ⟨k,hk,rfl,J,halt⟩:=hrel;by_cases a1:k < ps.length
  ·obtain ⟨bq,oq,Ae,ce,bk,rfl,_,f0,f1,⟨vv,az,aD,ao⟩,_⟩:=qj ((aX vars).below HX.out.2.2.2.1 J) a1
   simp only [List.cons.injEq,and_true,true_and] at az;subst az;have b8:(0:Int)≤(k:Int):=by omega
   have b3:(k:Int) < (ps.length:Int):=by omega
   have b9:(k:Int) < 4:=by omega
   have ag:=RY left k aw (by omega);have a9:Below wr.heap.size wr (wr.alloc (.cells #[.string ps[k].name,.slice Ae ps[k].args.length ce] 143)):=ζ;have a2:=J.trans (a9.mono J.size);have U:=η a1;have aE:=η a9;have aa:=η a2;have a5:=η halt;cases htb:left.testBit k
   ·rw [htb] at ag
    have ap:=η htb;clear a9 a2 aD ao J htb hk halt;simp only [Bool.not_false] at ag;generalize ps[k].name=pn at *;generalize ps[k].args.length=pl at *;clear a1;go_wp2;go_roundw
    case rel=>
     refine ⟨k+1,U.out,by go_num,aa.out,?_⟩
     rcases a5.out with ⟨h1,h2,h3⟩ | ⟨m,A9,c9,I,bx,h1,h2,h3⟩
     ·refine .inl ⟨h1,h2,fun j hj=>?_⟩
      rcases Nat.lt_succ_iff_lt_or_eq.1 hj with h | rfl
      ·exact h3 j h
      ·exact ap.out
     ·exact .inr ⟨m,A9,c9,I,bx,h1,h2,h3.below aE.out⟩
    case measure=>have:=U.out; simp [intOf]; omega
   ·rw [htb] at ag
    have b6:sk < (wr.alloc (.cells #[.string ps[k].name,.slice Ae ps[k].args.length ce] 143)).heap.size:=κ a8 a2.size;have HC:=η (Dn vars hv b sb fs rn bs ps[k] Ae ce bk sk 18 (wr.alloc (.cells #[.string ps[k].name,.slice Ae ps[k].args.length ce] 143)).drew (HX.out.2.2.1.below a2.drew) (HX.out.2.1.keep (a2.drew.block _ a8)) ((bU vars).below ao a9.drew) (HX.out.2.2.2.2.1 _ (δ a1)) (HX.out.2.2.2.2.2.1 _ (δ a1)) am);have s0:(wr.alloc (.cells #[.string ps[k].name,.slice Ae ps[k].args.length ce] 143)).cell? ⟨sk,0,none⟩=some (.pointer (some ⟨sb,0,none⟩)):=(HX.out.1.keep (a2.block _ a8)).st;have z0:(wr.alloc (.cells #[.string ps[k].name,.slice Ae ps[k].args.length ce] 143)).cell? ⟨wr.heap.size,0,none⟩=some (.string ps[k].name):=by go_simp
    have z1:(wr.alloc (.cells #[.string ps[k].name,.slice Ae ps[k].args.length ce] 143)).cell? ⟨wr.heap.size,1,none⟩=some (.slice Ae ps[k].args.length ce):=by go_simp
    have aL:Hid (∀ p,ps[k]? = some p→p=ps[k]):=η fun p hp=>by rw [Ψ a1] at hp; exact (Option.some.inj hp).symm
    have ap:=η htb;clear a9 a2 aD ao J htb hk halt;simp only [Bool.not_true] at ag;generalize ps[k]=p at *;clear a1;obtain ⟨pn,a3⟩:=p;dsimp only at *
    have aM:∀ (y:WK) (a4:List Nat) (A8:Option Addr) (c8:Nat) (w8:World),jf w8 [.slice A8 (idxs fs y).length c8] (idxs fs y) a4→(∀ x ∈ a4,x ∈ bs)→(∀ f,Gr f→(aC ⟨pn,a3⟩ f b).2=true→y ∈ keysOf f)→vO fs ps b bs left k A8 c8 y a4 w8:=
     fun _ _ _ _ _ h1 h2 h3=>⟨U.out,ap.out,h1,h2,fun p hp=>by rw [aL.out p hp]; exact h3⟩
    have aR:=η aM;clear aM aL
    rcases a5.out with ⟨rfl,rfl,_⟩ | ⟨m,A9,c9,I,bx,rfl,rfl,h3⟩
    ·clear a5
     go_wp2;generalize wr.alloc (.cells #[.string pn,.slice Ae a3.length ce] 143)=W1 at *
     go_region_law
      (first
       | (go_simp; go_at_call 275; refine HC.out.mono ?_; rintro e w2 ⟨A8,c8,y,a4,rfl,ab,ac,ae,af⟩; have a0:=η ((Below.refl W1.heap.size W1).drew.trans af); replace s0:=ξ a0.out s0; have H8:=η (aR.out _ _ _ _ _ ab ac ae); clear ab ac ae af))
     all_goals
      have a6:=η (aa.out.trans (a0.out.mono aa.out.size));have q9:=(HX.out.1.keep (a6.out.block _ a8)).io;clear s0 z0 z1 HC a0;go_wp2;go_roundw
      case rel=>exact ⟨k+1,U.out,by go_num,a6.out,.inr ⟨k,A8,c8,y,a4,rfl,rfl,H8.out⟩⟩
      case measure=>have:=U.out; simp [intOf]; omega
    ·have bc:¬ ((m:Nat):Int) < 0:=by omega
     have H3:=η h3;clear a5 h3;go_wp2;generalize wr.alloc (.cells #[.string pn,.slice Ae a3.length ce] 143)=W1 at *
     go_region_law
      (first
       | (go_simp; go_at_call 275; refine HC.out.mono ?_; rintro e w2 ⟨A8,c8,y,a4,rfl,ab,ac,ae,af⟩; have a0:=η ((Below.refl W1.heap.size W1).drew.trans af); replace s0:=ξ a0.out s0; have H8:=η (aR.out _ _ _ _ _ ab ac ae); clear ab ac ae af))
     all_goals
      have a6:=η (aa.out.trans (a0.out.mono aa.out.size));have q9:=(HX.out.1.keep (a6.out.block _ a8)).io;have H4:=η ((H3.out.below aE.out).below a0.out);have bf:(idxs fs y).length≤1000000:=τ (lK _ _) am;have bg:(idxs fs I).length≤1000000:=τ (lK _ _) am;clear s0 z0 z1 HC a0 H3;by_cases hc:(idxs fs y).length < (idxs fs I).length
      ·have b4:((idxs fs y).length:Int) < ((idxs fs I).length:Int):=by omega
       go_wp2;go_roundw
       case rel=>exact ⟨k+1,U.out,by go_num,a6.out,.inr ⟨k,A8,c8,y,a4,rfl,rfl,H8.out⟩⟩
       case measure=>have:=U.out; simp [intOf]; omega
      ·have b4:¬ ((idxs fs y).length:Int) < ((idxs fs I).length:Int):=by omega
       go_wp2;go_roundw
       case rel=>exact ⟨k+1,U.out,by go_num,a6.out,.inr ⟨m,A9,c9,I,bx,rfl,rfl,H4.out⟩⟩
       case measure=>have:=U.out; simp [intOf]; omega
  ·have he:k=ps.length:=by omega
   subst he;have b3:¬ (ps.length:Int) < (ps.length:Int):=by omega
   rcases halt with ⟨rfl,rfl,h3⟩ | ⟨m,A9,c9,I,bx,rfl,rfl,h3⟩
   ·obtain ⟨j,b5,b1⟩:=HX.out.2.2.2.2.2.2
    rw [h3 j b5] at b1;cases b1
   ·have HP:=η (ι h3 J)
    clear h3 J;go_wp2;go_ret2;exact ⟨m,A9,c9,I,rfl,⟨bx,HP.out.1⟩,HP.out.2⟩
def D.xO (fs:List A) (y:List A) (b:Bd):Bool:=y.any fun n=>decide (dM (aY n b) ∈ fs.map dM)
theorem D.O8 (fs y:List A) (b:Bd) (k:Nat) (h:k < y.length):xO fs (y.take (k+1)) b=(xO fs (y.take k) b || decide (dM (aY y[k] b) ∈ fs.map dM)):=by
 unfold xO;rw [ρ h,List.any_append];simp
theorem D.UE {fs y:List A} {b:Bd} {k:Nat} (h:k < y.length) (I:decide (dM (aY y[k] b) ∈ fs.map dM)=true):xO fs y b=true:=List.any_eq_true.2 ⟨y[k],δ h,I⟩
theorem qw (vars:List ByteArray) (hv:ji vars) (b:Bd) (aE:iW vars b) (fs:List A) (rn:List Nat) (bs:List Nat) (y:List A) (An:Option Addr) (cn:Nat) (bn:List Nat) (sk sb:Nat) (v1:Value) (wt:Nat→Bool) (io:Bool) (ah:Int) (tell:Value) (w:World)
  (h:kP sk sb v1 (.slice An y.length cn) wt io ah tell w) (hb:fQ vars b sk 18 w) (ap:jO sb fs rn bs w) (aq:kK vars w [.slice An y.length cn] y bn) (hin:∀ n ∈ y,∀ t ∈ n.args,t.var=true→t.name ∈ vars) (hok:∀ n ∈ y,aZ (aY n b)=true) (b1:y.length≤1000000):
  Calls Tryz.prog 259 #[.pointer (some ⟨sk,0,none⟩)] w fun e w'=>e=.returned (.bool (xO fs y b))∧Below w.heap.size w w':=by
 have ae:=h.lt;have y0:=h.p2;have HX:=η (ι h (ι hb (ι ap (ι aq (ι hin hok)))));clear h hb ap aq hin hok
 go_enter Tryz.func259,Tryz.ntmps259
 go_wp2
 go_loopw [11] (fun i wr=>∃ (k:Nat),k≤y.length∧i=.int .i64 k∧xO fs (y.take k) b=false∧Below w.heap.size w wr) (fun i _=>y.length - (intOf i).toNat)
 case atStart=>exact ⟨0,ε,rfl,by simp [xO],ϑ⟩
 case round=>
  obtain ⟨k,hk,rfl,a3,U⟩:=hrel;by_cases a0:k < y.length
  ·obtain ⟨bq,oq,Ae,ce,bk,rfl,_,f0,f1,⟨vv,ar,av,aw⟩,_⟩:=qj ((aX vars).below HX.out.2.2.2.1 U) a0
   simp only [List.cons.injEq,and_true,true_and] at ar;subst ar;have b3:(0:Int)≤(k:Int):=by omega
   have aL:(k:Int) < (y.length:Int):=by omega
   have af:=O8 fs y b k a0;rw [a3,Bool.false_or] at af;have aM:=η af;have aR:=η (fun hd=>UE (fs:=fs) (b:=b) a0 hd)
   have az:y[k].args.length≤1000000:=by
    have h9:=HX.out.2.2.2.2.2 _ (δ a0);unfold aZ at h9;simp only [ο,decide_eq_true_eq] at h9;have:=h9.1.2;simp [aY] at this; omega
   have ag:Below wr.heap.size wr (wr.alloc (.cells #[.string y[k].name,.slice Ae y[k].args.length ce] 143)):=ζ;have a2:=U.trans (ag.mono U.size);have a1:sk < (wr.alloc (.cells #[.string y[k].name,.slice Ae y[k].args.length ce] 143)).heap.size:=κ ae a2.size;have HF:=η (Dk vars hv b aE y[k] Ae ce bk sk 18 (wr.alloc (.cells #[.string y[k].name,.slice Ae y[k].args.length ce] 143)).drew ((HX.out.2.1.keep (a2.block _ ae)).keep rfl) av ((bU vars).below aw (ag.drew)) (HX.out.2.2.2.2.1 _ (δ a0)) az);have aa:=η (HX.out.2.2.2.2.2 _ (δ a0));have ab:=η (HX.out.2.2.1.below a2);have ac:=η a2;have s0:(wr.alloc (.cells #[.string y[k].name,.slice Ae y[k].args.length ce] 143)).cell? ⟨sk,0,none⟩=some (.pointer (some ⟨sb,0,none⟩)):=(HX.out.1.keep (a2.block _ ae)).st;have z0:(wr.alloc (.cells #[.string y[k].name,.slice Ae y[k].args.length ce] 143)).cell? ⟨wr.heap.size,0,none⟩=some (.string y[k].name):=by go_simp
   have z1:(wr.alloc (.cells #[.string y[k].name,.slice Ae y[k].args.length ce] 143)).cell? ⟨wr.heap.size,1,none⟩=some (.slice Ae y[k].args.length ce):=by go_simp
   have aD:=η a0;clear a3 U hk ag a2 av aw af az;generalize y[k]=n at *;clear a0;obtain ⟨nn,J⟩:=n;dsimp only at *;generalize hr:decide (dM (aY ⟨nn,J⟩ b) ∈ fs.map dM)=r at *;have HR:=η hr;clear hr;cases r
   ·go_wp2
    generalize wr.alloc (.cells #[.string nn,.slice Ae J.length ce] 143)=W1 at *
    go_region_law
     (first
      | (go_simp; go_at_call 87; refine HF.out.mono ?_; rintro e w2 ⟨v9,b9,rfl,a4,a5,am⟩; have I:=η ((Below.refl W1.heap.size W1).drew.trans a4); replace s0:=ξ I.out s0; replace a1:=κ a1 I.out.size; have a6:=yR sb fs rn bs (aY ⟨nn,J⟩ b) (.string nn) v9 b9 w2 (ab.out.below I.out) a5 aa.out; have a7:=η a6; clear a4 a5 am a6)
      | (go_simp; go_at_call 65; refine a7.out.mono ?_; rintro e w3 ⟨rfl,a8⟩; have a9:=η (I.out.trans (a8.mono I.out.size)); rw [HR.out]; clear a8))
    all_goals
     have ao:=η (ac.out.trans (a9.out.mono ac.out.size));clear s0 z0 z1 HF a7 I a9 ab aa;go_wp2;go_roundw
     case rel=>exact ⟨k+1,aD.out,by go_num,aM.out,ao.out⟩
     case measure=>have:=aD.out; simp [intOf]; omega
   ·go_wp2
    generalize wr.alloc (.cells #[.string nn,.slice Ae J.length ce] 143)=W1 at *
    go_region_law
     (first
      | (go_simp; go_at_call 87; refine HF.out.mono ?_; rintro e w2 ⟨v9,b9,rfl,a4,a5,am⟩; have I:=η ((Below.refl W1.heap.size W1).drew.trans a4); replace s0:=ξ I.out s0; replace a1:=κ a1 I.out.size; have a6:=yR sb fs rn bs (aY ⟨nn,J⟩ b) (.string nn) v9 b9 w2 (ab.out.below I.out) a5 aa.out; have a7:=η a6; clear a4 a5 am a6)
      | (go_simp; go_at_call 65; refine a7.out.mono ?_; rintro e w3 ⟨rfl,a8⟩; have a9:=η (I.out.trans (a8.mono I.out.size)); rw [HR.out]; clear a8))
    all_goals
     have ao:=η (ac.out.trans (a9.out.mono ac.out.size));clear s0 z0 z1 HF a7 I a9 ab aa;go_wp2;go_ret;rw [aR.out (by trivial)];exact ⟨rfl,ao.out⟩
  ·have he:k=y.length:=by omega
   have aL:¬ (k:Int) < (y.length:Int):=by omega
   rw [ϕ (Nat.le_of_eq he.symm)] at a3;have HP:=η (ι a3 U);clear a3 U;go_wp2;go_ret;rw [HP.out.1];exact ⟨rfl,HP.out.2⟩
theorem D.UF {y:List A} (h:jC y=true) (x:A):OT y x=(!decide (x.name ∈ (dH y).1) || decide ((dH y).2.1 x.name=x.args.length)):=by
 obtain ⟨i1,_,i2,_⟩:=wS y;rw [Bool.eq_iff_iff];unfold OT;simp only [ό,Bool.or_eq_true,Bool.not_eq_true',decide_eq_false_iff_not,decide_eq_true_eq];constructor
 ·intro hc
  by_cases hm:x.name ∈ (dH y).1
  ·obtain ⟨a,ha,e⟩:=(i1 _).1 hm
   have h1:=hc a ha;have I:=Io h ha;rw [e] at I;unfold clash at h1;rw [decide_eq_true e,Bool.true_and,decide_eq_false_iff_not,Classical.not_not] at h1;exact .inr (by rw [I,h1])
  ·exact .inl hm
 ·intro hc a ha
  unfold clash;by_cases e:a.name=x.name
  ·have hm:x.name ∈ (dH y).1:=(i1 _).2 ⟨a,ha,e⟩
   have h1:=hc.resolve_left fun h=>h hm
   have I:=Io h ha;rw [e,h1] at I;have:a.args.length=x.args.length:=by exact_mod_cast I.symm
   simp [this]
  ·simp [e]
theorem Gt (a:A) (c0 c1:Value) (bs:List Nat) (w:World) (B n:Nat) (L:List ByteArray) (f:ByteArray→Int) (h:aP w [c0,c1] a bs) (hM:gQ B n L f w) (hf:∀ s ∈ L,0≤f s∧f s≤1000000):
  Calls Tryz.prog 206 #[.map (some B),.agg #[c0,c1]] w fun e w'=>e=.returned (.bool (!decide (a.name ∈ L) || decide (f a.name=a.args.length)))∧Below w.heap.size w w':=by
 obtain ⟨s,U,a0,ht⟩:=h;simp only [List.cons.injEq,and_true] at U;obtain ⟨rfl,rfl⟩:=U;obtain ⟨Ad,cap,rfl,hl,hm⟩:=ai ht;have a1:=ay (τ hl hm);obtain ⟨nm,args⟩:=a;dsimp only at *;have hA:Below w.heap.size w (w.alloc (.cells #[.string nm,.slice Ad args.length cap] 40)):=ζ;have HM:=η (hM.below hA hM.lt);have y:=η a0;clear hl hm ht hM a0;by_cases I:nm ∈ L
 ·have J:Hid (decide (nm ∈ L)=true):=η (decide_eq_true I)
  have hr:=hf nm I;obtain ⟨v,hv⟩:∃ v,f nm=v:=⟨_,rfl⟩;have HV:Hid ((if nm ∈ L then f nm else 0)=v):=η ((if_pos I).trans hv);rw [hv] at hr ⊢;clear hv hf I;by_cases he:v=args.length
  ·have HZ:Hid ((!decide (nm ∈ L) || decide (v=(args.length:Int)))=true):=η (by rw [J.out,decide_eq_true he]; rfl)
   subst he
   go_enter Tryz.func206,Tryz.ntmps206
   go_wp2_with (first | (at_lookup; refine dA _ rfl _ _ _ rfl Tryz.underlying112 _ _ _ _ rfl HM.out nm rfl y.out true J.out _ HV.out ?_) | go_in)
   go_ret;exact ⟨rfl,hA⟩
  ·have HZ:Hid ((!decide (nm ∈ L) || decide (v=(args.length:Int)))=false):=η (by rw [J.out,decide_eq_false he]; rfl)
   go_enter Tryz.func206,Tryz.ntmps206
   go_wp2_with (first | (at_lookup; refine dA _ rfl _ _ _ rfl Tryz.underlying112 _ _ _ _ rfl HM.out nm rfl y.out true J.out _ HV.out ?_) | go_in)
   go_ret;exact ⟨aA (by rw [HZ.out]; first | rfl | exact beq_eq_false_iff_ne.2 he),hA⟩
 ·have J:Hid (decide (nm ∈ L)=false):=η (decide_eq_false I)
  have HV:Hid ((if nm ∈ L then f nm else 0)=0):=η (if_neg I);have HZ:Hid ((!decide (nm ∈ L) || decide (f nm=(args.length:Int)))=true):=η (by rw [J.out]; rfl);clear hf I
  go_enter Tryz.func206,Tryz.ntmps206
  go_wp2_with (first | (at_lookup; refine dA _ rfl _ _ _ rfl Tryz.underlying112 _ _ _ _ rfl HM.out nm rfl y.out false J.out _ HV.out ?_) | go_in)
  go_ret;exact ⟨aA (by rw [HZ.out]),hA⟩
theorem DR (rs:List Ru) (xs:List A) (v1 v2:Value) (b1 b2:List Nat) (w:World) (h:dD w [v1] rs b1) (h2:aQ w [v2] xs b2) (hg:oV w):
  Calls Tryz.prog 164 #[v1,v2] w fun e w'=>e=.returned (.bool (jg rs xs))∧Below w.heap.size w w':=by
 have c1:=Gs rs v1 b1 w h hg;have C2:=η fun w' (hb:Below w.heap.size w w')=>Gn xs v2 b2 w' (au.below h2 hb)
 have C3:=η fun w' (hb:Below w.heap.size w w') (hok:rs.all dS=true) (hf:rs.length≤8)=>CS rs v1 b1 w' (aI.below h hb) hok hf
 obtain ⟨ag,cap2,rfl,a2,a3⟩:=ai h2;have am:=ay (τ a2 a3);clear h hg a2 a3;by_cases hp:eH rs=0
 ·have a4:=(oP rs).1 hp
  have HF:=η a4;have HZ:Hid (jg rs xs=(lT xs && rE (aH rs) xs)):=η (by unfold jg; rw [decide_eq_true hp,Bool.true_and]);rw [decide_eq_true hp] at c1;clear hp a4
  go_enter Tryz.func164,Tryz.ntmps164
  go_wp2_with fail
  refine c1.mono ?_;rintro e w1 ⟨rfl,I⟩;clear c1
  go_wp2_with fail
  refine (C2.out _ I).mono ?_;rintro e w2 ⟨rfl,a5⟩;have B2:=I.trans (a5.mono I.size);clear C2 I a5;cases hx:lT xs
  ·have a1:Hid (jg rs xs=false):=η (by rw [HZ.out,hx]; rfl)
   clear HZ hx C3;go_wp2;go_ret;exact ⟨aA a1.out.symm,B2⟩
  ·have a1:Hid (jg rs xs=rE (aH rs) xs):=η (by rw [HZ.out,hx,Bool.true_and])
   clear HZ hx
   go_wp2_with fail
   refine (C3.out _ B2 HF.out.ok HF.out.few).mono ?_;rintro e w3 ⟨rfl,n,hM,a6⟩;have B3:=B2.trans (a6.mono B2.size);have HM:=η hM;have aa:=η (zJ HF.out.ok HF.out.few (xs:=aH rs) fun a h=>h);have ab:=η (UF HF.out.alike);have af:w2.heap.size < w3.heap.size:=hM.lt;clear hM C3 a6;generalize aH rs=az at *;go_wp2
   go_loopw [24] (fun i wr=>∃ k:Nat,k≤xs.length∧i=.int .i64 k∧rE az (xs.take k)=true∧gQ w2.heap.size n (dH az).1 (dH az).2.1 wr∧Below w.heap.size w wr) (fun i _=>xs.length - (intOf i).toNat)
   case atStart=>exact ⟨0,ε,rfl,rfl,HM.out,B3⟩
   case round=>
    clear HM;obtain ⟨k,hk,rfl,y,hM,hb⟩:=hrel;by_cases J:k < xs.length
    ·obtain ⟨b,o,Ae,ce,bk,rfl,_,d0,d1,a7,_⟩:=dQ (au.below h2 hb) J
     have ao:(0:Int)≤(k:Int):=by omega
     have ac:(k:Int) < (xs.length:Int):=by omega
     have hA:Below wr.heap.size wr (wr.alloc (.cells #[.string xs[k].name,.slice Ae xs[k].args.length ce] 40)):=ζ;have c4:=Gt xs[k] _ _ bk _ _ n _ _ (ak.below a7 hA) (hM.below hA hM.lt) aa.out;rw [← ab.out xs[k]] at c4;have HS:=η (Jj az xs k J y);have U:=η (NC az xs k J);have HM:=η (hM.below hA hM.lt);have HB:=η (hb.trans (hA.mono hb.size));clear h2 a7 hA y hM hb;have a8:=η J;generalize xs[k]=x at *;clear J;obtain ⟨xn,xa⟩:=x;dsimp only at *
     go_wp2_with fail
     refine c4.mono ?_;rintro e w5 ⟨rfl,a9⟩;have B5:=HB.out.trans (a9.mono HB.out.size);have ae:=η (HM.out.below a9 HM.out.lt);clear c4 HM HB;cases hf:OT az ⟨xn,xa⟩
     ·have a0:Hid (jg rs xs=false):=η (by rw [a1.out]; exact U.out hf)
      clear hf HS U;go_wp2;go_ret;exact ⟨aA a0.out.symm,B5⟩
     ·have a0:=η (HS.out.trans hf)
      clear hf HS U;go_wp2;go_roundw
      case rel=>exact ⟨k+1,a8.out,by go_num,a0.out,ae.out,B5⟩
      case measure=>have:=a8.out; simp [intOf]; omega
    ·have he:k=xs.length:=by omega
     have ac:¬ (k:Int) < (xs.length:Int):=by omega
     have a0:Hid (jg rs xs=true):=η (by rw [a1.out]; rw [he,ϕ ν] at y; exact y);clear he y hM h2;go_wp2;go_ret;exact ⟨aA a0.out.symm,hb⟩
 ·have HZ:Hid (jg rs xs=false):=η (by unfold jg; rw [decide_eq_false hp]; rfl)
  rw [decide_eq_false hp] at c1;clear hp C2 C3 h2
  go_enter Tryz.func164,Tryz.ntmps164
  go_wp2_with fail
  refine c1.mono ?_;rintro e w1 ⟨rfl,I⟩;go_wp2;go_ret;exact ⟨aA HZ.out.symm,I⟩
end
section
open Go.RowKit D
def D.sZ (fs ps y:List A) (b:Bd) (left:Nat) (σ:Wo):Prop:=PX b σ∧(∀ j (h:j < ps.length),left.testBit j=true→gm σ ps[j] ∈ fs)∧∀ n ∈ y,gm σ n ∉ fs
def D.rP (b:Bd):Prop:=∀ p ∈ b,iD p.2=true
theorem D.nX {s:ByteArray} (h:iD s=true):s ≠ ⟨#[]⟩:=by
 rintro rfl;revert h
 decide
theorem D.qx:∀ (y fs:List T) (b:Bd),∃ c,(bZ y fs b).1=b ++ c
 | [],fs,b=>by cases fs <;> exact ⟨[],by simp [bZ]⟩
 | t :: y,[],b=>⟨[],by simp [bZ]⟩
 | t :: y,f :: fs,b=>by
  rw [bZ]
  split
  ·split
   ·split
    ·exact qx y fs b
    ·exact ⟨[],by simp⟩
   ·obtain ⟨c,hc⟩:=qx y fs (b ++ [(t.name,f.name)])
    exact ⟨(t.name,f.name) :: c,by rw [hc]; simp⟩
  ·split
   ·exact qx y fs b
   ·exact ⟨[],by simp⟩
theorem D.vP (a f:A) (b:Bd):(aC a f b).1.take b.length=b:=by
 unfold aC
 split
 ·obtain ⟨c,hc⟩:=qx a.args f.args b
  rw [hc]; simp
 ·simp
theorem D.tJ (a f:A) (b:Bd):b.length≤(aC a f b).1.length:=by
 have:=congrArg List.length (vP a f b);simp at this;omega
theorem D.qy:∀ (I fs:List T) (b:Bd),rP b→(∀ f ∈ fs,iD f.name=true)→rP (bZ I fs b).1
 | [],fs,b,h,_=>by cases fs <;> simpa [bZ] using h
 | t :: I,[],b,h,_=>by simpa [bZ] using h
 | t :: I,f :: fs,b,h,hf=>by
  have y:∀ g ∈ fs,iD g.name=true:=fun g U=>hf g (Δ _ U)
  rw [bZ]
  split
  ·split
   ·split
    ·exact qy I fs b h y
    ·exact h
   ·refine qy I fs _ (fun p J=>?_) y
    rcases μ.1 J with J | J
    ·exact h p J
    ·rw [ώ.1 J]; exact hf f Γ
  ·split
   ·exact qy I fs b h y
   ·exact h
theorem D.Dp {a f:A} {b:Bd} (h:rP b) (hf:∀ t ∈ f.args,iD t.name=true):rP (aC a f b).1:=by
 unfold aC
 split
 ·exact qy _ _ _ h hf
 ·exact h
structure D.aT (f:A):Prop where
 ok:aZ f=true
 gr:Gr f
theorem D.aT.names {f:A} (h:aT f):∀ t ∈ f.args,t.var=false∧iD t.name=true:=fun t y=>by
 have h0:=h.ok;unfold aZ at h0;simp only [ο,decide_eq_true_eq,ό] at h0;have h1:=h0.2 t y;have I:=h.gr t y;unfold iP at h1;rw [I] at h1;exact ⟨I,by simpa using h1⟩
theorem D.sO {a:A} (ha:aZ a=true) {b:Bd} (J:rP b) (hc:wZ b a.args):aT (aY a b):=by
 have h0:=ha;unfold aZ at h0;simp only [ο,decide_eq_true_eq,ό] at h0;refine ⟨?_,nT (iR b) a⟩;unfold aZ aY;simp only [ο,decide_eq_true_eq,ό,List.length_map];refine ⟨h0.1,fun t U=>?_⟩;obtain ⟨u,y,rfl⟩:=List.mem_map.1 U;have h1:=h0.2 u y;unfold iP at *;unfold dw;cases hv:u.var
 ·simpa [hv] using h1
 ·obtain ⟨v,I⟩:=Option.isSome_iff_exists.1 (hc u y hv)
  simp only [if_true,iR,I,Option.getD_some];exact J _ (xB I)
theorem D.xP {fs:List A} (hf:∀ f ∈ fs,aT f) {a:A} (ha:aT a):decide (dM a ∈ fs.map dM)=true ↔ a ∈ fs:=by
 rw [decide_eq_true_eq,List.mem_map];constructor
 ·rintro ⟨f,h1,y⟩
  rw [← yQ (hf f h1).ok ha.ok y]; exact h1
 ·exact fun h=>⟨a,h,rfl⟩
theorem D.Gu {vars:List ByteArray} (hv:ji vars) {b:Bd} (hb:iW vars b) {ts:List T} (hin:∀ t ∈ ts,t.var=true→t.name ∈ vars):
  wZ b ts ↔ ∀ i,i < 12→fG vars ts i=true→Ey vars b i ≠ ⟨#[]⟩:=by
 constructor
 ·intro hc i _ hw
  unfold fG at hw;obtain ⟨t,y,h2⟩:=List.any_eq_true.1 hw;simp only [ο,beq_iff_eq] at h2;obtain ⟨h3,rfl⟩:=h2;have I:=List.idxOf_lt_length_of_mem (hin t y h3);obtain ⟨v,U⟩:=Option.isSome_iff_exists.1 (hc t y h3);unfold Ey;rw [dif_pos I];have e:vars[vars.idxOf t.name]=t.name:=List.getElem_idxOf I;rw [e];intro e2;rw [(hb.oU _).1 e2] at U;cases U
 ·intro h t y J
  have hm:=hin t y J;have I:=List.idxOf_lt_length_of_mem hm;have a0:=hv.few;have h1:=h (vars.idxOf t.name) (by omega) (List.any_eq_true.2 ⟨t,y,by simp [J]⟩);unfold Ey at h1;rw [dif_pos I] at h1;have e:vars[vars.idxOf t.name]=t.name:=List.getElem_idxOf I;rw [e] at h1
  cases U:eY b t.name with
  | some v=>rfl
  | none=>exact absurd ((hb.oU _).2 U) h1
def D.Gv (vars:List ByteArray) (head:A) (y:List A) (i:Nat):Bool:=fG vars head.args i || y.any fun n=>fG vars n.args i
theorem D.rQ {vars:List ByteArray} (hv:ji vars) {b:Bd} (U:iW vars b) {head:A} {ns:List A} {wt:Nat→Bool} (I:∀ i,i < 12→wt i=Gv vars head ns i) (hh:∀ t ∈ head.args,t.var=true→t.name ∈ vars) (hn:∀ n ∈ ns,∀ t ∈ n.args,t.var=true→t.name ∈ vars):
  setB vars b wt=true ↔ wZ b head.args∧∀ n ∈ ns,wZ b n.args:=by
 rw [Dc,Gu hv U hh];constructor
 ·intro h
  refine ⟨fun i hi J=>h i hi (by rw [I i hi]; unfold Gv; rw [J]; rfl),fun n y=>(Gu hv U (hn n y)).2 fun i hi J=>h i hi (by rw [I i hi]; unfold Gv; rw [List.any_eq_true.2 ⟨n,y,J⟩]; simp)⟩
 ·rintro ⟨h1,h2⟩ i hi J
  rw [I i hi] at J;unfold Gv at J
  rcases Bool.or_eq_true_iff.1 J with h | h
  ·exact h1 i hi h
  ·obtain ⟨n,y,h3⟩:=List.any_eq_true.1 h
   exact (Gu hv U (hn n y)).1 (h2 n y) i hi h3
theorem D.EI (l i:Nat) (y:l < 16) (hi:i < 4) (h:l.testBit i=true):bits .andNot .i64 (l:Int) (wrap64 (2 ^ i))=((l - 2 ^ i:Nat):Int):=by
 have H:∀ l:Nat,l < 16→∀ i:Nat,i < 4→l.testBit i=true→bits .andNot .i64 (l:Int) (wrap64 (2 ^ i))=((l - 2 ^ i:Nat):Int):=by decide +kernel
 exact H l y i hi h
theorem D.xQ (l i j:Nat) (y:l < 16) (hi:i < 4) (I:j < 4) (h:l.testBit i=true):(l - 2 ^ i).testBit j=(l.testBit j && decide (j ≠ i)):=by
 have H:∀ l:Nat,l < 16→∀ i:Nat,i < 4→∀ j:Nat,j < 4→l.testBit i=true→(l - 2 ^ i).testBit j=(l.testBit j && decide (j ≠ i)):=by decide +kernel
 exact H l y i hi j I h
theorem D.NE (l i:Nat) (y:l < 16) (hi:i < 4) (h:l.testBit i=true):l - 2 ^ i < l:=by
 have H:∀ l:Nat,l < 16→∀ i:Nat,i < 4→l.testBit i=true→l - 2 ^ i < l:=by decide +kernel
 exact H l y i hi h
theorem D.RZ (l n:Nat) (y:l < 2 ^ n) (I:n≤4) (h:l ≠ 0):∃ j,j < n∧l.testBit j=true:=by
 have H:∀ n:Nat,n < 5→∀ l:Nat,l < 2 ^ n→l ≠ 0→∃ j,j < n∧l.testBit j=true:=by decide +kernel
 exact H n (by omega) l y h
theorem D.sZ.step {fs ps I:List A} {b:Bd} {left m:Nat} {σ:Wo} {f:A} (U:left < 16) (a0:ps.length≤4) (hm:m < ps.length) (y:left.testBit m=true) (h:sZ fs ps I b left σ) (he:gm σ ps[m]=f):
  (aC ps[m] f b).2=true∧sZ fs ps I (aC ps[m] f b).1 (left - 2 ^ m) σ:=by
 obtain ⟨h1,h2,h3⟩:=h;obtain ⟨g1,g2⟩:=lV h1 he;refine ⟨g1,g2,fun j hj J=>h2 j hj ?_,h3⟩;rw [xQ left m j U (by omega) (by omega) y] at J;exact (Bool.and_eq_true_iff.1 J).1
theorem D.sZ.back {fs ps U:List A} {b:Bd} {left m:Nat} {σ:Wo} {f:A} (hl:left < 16) (a0:ps.length≤4) (hm:m < ps.length) (y:left.testBit m=true) (hf:f ∈ fs) (I:Gr f) (J:(aC ps[m] f b).2=true) (h:sZ fs ps U (aC ps[m] f b).1 (left - 2 ^ m) σ):
  sZ fs ps U b left σ:=by
 obtain ⟨h1,h2,h3⟩:=h;obtain ⟨g1,g2⟩:=lF I J;refine ⟨h1.of_le (l9 _ _ _),fun j hj hb=>?_,h3⟩;by_cases e:j=m
 ·subst e
  rw [← jK g1 h1,g2]; exact hf
 ·refine h2 j hj ?_
  rw [xQ left m j hl (by omega) (by omega) y,hb];simpa using e
end
end Go.Proofs.YtlmngncogomgeaaGreatDoor
