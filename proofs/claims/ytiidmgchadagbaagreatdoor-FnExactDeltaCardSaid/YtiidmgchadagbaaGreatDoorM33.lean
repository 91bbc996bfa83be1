/- Of the proof of FnExactDelta: FineI, L3Do, ChgI, RunP, ChoI, HinI, Fit. -/
import Derived.Test.YtiidmgchadagbaaGreatDoorM32
import Derived.Test.YtiidmgchadagbaaGreatDoorM30
import Derived.Test.YtiidmgchadagbaaGreatDoorM21
set_option linter.unusedVariables false
set_option maxHeartbeats 4000000
set_option maxRecDepth 100000
namespace Go.Proofs.YtiidmgchadagbaaGreatDoor
open Go.RowKit D
attribute [local go_sem ↓] Go.wp_at_zero Go.wp_at_succ
theorem Hf (rs:List Ru) (v:Value) (bs:List Nat) (w:World) (h:dO w [v] rs bs) (hg:qp w):
  Calls Tryz.prog 115 #[v] w fun e w'=>e=.returned (.bool (decide (fO rs=0)))∧Below w.heap.size w w':=by
 have c1:=Dy rs v bs w h hg;have hle:(fO rs:Int)≤5:=by have:=Ji rs; omega
 clear h hg;generalize fO rs=c at *;by_cases h0:c=0
 ·subst h0
  go_enter Tryz.func115,Tryz.ntmps115
  go_wp2_with fail
  refine c1.mono ?_;rintro e w1 ⟨rfl,hb⟩;go_wp2;go_ret;exact ⟨rfl,hb⟩
 ·have h1:¬ (c:Int)=0:=by omega
  have HD:Hid (decide (c=0)=false):=η (decide_eq_false h0);clear h0
  go_enter Tryz.func115,Tryz.ntmps115
  go_wp2_with fail
  refine c1.mono ?_;rintro e w1 ⟨rfl,hb⟩;go_wp2;go_ret;exact ⟨aO (by rw [HD.out]; exact beq_eq_false_iff_ne.2 h1),hb⟩
theorem TI (xs:List A) (c:Ch) (v c0 c1:Value) (bs b2:List Nat) (w:World) (h:aI w [v] xs bs) (h2:dU w [c0,c1] c b2) (hs:ig xs=true) (hg:ig c.goes=true) (f1:CV xs) (f2:CV c.comes):
  Calls Tryz.prog 46 #[v,.agg #[c0,c1]] w (Reads aI (behind xs c) w.heap.size w):=by
 obtain ⟨Ad,cap,rfl,hl,hm⟩:=af h;obtain ⟨Ac,capc,Ag,capg,rfl,rfl⟩:=eG h2;obtain ⟨d1,d2,rfl,ht,hp⟩:=dZ h2;have hA:Below w.heap.size w (w.alloc (.cells #[.slice Ac c.comes.length capc,.slice Ag c.goes.length capg] 46)):=(Below.refl _ _).alloc (Nat.le_refl _) _;have k1:=wG xs c.goes _ _ bs d2 _ (ai.below h hA) (ai.below hp hA) hg (Nat.le_trans f1.1 (by omega)) f1.2;have HB:=η (Nv (c:=c) f1 f2);have HLL:Hid ((dW xs c.goes).length+c.comes.length≤2000000):=η (by have h1:(dW xs c.goes).length≤xs.length:=List.length_filter_le _ _; have:=f1.1; have:=f2.1; omega);have HLA:=η (Iy (ys:=c.goes) hs);have HE:Hid (behind xs c=kS (dW xs c.goes) c.comes):=η rfl;obtain ⟨_,_,_,hlc,hmc⟩:=af ht;have hlm:=au (Nat.le_trans hlc hmc);clear h hp h2 hs hg f1 f2 hl hm hlc hmc;generalize dW xs c.goes=M at *
 go_enter Tryz.func46,Tryz.ntmps46
 go_wp2_with fail
 refine k1.mono ?_;rintro e w1 ⟨hb1,v1,b3,rfl,hR1⟩;obtain ⟨A1,p1,rfl,_,_⟩:=af hR1;have B1:=hA.trans (hb1.mono hA.size);have x0:w1.cell? ⟨w.heap.size,0,none⟩=some (.slice Ac c.comes.length capc):=cell_later hb1 (by go_simp);have HS:=η (And.intro hR1 (And.intro B1 x0));clear k1 hR1 B1 x0 hA;go_wp2
 go_loopw [5,6] (fun v i wr=>∃ (k m:Nat) (Av:Option Addr) (cp:Nat) (b4:List Nat),k≤c.comes.length∧i=.int .i64 k∧v=.slice Av m cp∧m=(kS M (c.comes.take k)).length∧aI wr [.slice Av m cp] (kS M (c.comes.take k)) b4∧Below w.heap.size w wr∧wr.cell? ⟨w.heap.size,0,none⟩=some (.slice Ac c.comes.length capc)) (fun _ i _=>c.comes.length - (intOf i).toNat)
 case atStart=>exact ⟨0,M.length,A1,p1,b3,Nat.zero_le _,rfl,rfl,rfl,HS.out.1,HS.out.2.1,HS.out.2.2⟩
 case round=>
  obtain ⟨k,m,Av,cp,b4,hk,rfl,rfl,hme,hR,hb,x0⟩:=hrel;clear HS;have HM:=η hme;by_cases hlt:k < c.comes.length
  ·have hk0:(0:Int)≤(k:Int):=by omega
   have hk1:(k:Int) < (c.comes.length:Int):=by omega
   obtain ⟨b,o,Ae,ce,bk,rfl,_,e0,e1,hel,_⟩:=dG (ai.below ht hb) hlt
   have hlen:(kS M (c.comes.take k)).length≤2000000:=by
    have h1:=sD (c.comes.take k) M;rw [List.length_take] at h1;have:=HLL.out;omega
   have HT:Hid (kS M (c.comes.take (k+1))=fA (kS M (c.comes.take k)) c.comes[k]):=η (PY M c.comes k hlt);have HLT:=η hlt;have hk2:=Qa (kS M (c.comes.take k)) c.comes[k] _ _ _ b4 bk wr hR hel (Ba HLA.out) (by omega);clear hme hR hel hlen ht
   go_wp2_with fail
   refine hk2.mono ?_;rintro e w2 ⟨hb2,v2,b5,rfl,hR2⟩;obtain ⟨A2,p2,rfl,_,_⟩:=af hR2;have HX:=η (And.intro hR2 (And.intro (hb.trans (hb2.mono hb.size)) (cell_later hb2 x0)));clear hk2 hR2;go_wp2;go_roundw
   case rel=>exact ⟨k+1,_,A2,p2,b5,HLT.out,by go_num,rfl,by rw [HT.out]; rfl,by rw [HT.out]; exact HX.out.1,HX.out.2.1,HX.out.2.2⟩
   case measure=>have:=HLT.out; simp [intOf]; omega
  ·have he:k=c.comes.length:=by omega
   subst he;rw [List.take_of_length_le (Nat.le_refl _)] at hR;rw [← HE.out] at hR;have hk3:=MZ (behind xs c) _ b4 wr (by rw [hme,List.take_of_length_le (Nat.le_refl _),← HE.out] at hR; exact hR) (Nat.le_trans HB.out.1 (by omega)) HB.out.2;rw [List.take_of_length_le (Nat.le_refl _),← HE.out] at hme;rw [← hme] at hk3;clear hR ht;have hme':=η hme;clear hme HM
   go_wp2_with fail
   refine hk3.mono ?_;rintro e w2 ⟨hb2,v2,b5,rfl,hR2⟩;have HX:=η (And.intro hR2 (hb.trans (hb2.mono hb.size)));obtain ⟨A2,p2,rfl,_,_⟩:=af hR2;clear hk3 hR2;go_wp2;go_ret;exact ⟨HX.out.2,_,b5,rfl,HX.out.1⟩
def D.TJ (U:List A) (B:Nat) (w:World) (e:Ending) (w':World):Prop:=Below B w w'∧∃ v bs U',U'=(if U.length≤300 then U else [])∧e=.returned (.tuple #[v,.bool (decide (U.length≤300))])∧aI w' [v] U' bs
theorem Ku (xs:List A) (c:Ch) (v c0 c1:Value) (bs b2:List Nat) (w:World) (h:aI w [v] xs bs) (h2:dU w [c0,c1] c b2) (n1:xs.length≤500000) (n2:c.comes.length≤500000) (n3:c.goes.length≤500000):
  Calls Tryz.prog 50 #[v,.agg #[c0,c1]] w (TJ (dw (fQ xs c.goes) c.comes) w.heap.size w):=by
 obtain ⟨Ad,cap,rfl,hl,hm⟩:=af h;obtain ⟨Ac,capc,Ag,capg,rfl,rfl⟩:=eG h2;obtain ⟨d1,d2,rfl,ht,hp⟩:=dZ h2;have hA:Below w.heap.size w (w.alloc (.cells #[.slice Ac c.comes.length capc,.slice Ag c.goes.length capg] 46)):=(Below.refl _ _).alloc (Nat.le_refl _) _;have k1:=ug xs c.goes _ _ bs d2 _ (ai.below h hA.drew) (ai.below hp hA.drew) (by omega) (by omega)
 have hlo:(fQ xs c.goes).length≤1000000:=by
  unfold fQ;rw [List.length_map];exact Nat.le_trans (List.length_filter_le _ _) (Nat.le_trans (qH _ xs c.goes (Nat.le_refl _)) (by omega))
 have k2:=fun v' bs' w' (hb:Below w.heap.size w w') (h':aI w' [v'] (fQ xs c.goes) bs')=>Qo (fQ xs c.goes) c.comes v' _ bs' d1 w' h' (ai.below ht hb) hlo (by omega)
 have x0:(w.alloc (.cells #[.slice Ac c.comes.length capc,.slice Ag c.goes.length capg] 46)).cell? ⟨w.heap.size,0,none⟩=some (.slice Ac c.comes.length capc):=by go_simp
 have x1:(w.alloc (.cells #[.slice Ac c.comes.length capc,.slice Ag c.goes.length capg] 46)).cell? ⟨w.heap.size,1,none⟩=some (.slice Ag c.goes.length capg):=by go_simp
 clear h hp h2 ht hl hm n1 n2 n3 hlo;generalize dw (fQ xs c.goes) c.comes=U at *
 go_enter Tryz.func50,Tryz.ntmps50
 go_wp2
 go_region_held3 (fun w'=>w'.cell? ⟨w.heap.size,0,none⟩=some (.slice Ac c.comes.length capc)∧w'.cell? ⟨w.heap.size,1,none⟩=some (.slice Ag c.goes.length capg))
  (first | go_keep | exact ⟨x0,x1⟩)
  (first
   | (go_at_call 84; refine k1.mono ?_; rintro e w1 ⟨hb1,v1,b3,rfl,hR1⟩; have k3:=k2 _ _ _ (hA.drew.trans (hb1.mono hA.drew.size)) hR1; obtain ⟨A1,p1,rfl,_,_⟩:=af hR1; have B1:=hA.drew.trans (hb1.mono hA.drew.size); replace x0:=cell_later hb1 x0; replace x1:=cell_later hb1 x1; clear hR1)
   | (go_at_call 83; refine k3.mono ?_; rintro e w2 ⟨hb2,v2,b4,rfl,hR2⟩; have HR:=η hR2; obtain ⟨A2,p2,rfl,hl2,hm2⟩:=af hR2; have hlm:=au (Nat.le_trans hl2 hm2); have B2:=B1.trans (hb2.mono B1.size); replace x0:=cell_later hb2 x0; replace x1:=cell_later hb2 x1; clear hR2 hl2 hm2))
 by_cases hle:U.length≤300
 ·have hle':¬ (300:Int) < (U.length:Int):=by omega
  have HL:=η hle;clear hle;go_wp2;go_ret2;exact ⟨B2,_,b4,U,by rw [if_pos HL.out],by rw [decide_eq_true HL.out]; rfl,HR.out⟩
 ·have hle':(300:Int) < (U.length:Int):=by omega
  have HL:=η hle;clear hle;go_wp2;go_ret2;exact ⟨B2,_,[],[],by rw [if_neg HL.out],by rw [decide_eq_false HL.out]; rfl,dA _⟩
end Go.Proofs.YtiidmgchadagbaaGreatDoor
namespace Go.Proofs.YtiidmgchadagbaaGreatDoor
open Go.RowKit D
def D.jh (more:List A) (n:Nat) (r:Rd):Rd:=more.foldl (fun r a=>iD r a n) r
theorem D.Kv (more:List A) (n:Nat) (r:Rd) (k:Nat) (h:k < more.length):jh (more.take (k+1)) n r=iD (jh (more.take k) n r) more[k] n:=by
 unfold jh;rw [List.take_succ_eq_append_getElem h,List.foldl_append];rfl
theorem D.uO (r:Rd) (a:A) (n:Nat):(iD r a n).1=fA r.1 a:=by
 unfold iD fA
 split
 ·rfl
 ·rfl
structure D.pW (r:Rd):Prop where
 ig:ig r.1=true
 len:r.2.length=r.1.length
theorem D.pW.put {r:Rd} (h:pW r) (a:A) (n:Nat):pW (iD r a n):=by
 refine ⟨by rw [uO]; exact AL h.ig a,?_⟩;unfold iD;have hp:=(qf h.ig a).2.2;have hl:=h.len;by_cases hh:hasB r.1 a=true
 ·rw [if_pos hh]; exact hl
 ·rw [if_neg hh]
  show (r.2.take (pl r.1 a) ++ [n] ++ r.2.drop (pl r.1 a)).length=(fA r.1 a).length;unfold fA;rw [if_neg hh];simp;omega
theorem D.Kw (r:Rd) (a:A) (n:Nat):r.1.length≤(iD r a n).1.length∧(iD r a n).1.length≤r.1.length+1:=by
 rw [uO];refine ⟨?_,G9 _ _⟩;unfold fA
 split
 ·exact Nat.le_refl _
 ·simp
  omega
theorem D.nV {r:Rd} (h:pW r) (n:Nat):∀ more,pW (jh more n r)∧r.1.length≤(jh more n r).1.length∧(jh more n r).1.length≤r.1.length+more.length:=by
 intro more
 induction more generalizing r with
 | nil=>exact ⟨h,Nat.le_refl _,Nat.le_refl _⟩
 | cons a more ih=>
  have h1:=ih (h.put a n);have h2:=Kw r a n;refine ⟨h1.1,?_,?_⟩
  ·exact Nat.le_trans h2.1 h1.2.1
  ·have:=h1.2.2
   simp only [jh,List.foldl_cons,List.length_cons] at *;omega
def D.fG (rs:List Ru) (lv:List Nat) (level:Nat) (r:Rd) (n:Nat):Rd:=jh (ja r.1 level (rs.zip lv)) n r
def D.AQ (rs:List Ru) (lv:List Nat):Nat→Nat→Rd→Nat→Rd × Bool
 | 0,_,r,_=>(r,true)
 | k+1,0,r,_=>(r,false)
 | k+1,fuel+1,r,n=>
  if 300 < (fG rs lv (rs.length - k) r (n+1)).1.length then (fG rs lv (rs.length - k) r (n+1),false)
  else if (fG rs lv (rs.length - k) r (n+1)).1.length=r.1.length then AQ rs lv k 302 (fG rs lv (rs.length - k) r (n+1)) n
  else AQ rs lv (k+1) fuel (fG rs lv (rs.length - k) r (n+1)) (n+1)
 termination_by k fuel=>(k,fuel)
def D.iM (rs:List Ru) (given:List A):Rd × Bool:=AQ rs (ax rs) (rs.length+1) 302 (given,List.replicate given.length 0) 0
end Go.Proofs.YtiidmgchadagbaaGreatDoor
namespace Go.Proofs.YtiidmgchadagbaaGreatDoor
open Go.RowKit D
attribute [local go_sem ↓] Go.wp_at_zero Go.wp_at_succ
theorem D.TK (l i:Nat) (hl:l < 16) (hi:i < 4):(bits .and .i64 (l:Int) (wrap64 (2 ^ i)) == 0) = !l.testBit i:=by
 have h:∀ l:Nat,l < 16→∀ i:Nat,i < 4→(bits .and .i64 (l:Int) (wrap64 (2 ^ i)) == 0) = !l.testBit i:=by decide +kernel
 exact h l hl i hi
structure D.wJ (fs ps:List A) (b:Bd) (bs:List Nat) (left m:Nat) (A9:Option Addr) (c9:Nat) (key:WK) (bx:List Nat) (w:World):Prop where
 lt:m < ps.length
 bit:left.testBit m=true
 row:jD w [.slice A9 (idxs fs key).length c9] (idxs fs key) bx
 sub:∀ x ∈ bx,x ∈ bs
 key_:∀ p,ps[m]? = some p→∀ f,Gr f→(aK p f b).2=true→key ∈ keysOf f
theorem D.wJ.below {fs ps:List A} {b:Bd} {bs:List Nat} {left m:Nat} {A9:Option Addr} {c9:Nat} {key:WK} {bx:List Nat} {w w':World} (h:wJ fs ps b bs left m A9 c9 key bx w) (hb:Below w.heap.size w w'):wJ fs ps b bs left m A9 c9 key bx w':=
 ⟨h.lt,h.bit,dL.below h.row hb,h.sub,h.key_⟩
theorem NM (vars:List ByteArray) (hv:jT vars) (b:Bd) (fs:List A) (rn:List Nat) (bs:List Nat) (ps:List A) (Ap:Option Addr) (cp:Nat) (bp:List Nat) (sk sb:Nat) (v2:Value) (wt:Nat→Bool) (ah:Int) (tell:Value) (left:Nat) (w:World)
  (h:lN sk sb (.slice Ap ps.length cp) v2 wt false ah tell w) (hb:iJ vars b sk 18 w) (hst:kE sb fs rn bs w) (hps:tC vars w [.slice Ap ps.length cp] ps bp) (hin:∀ p ∈ ps,∀ t ∈ p.args,t.var=true→t.name ∈ vars) (hal:∀ p ∈ ps,p.args.length≤1000000) (hn4:ps.length≤4) (hl16:left < 16) (hfl:fs.length≤1000000)
  (hsome:∃ j,j < ps.length∧left.testBit j=true):
  Calls Tryz.prog 199 #[.pointer (some ⟨sk,0,none⟩),.int .i64 left] w fun e w'=>∃ m A9 c9 key bx,e=.returned (.tuple #[.int .i64 (m:Nat),.slice A9 (idxs fs key).length c9])∧wJ fs ps b bs left m A9 c9 key bx w'∧Below w.heap.size w w':=by
 have hsk:=h.lt;have y0:=h.p1;have HX:=η (And.intro h (And.intro hb (And.intro hst (And.intro hps (And.intro hin (And.intro hal hsome))))));clear h hb hst hps hin hal hsome
 go_enter Tryz.func199,Tryz.ntmps199
 go_wp2
 go_loopw [6,7,17] (fun best list i wr=>∃ (k:Nat),k≤ps.length∧i=.int .i64 k∧Below w.heap.size w wr∧
  ((best=.int .i64 (-1)∧list=.slice none 0 0∧∀ j,j < k→left.testBit j=false)∨∃ m A9 c9 key bx,best=.int .i64 (m:Nat)∧list=.slice A9 (idxs fs key).length c9∧wJ fs ps b bs left m A9 c9 key bx wr)) (fun _ _ i _=>ps.length - (intOf i).toNat)
 case atStart=>exact ⟨0,Nat.zero_le _,rfl,Below.refl _ _,.inl ⟨rfl,rfl,fun j hj=>by omega⟩⟩
 case round=>
  obtain ⟨k,hk,rfl,hbel,halt⟩:=hrel;by_cases hlt:k < ps.length
  ·obtain ⟨bq,oq,Ae,ce,bk,rfl,_,f0,f1,⟨vv,hvv,hnm,hsl⟩,_⟩:=xQ ((dS vars).below HX.out.2.2.2.1 hbel) hlt
   simp only [List.cons.injEq,and_true,true_and] at hvv;subst hvv;have hk0:(0:Int)≤(k:Int):=by omega
   have hk1:(k:Int) < (ps.length:Int):=by omega
   have hk4:(k:Int) < 4:=by omega
   have hba:=TK left k hl16 (by omega);have hA2:Below wr.heap.size wr (wr.alloc (.cells #[.string ps[k].name,.slice Ae ps[k].args.length ce] 199)):=(Below.refl _ _).alloc (Nat.le_refl _) _;have hb2:=hbel.trans (hA2.mono hbel.size);have HLT:=η hlt;have HA2:=η hA2;have HB2:=η hb2;have HALT:=η halt;cases htb:left.testBit k
   ·rw [htb] at hba
    have HTB:=η htb;clear hA2 hb2 hnm hsl hbel htb hk halt;simp only [Bool.not_false] at hba;generalize ps[k].name=pn at *;generalize ps[k].args.length=pl at *;clear hlt;go_wp2;go_roundw
    case rel=>
     refine ⟨k+1,HLT.out,by go_num,HB2.out,?_⟩
     rcases HALT.out with ⟨h1,h2,h3⟩ | ⟨m,A9,c9,key,bx,h1,h2,h3⟩
     ·refine .inl ⟨h1,h2,fun j hj=>?_⟩
      rcases Nat.lt_succ_iff_lt_or_eq.1 hj with h | rfl
      ·exact h3 j h
      ·exact HTB.out
     ·exact .inr ⟨m,A9,c9,key,bx,h1,h2,h3.below HA2.out⟩
    case measure=>have:=HLT.out; simp [intOf]; omega
   ·rw [htb] at hba
    have hskr:sk < (wr.alloc (.cells #[.string ps[k].name,.slice Ae ps[k].args.length ce] 199)).heap.size:=Nat.lt_of_lt_of_le hsk hb2.size;have HC:=η (DC vars hv b sb fs rn bs ps[k] Ae ce bk sk 18 (wr.alloc (.cells #[.string ps[k].name,.slice Ae ps[k].args.length ce] 199)).drew (HX.out.2.2.1.below hb2.drew) (HX.out.2.1.keep (hb2.drew.block _ hsk)) ((dm vars).below hsl hA2.drew) (HX.out.2.2.2.2.1 _ (List.getElem_mem hlt)) (HX.out.2.2.2.2.2.1 _ (List.getElem_mem hlt)) hfl);have s0:(wr.alloc (.cells #[.string ps[k].name,.slice Ae ps[k].args.length ce] 199)).cell? ⟨sk,0,none⟩=some (.pointer (some ⟨sb,0,none⟩)):=(HX.out.1.keep (hb2.block _ hsk)).st;have z0:(wr.alloc (.cells #[.string ps[k].name,.slice Ae ps[k].args.length ce] 199)).cell? ⟨wr.heap.size,0,none⟩=some (.string ps[k].name):=by go_simp
    have z1:(wr.alloc (.cells #[.string ps[k].name,.slice Ae ps[k].args.length ce] 199)).cell? ⟨wr.heap.size,1,none⟩=some (.slice Ae ps[k].args.length ce):=by go_simp
    have HPK:Hid (∀ p,ps[k]? = some p→p=ps[k]):=η fun p hp=>by rw [List.getElem?_eq_getElem hlt] at hp; exact (Option.some.inj hp).symm
    have HTB:=η htb;clear hA2 hb2 hnm hsl hbel htb hk halt;simp only [Bool.not_true] at hba;generalize ps[k]=p at *;clear hlt;obtain ⟨pn,pargs⟩:=p;dsimp only at *
    have HK8:∀ (key8:WK) (bx8:List Nat) (A8:Option Addr) (c8:Nat) (w8:World),jD w8 [.slice A8 (idxs fs key8).length c8] (idxs fs key8) bx8→(∀ x ∈ bx8,x ∈ bs)→(∀ f,Gr f→(aK ⟨pn,pargs⟩ f b).2=true→key8 ∈ keysOf f)→wJ fs ps b bs left k A8 c8 key8 bx8 w8:=
     fun _ _ _ _ _ h1 h2 h3=>⟨HLT.out,HTB.out,h1,h2,fun p hp=>by rw [HPK.out p hp]; exact h3⟩
    have HK9:=η HK8;clear HK8 HPK
    rcases HALT.out with ⟨rfl,rfl,_⟩ | ⟨m,A9,c9,key,bx,rfl,rfl,h3⟩
    ·clear HALT
     go_wp2;generalize wr.alloc (.cells #[.string pn,.slice Ae pargs.length ce] 199)=W1 at *
     go_region_law
      (first
       | (go_simp; go_at_call 216; refine HC.out.mono ?_; rintro e w2 ⟨A8,c8,key8,bx8,rfl,h81,h82,h83,hb8⟩; have HK2:=η ((Below.refl W1.heap.size W1).drew.trans hb8); replace s0:=cell_later HK2.out s0; have H8:=η (HK9.out _ _ _ _ _ h81 h82 h83); clear h81 h82 h83 hb8))
     all_goals
      have HB3:=η (HB2.out.trans (HK2.out.mono HB2.out.size));have q9:=(HX.out.1.keep (HB3.out.block _ hsk)).io;clear s0 z0 z1 HC HK2;go_wp2;go_roundw
      case rel=>exact ⟨k+1,HLT.out,by go_num,HB3.out,.inr ⟨k,A8,c8,key8,bx8,rfl,rfl,H8.out⟩⟩
      case measure=>have:=HLT.out; simp [intOf]; omega
    ·have hm0:¬ ((m:Nat):Int) < 0:=by omega
     have H3:=η h3;clear HALT h3;go_wp2;generalize wr.alloc (.cells #[.string pn,.slice Ae pargs.length ce] 199)=W1 at *
     go_region_law
      (first
       | (go_simp; go_at_call 216; refine HC.out.mono ?_; rintro e w2 ⟨A8,c8,key8,bx8,rfl,h81,h82,h83,hb8⟩; have HK2:=η ((Below.refl W1.heap.size W1).drew.trans hb8); replace s0:=cell_later HK2.out s0; have H8:=η (HK9.out _ _ _ _ _ h81 h82 h83); clear h81 h82 h83 hb8))
     all_goals
      have HB3:=η (HB2.out.trans (HK2.out.mono HB2.out.size));have q9:=(HX.out.1.keep (HB3.out.block _ hsk)).io;have H4:=η ((H3.out.below HA2.out).below HK2.out);have hl1:(idxs fs key8).length≤1000000:=Nat.le_trans (ng _ _) hfl;have hl2:(idxs fs key).length≤1000000:=Nat.le_trans (ng _ _) hfl;clear s0 z0 z1 HC HK2 H3;by_cases hc:(idxs fs key8).length < (idxs fs key).length
      ·have hc':((idxs fs key8).length:Int) < ((idxs fs key).length:Int):=by omega
       go_wp2;go_roundw
       case rel=>exact ⟨k+1,HLT.out,by go_num,HB3.out,.inr ⟨k,A8,c8,key8,bx8,rfl,rfl,H8.out⟩⟩
       case measure=>have:=HLT.out; simp [intOf]; omega
      ·have hc':¬ ((idxs fs key8).length:Int) < ((idxs fs key).length:Int):=by omega
       go_wp2;go_roundw
       case rel=>exact ⟨k+1,HLT.out,by go_num,HB3.out,.inr ⟨m,A9,c9,key,bx,rfl,rfl,H4.out⟩⟩
       case measure=>have:=HLT.out; simp [intOf]; omega
  ·have he:k=ps.length:=by omega
   subst he;have hk1:¬ (ps.length:Int) < (ps.length:Int):=by omega
   rcases halt with ⟨rfl,rfl,h3⟩ | ⟨m,A9,c9,key,bx,rfl,rfl,h3⟩
   ·obtain ⟨j,hj1,hj2⟩:=HX.out.2.2.2.2.2.2
    rw [h3 j hj1] at hj2;cases hj2
   ·have HP:=η (And.intro h3 hbel)
    clear h3 hbel;go_wp2;go_ret2;exact ⟨m,A9,c9,key,rfl,⟨bx,HP.out.1⟩,HP.out.2⟩
def D.yw (fs:List A) (ns:List A) (b:Bd):Bool:=ns.any fun n=>decide (eu (bY n b) ∈ fs.map eu)
theorem D.Qr (fs ns:List A) (b:Bd) (k:Nat) (h:k < ns.length):yw fs (ns.take (k+1)) b=(yw fs (ns.take k) b || decide (eu (bY ns[k] b) ∈ fs.map eu)):=by
 unfold yw;rw [List.take_succ_eq_append_getElem h,List.any_append];simp
theorem D.Vm {fs ns:List A} {b:Bd} {k:Nat} (h:k < ns.length) (hd:decide (eu (bY ns[k] b) ∈ fs.map eu)=true):yw fs ns b=true:=List.any_eq_true.2 ⟨ns[k],List.getElem_mem h,hd⟩
theorem rE (vars:List ByteArray) (hv:jT vars) (b:Bd) (hbo:jJ vars b) (fs:List A) (rn:List Nat) (bs:List Nat) (ns:List A) (An:Option Addr) (cn:Nat) (bn:List Nat) (sk sb:Nat) (v1:Value) (wt:Nat→Bool) (io:Bool) (ah:Int) (tell:Value) (w:World)
  (h:lN sk sb v1 (.slice An ns.length cn) wt io ah tell w) (hb:iJ vars b sk 18 w) (hst:kE sb fs rn bs w) (hns:tC vars w [.slice An ns.length cn] ns bn) (hin:∀ n ∈ ns,∀ t ∈ n.args,t.var=true→t.name ∈ vars) (hok:∀ n ∈ ns,aZ (bY n b)=true) (hnl:ns.length≤1000000):
  Calls Tryz.prog 198 #[.pointer (some ⟨sk,0,none⟩)] w fun e w'=>e=.returned (.bool (yw fs ns b))∧Below w.heap.size w w':=by
 have hsk:=h.lt;have y0:=h.p2;have HX:=η (And.intro h (And.intro hb (And.intro hst (And.intro hns (And.intro hin hok)))));clear h hb hst hns hin hok
 go_enter Tryz.func198,Tryz.ntmps198
 go_wp2
 go_loopw [11] (fun i wr=>∃ (k:Nat),k≤ns.length∧i=.int .i64 k∧yw fs (ns.take k) b=false∧Below w.heap.size w wr) (fun i _=>ns.length - (intOf i).toNat)
 case atStart=>exact ⟨0,Nat.zero_le _,rfl,by simp [yw],Below.refl _ _⟩
 case round=>
  obtain ⟨k,hk,rfl,hno,hbel⟩:=hrel;by_cases hlt:k < ns.length
  ·obtain ⟨bq,oq,Ae,ce,bk,rfl,_,f0,f1,⟨vv,hvv,hnm,hsl⟩,_⟩:=xQ ((dS vars).below HX.out.2.2.2.1 hbel) hlt
   simp only [List.cons.injEq,and_true,true_and] at hvv;subst hvv;have hk0:(0:Int)≤(k:Int):=by omega
   have hk1:(k:Int) < (ns.length:Int):=by omega
   have hHS:=Qr fs ns b k hlt;rw [hno,Bool.false_or] at hHS;have HHS:=η hHS;have HAT:=η (fun hd=>Vm (fs:=fs) (b:=b) hlt hd)
   have hal:ns[k].args.length≤1000000:=by
    have h9:=HX.out.2.2.2.2.2 _ (List.getElem_mem hlt);unfold aZ at h9;simp only [Bool.and_eq_true,decide_eq_true_eq] at h9;have:=h9.1.2;simp [bY] at this; omega
   have hA2:Below wr.heap.size wr (wr.alloc (.cells #[.string ns[k].name,.slice Ae ns[k].args.length ce] 199)):=(Below.refl _ _).alloc (Nat.le_refl _) _;have hb2:=hbel.trans (hA2.mono hbel.size);have hskr:sk < (wr.alloc (.cells #[.string ns[k].name,.slice Ae ns[k].args.length ce] 199)).heap.size:=Nat.lt_of_lt_of_le hsk hb2.size;have HF:=η (J6 vars hv b hbo ns[k] Ae ce bk sk 18 (wr.alloc (.cells #[.string ns[k].name,.slice Ae ns[k].args.length ce] 199)).drew ((HX.out.2.1.keep (hb2.block _ hsk)).keep rfl) hnm ((dm vars).below hsl (hA2.drew)) (HX.out.2.2.2.2.1 _ (List.getElem_mem hlt)) hal);have HOK:=η (HX.out.2.2.2.2.2 _ (List.getElem_mem hlt));have HST:=η (HX.out.2.2.1.below hb2);have HB2:=η hb2;have s0:(wr.alloc (.cells #[.string ns[k].name,.slice Ae ns[k].args.length ce] 199)).cell? ⟨sk,0,none⟩=some (.pointer (some ⟨sb,0,none⟩)):=(HX.out.1.keep (hb2.block _ hsk)).st
   have z0:(wr.alloc (.cells #[.string ns[k].name,.slice Ae ns[k].args.length ce] 199)).cell? ⟨wr.heap.size,0,none⟩=some (.string ns[k].name):=by go_simp
   have z1:(wr.alloc (.cells #[.string ns[k].name,.slice Ae ns[k].args.length ce] 199)).cell? ⟨wr.heap.size,1,none⟩=some (.slice Ae ns[k].args.length ce):=by go_simp
   have HLT:=η hlt;clear hno hbel hk hA2 hb2 hnm hsl hHS hal;generalize ns[k]=n at *;clear hlt;obtain ⟨nn,nargs⟩:=n;dsimp only at *;generalize hr:decide (eu (bY ⟨nn,nargs⟩ b) ∈ fs.map eu)=r at *;have HR:=η hr;clear hr;cases r
   ·go_wp2
    generalize wr.alloc (.cells #[.string nn,.slice Ae nargs.length ce] 199)=W1 at *
    go_region_law
     (first
      | (go_simp; go_at_call 143; refine HF.out.mono ?_; rintro e w2 ⟨v9,b9,rfl,hb9,ha9,hn9⟩; have HK2:=η ((Below.refl W1.heap.size W1).drew.trans hb9); replace s0:=cell_later HK2.out s0; replace hskr:=Nat.lt_of_lt_of_le hskr HK2.out.size; have hho:=y9 sb fs rn bs (bY ⟨nn,nargs⟩ b) (.string nn) v9 b9 w2 (HST.out.below HK2.out) ha9 HOK.out; have HHO:=η hho; clear hb9 ha9 hn9 hho)
      | (go_simp; go_at_call 111; refine HHO.out.mono ?_; rintro e w3 ⟨rfl,hb3⟩; have HK3:=η (HK2.out.trans (hb3.mono HK2.out.size)); rw [HR.out]; clear hb3))
    all_goals
     have HB3:=η (HB2.out.trans (HK3.out.mono HB2.out.size));clear s0 z0 z1 HF HHO HK2 HK3 HST HOK;go_wp2;go_roundw
     case rel=>exact ⟨k+1,HLT.out,by go_num,HHS.out,HB3.out⟩
     case measure=>have:=HLT.out; simp [intOf]; omega
   ·go_wp2
    generalize wr.alloc (.cells #[.string nn,.slice Ae nargs.length ce] 199)=W1 at *
    go_region_law
     (first
      | (go_simp; go_at_call 143; refine HF.out.mono ?_; rintro e w2 ⟨v9,b9,rfl,hb9,ha9,hn9⟩; have HK2:=η ((Below.refl W1.heap.size W1).drew.trans hb9); replace s0:=cell_later HK2.out s0; replace hskr:=Nat.lt_of_lt_of_le hskr HK2.out.size; have hho:=y9 sb fs rn bs (bY ⟨nn,nargs⟩ b) (.string nn) v9 b9 w2 (HST.out.below HK2.out) ha9 HOK.out; have HHO:=η hho; clear hb9 ha9 hn9 hho)
      | (go_simp; go_at_call 111; refine HHO.out.mono ?_; rintro e w3 ⟨rfl,hb3⟩; have HK3:=η (HK2.out.trans (hb3.mono HK2.out.size)); rw [HR.out]; clear hb3))
    all_goals
     have HB3:=η (HB2.out.trans (HK3.out.mono HB2.out.size));clear s0 z0 z1 HF HHO HK2 HK3 HST HOK;go_wp2;go_ret;rw [HAT.out (by trivial)];exact ⟨rfl,HB3.out⟩
  ·have he:k=ns.length:=by omega
   have hk1:¬ (k:Int) < (ns.length:Int):=by omega
   rw [List.take_of_length_le (Nat.le_of_eq he.symm)] at hno;have HP:=η (And.intro hno hbel);clear hno hbel;go_wp2;go_ret;rw [HP.out.1];exact ⟨rfl,HP.out.2⟩
theorem D.Vo {az:List A} (h:jQ az=true) (x:A):Qb az x=(!decide (x.name ∈ (dN az).1) || decide ((dN az).2.1 x.name=x.args.length)):=by
 obtain ⟨i1,_,i2,_⟩:=xE az;rw [Bool.eq_iff_iff];unfold Qb;simp only [List.all_eq_true,Bool.or_eq_true,Bool.not_eq_true',decide_eq_false_iff_not,decide_eq_true_eq];constructor
 ·intro hc
  by_cases hm:x.name ∈ (dN az).1
  ·obtain ⟨a,ha,e⟩:=(i1 _).1 hm
   have h1:=hc a ha;have h2:=Jg h ha;rw [e] at h2;unfold clash at h1;rw [decide_eq_true e,Bool.true_and,decide_eq_false_iff_not,Classical.not_not] at h1;exact .inr (by rw [h2,h1])
  ·exact .inl hm
 ·intro hc a ha
  unfold clash;by_cases e:a.name=x.name
  ·have hm:x.name ∈ (dN az).1:=(i1 _).2 ⟨a,ha,e⟩
   have h1:=hc.resolve_left fun h=>h hm
   have h2:=Jg h ha;rw [e,h1] at h2;have:a.args.length=x.args.length:=by exact_mod_cast h2.symm
   simp [this]
  ·simp [e]
theorem Hg (a:A) (c0 c1:Value) (bs:List Nat) (w:World) (B n:Nat) (L:List ByteArray) (f:ByteArray→Int) (h:aU w [c0,c1] a bs) (hM:iG B n L f w) (hf:∀ s ∈ L,0≤f s∧f s≤1000000):
  Calls Tryz.prog 117 #[.map (some B),.agg #[c0,c1]] w fun e w'=>e=.returned (.bool (!decide (a.name ∈ L) || decide (f a.name=a.args.length)))∧Below w.heap.size w w':=by
 obtain ⟨s,hcs,hsz,ht⟩:=h;simp only [List.cons.injEq,and_true] at hcs;obtain ⟨rfl,rfl⟩:=hcs;obtain ⟨Ad,cap,rfl,hl,hm⟩:=af ht;have hlm:=au (Nat.le_trans hl hm);obtain ⟨nm,args⟩:=a;dsimp only at *;have hA:Below w.heap.size w (w.alloc (.cells #[.string nm,.slice Ad args.length cap] 68)):=(Below.refl _ _).alloc (Nat.le_refl _) _;have HM:=η (hM.below hA hM.lt);have HSZ:=η hsz;clear hl hm ht hM hsz;by_cases hL:nm ∈ L
 ·have HD:Hid (decide (nm ∈ L)=true):=η (decide_eq_true hL)
  have hr:=hf nm hL;obtain ⟨v,hv⟩:∃ v,f nm=v:=⟨_,rfl⟩;have HV:Hid ((if nm ∈ L then f nm else 0)=v):=η ((if_pos hL).trans hv);rw [hv] at hr ⊢;clear hv hf hL;by_cases he:v=args.length
  ·have HZ:Hid ((!decide (nm ∈ L) || decide (v=(args.length:Int)))=true):=η (by rw [HD.out,decide_eq_true he]; rfl)
   subst he
   go_enter Tryz.func117,Tryz.ntmps117
   go_wp2_with (first | (at_lookup; refine dI _ rfl _ _ _ rfl Tryz.underlying85 _ _ _ _ rfl HM.out nm rfl HSZ.out true HD.out _ HV.out ?_) | go_in)
   go_ret;exact ⟨rfl,hA⟩
  ·have HZ:Hid ((!decide (nm ∈ L) || decide (v=(args.length:Int)))=false):=η (by rw [HD.out,decide_eq_false he]; rfl)
   go_enter Tryz.func117,Tryz.ntmps117
   go_wp2_with (first | (at_lookup; refine dI _ rfl _ _ _ rfl Tryz.underlying85 _ _ _ _ rfl HM.out nm rfl HSZ.out true HD.out _ HV.out ?_) | go_in)
   go_ret;exact ⟨aO (by rw [HZ.out]; first | rfl | exact beq_eq_false_iff_ne.2 he),hA⟩
 ·have HD:Hid (decide (nm ∈ L)=false):=η (decide_eq_false hL)
  have HV:Hid ((if nm ∈ L then f nm else 0)=0):=η (if_neg hL);have HZ:Hid ((!decide (nm ∈ L) || decide (f nm=(args.length:Int)))=true):=η (by rw [HD.out]; rfl);clear hf hL
  go_enter Tryz.func117,Tryz.ntmps117
  go_wp2_with (first | (at_lookup; refine dI _ rfl _ _ _ rfl Tryz.underlying85 _ _ _ _ rfl HM.out nm rfl HSZ.out false HD.out _ HV.out ?_) | go_in)
  go_ret;exact ⟨aO (by rw [HZ.out]),hA⟩
theorem Eg (rs:List Ru) (xs:List A) (v1 v2:Value) (b1 b2:List Nat) (w:World) (h:dO w [v1] rs b1) (h2:aI w [v2] xs b2) (hg:qp w):
  Calls Tryz.prog 80 #[v1,v2] w fun e w'=>e=.returned (.bool (jE rs xs))∧Below w.heap.size w w':=by
 have c1:=Hf rs v1 b1 w h hg;have C2:=η fun w' (hb:Below w.heap.size w w')=>rC xs v2 b2 w' (ai.below h2 hb)
 have C3:=η fun w' (hb:Below w.heap.size w w') (hok:rs.all fC=true) (hf:rs.length≤8)=>CY rs v1 b1 w' (aC.below h hb) hok hf
 obtain ⟨Ad2,cap2,rfl,hl2,hm2⟩:=af h2;have hlm:=au (Nat.le_trans hl2 hm2);clear h hg hl2 hm2;by_cases hp:fO rs=0
 ·have hfi:=(sW rs).1 hp
  have HF:=η hfi;have HZ:Hid (jE rs xs=(bH xs && uf (aQ rs) xs)):=η (by unfold jE; rw [decide_eq_true hp,Bool.true_and]);rw [decide_eq_true hp] at c1;clear hp hfi
  go_enter Tryz.func80,Tryz.ntmps80
  go_wp2_with fail
  refine c1.mono ?_;rintro e w1 ⟨rfl,hb1⟩;clear c1
  go_wp2_with fail
  refine (C2.out _ hb1).mono ?_;rintro e w2 ⟨rfl,hb2⟩;have B2:=hb1.trans (hb2.mono hb1.size);clear C2 hb1 hb2;cases hx:bH xs
  ·have HZ2:Hid (jE rs xs=false):=η (by rw [HZ.out,hx]; rfl)
   clear HZ hx C3;go_wp2;go_ret;exact ⟨aO HZ2.out.symm,B2⟩
  ·have HZ2:Hid (jE rs xs=uf (aQ rs) xs):=η (by rw [HZ.out,hx,Bool.true_and])
   clear HZ hx
   go_wp2_with fail
   refine (C3.out _ B2 HF.out.ok HF.out.few).mono ?_;rintro e w3 ⟨rfl,n,hM,hb3⟩;have B3:=B2.trans (hb3.mono B2.size);have HM:=η hM;have HRG:=η (zN HF.out.ok HF.out.few (xs:=aQ rs) fun a h=>h);have HFM:=η (Vo HF.out.alike);have hlt3:w2.heap.size < w3.heap.size:=hM.lt;clear hM C3 hb3;generalize aQ rs=az at *;go_wp2
   go_loopw [24] (fun i wr=>∃ k:Nat,k≤xs.length∧i=.int .i64 k∧uf az (xs.take k)=true∧iG w2.heap.size n (dN az).1 (dN az).2.1 wr∧Below w.heap.size w wr) (fun i _=>xs.length - (intOf i).toNat)
   case atStart=>exact ⟨0,Nat.zero_le _,rfl,rfl,HM.out,B3⟩
   case round=>
    clear HM;obtain ⟨k,hk,rfl,hall,hM,hb⟩:=hrel;by_cases hlt:k < xs.length
    ·obtain ⟨b,o,Ae,ce,bk,rfl,_,d0,d1,hel,_⟩:=dG (ai.below h2 hb) hlt
     have hk0:(0:Int)≤(k:Int):=by omega
     have hk1:(k:Int) < (xs.length:Int):=by omega
     have hA:Below wr.heap.size wr (wr.alloc (.cells #[.string xs[k].name,.slice Ae xs[k].args.length ce] 68)):=(Below.refl _ _).alloc (Nat.le_refl _) _;have c4:=Hg xs[k] _ _ bk _ _ n _ _ (aj.below hel hA) (hM.below hA hM.lt) HRG.out;rw [← HFM.out xs[k]] at c4;have HS:=η (JO az xs k hlt hall);have HBAD:=η (Ox az xs k hlt);have HM:=η (hM.below hA hM.lt);have HB:=η (hb.trans (hA.mono hb.size));clear h2 hel hA hall hM hb;have HLT:=η hlt;generalize xs[k]=x at *;clear hlt;obtain ⟨xn,xa⟩:=x;dsimp only at *
     go_wp2_with fail
     refine c4.mono ?_;rintro e w5 ⟨rfl,hb5⟩;have B5:=HB.out.trans (hb5.mono HB.out.size);have HM5:=η (HM.out.below hb5 HM.out.lt);clear c4 HM HB;cases hf:Qb az ⟨xn,xa⟩
     ·have HZ3:Hid (jE rs xs=false):=η (by rw [HZ2.out]; exact HBAD.out hf)
      clear hf HS HBAD;go_wp2;go_ret;exact ⟨aO HZ3.out.symm,B5⟩
     ·have HZ3:=η (HS.out.trans hf)
      clear hf HS HBAD;go_wp2;go_roundw
      case rel=>exact ⟨k+1,HLT.out,by go_num,HZ3.out,HM5.out,B5⟩
      case measure=>have:=HLT.out; simp [intOf]; omega
    ·have he:k=xs.length:=by omega
     have hk1:¬ (k:Int) < (xs.length:Int):=by omega
     have HZ3:Hid (jE rs xs=true):=η (by rw [HZ2.out]; rw [he,List.take_of_length_le (Nat.le_refl _)] at hall; exact hall);clear he hall hM h2;go_wp2;go_ret;exact ⟨aO HZ3.out.symm,hb⟩
 ·have HZ:Hid (jE rs xs=false):=η (by unfold jE; rw [decide_eq_false hp]; rfl)
  rw [decide_eq_false hp] at c1;clear hp C2 C3 h2
  go_enter Tryz.func80,Tryz.ntmps80
  go_wp2_with fail
  refine c1.mono ?_;rintro e w1 ⟨rfl,hb1⟩;go_wp2;go_ret;exact ⟨aO HZ.out.symm,hb1⟩
end Go.Proofs.YtiidmgchadagbaaGreatDoor
