/- Of the proof of FnExactProofOk: AllQ, FtsS. -/
import Derived.Test.YtlmngncogomgeaaGreatDoorM40
set_option linter.unusedVariables false
set_option maxHeartbeats 8000000
set_option maxRecDepth 100000
namespace Go.Proofs.YtlmngncogomgeaaGreatDoor
section
open Go.RowKit D
theorem D.VD {rs:List Ru} (h:xX rs) {r:Ru} (hr:r ∈ rs):iq rs r.head.name < rs.length:=by
 obtain ⟨i,hi,rfl⟩:=List.getElem_of_mem hr;obtain ⟨h1,J⟩:=mJ h.cyc;have y:=yF h1;have e:dI rs i=rs[i]:=by unfold dI; simp [List.getD,hi]
 have I:=J i hi;rw [e] at I;rw [← I];unfold kW at y;rw [List.any_eq_false] at y
 have U:iw (aF rs) i ∈ aF rs:=by
  unfold iw; rw [List.getD_eq_getElem?_getD,Ψ (by rw [fF]; exact hi)]; exact δ _
 have:=y _ U;simpa using this
structure D.tK (rs:List Ru) (given:List A) (L:Nat) (fs:List A) (rn:List Nat) (number:Nat) (r:Rd) (fuel:Nat):Prop where
 sim:U6 fs rn r
 ok:oG r
 fact:∀ x ∈ r.1,aT x
 len:r.1.length≤300
 num:number≤r.1.length
 fu:302≤fuel+r.1.length
 run:iy rs given=AL rs (aF rs) (rs.length+1 - L) fuel r number
def D.pF (rs:List Ru) (given:List A) (L:Nat) (fs:List A) (rn:List Nat) (number:Nat):Prop:=∃ r fuel,tK rs given L fs rn number r fuel
def D.pG (rs:List Ru) (given:List A) (L:Nat) (own next:List Ru) (fs:List A) (rn:List Nat) (number:Nat):Prop:=
 (∃ r fuel,tK rs given L fs rn number r fuel∧(∀ q ∈ next,q ∈ own)∧∀ q ∈ own,q ∉ next→∀ t,kE fs q t→t ∈ fs)∨(next = []∧pF rs given (L+1) fs rn number)
open Classical in
noncomputable def D.MW (own:List Ru) (new:List A):List Ru:=own.filter fun q=>q.body.any fun p=>!p.no && decide (∃ t ∈ new,t.name=p.atom.name)
section
variable {rs:List Ru} {given:List A} {L:Nat} {own next:List Ru} {fs:List A} {rn:List Nat} {number fuel:Nat} {r:Rd}
theorem D.tK.UQ (h:tK rs given L fs rn number r fuel):fs.length=r.1.length:=(h.sim.fst h.ok).length_eq
theorem D.tK.facts (h:tK rs given L fs rn number r fuel):∀ x ∈ fs,aT x:=fun x y=>h.fact x ((h.sim.fst h.ok).mem_iff.1 y)
theorem D.pF.few (h:pF rs given L fs rn number):fs.length≤300∧rn.length=fs.length∧number≤fs.length∧∀ x ∈ fs,aT x:=by
 obtain ⟨r,fuel,h⟩:=h;have:=h.UQ;exact ⟨by have:=h.len; omega,h.sim.len,by have:=h.num; omega,h.facts⟩
theorem D.pG.few (h:pG rs given L own next fs rn number):fs.length≤300∧rn.length=fs.length∧number≤fs.length∧∀ x ∈ fs,aT x:=by
 rcases h with ⟨r,fuel,h,_⟩ | ⟨_,h⟩
 ·exact pF.few ⟨r,fuel,h⟩
 ·exact h.few
theorem D.all_start (ha:iF given=true) (hf:∀ x ∈ given,aT x) (y:given.length≤300):pF rs given 0 given (List.replicate given.length 0) 0:=
 ⟨(given,List.replicate given.length 0),302,⟨by simp,List.Perm.refl _⟩,⟨ha,by simp⟩,hf,y,ε,by show 302≤302+given.length; omega,rfl⟩
theorem D.pF.enter (h:pF rs given L fs rn number):pG rs given L own own fs rn number:=by
 obtain ⟨r,fuel,h⟩:=h;exact .inl ⟨r,fuel,h,fun q hq=>hq,fun q hq y=>absurd hq y⟩
theorem D.tK.go (h:tK rs given L fs rn number r fuel) (y:L≤rs.length):∃ f,fuel=f+1∧iy rs given =
  if 300 < (dZ rs (aF rs) L r (number+1)).1.length then (dZ rs (aF rs) L r (number+1),false)
  else if (dZ rs (aF rs) L r (number+1)).1.length=r.1.length then AL rs (aF rs) (rs.length - L) 302 (dZ rs (aF rs) L r (number+1)) number
  else AL rs (aF rs) (rs.length - L+1) f (dZ rs (aF rs) L r (number+1)) (number+1):=by
 have h1:=h.fu;have I:=h.len;obtain ⟨f,rfl⟩:∃ f,fuel=f+1:=⟨fuel - 1,by omega⟩;refine ⟨f,rfl,?_⟩;rw [h.run,show rs.length+1 - L=rs.length - L+1 by omega,AL,show rs.length - (rs.length - L)=L by omega]
theorem D.tK.Ti (H:xX rs) (h:tK rs given L fs rn number r fuel) (n:Nat):oG (dZ rs (aF rs) L r n)∧∀ x ∈ (dZ rs (aF rs) L r n).1,aT x:=
 ⟨(mg h.ok n _).1,(kM H h.fact L n).1⟩
theorem D.pG.done (H:xX rs) (U:L≤rs.length) (y:OwnAt rs L own) (h:pG rs given L own [] fs rn number):pF rs given (L+1) fs rn number:=by
 rcases h with ⟨r,fuel,h,_,h2⟩ | ⟨_,h⟩
 ·obtain ⟨f,rfl,e⟩:=h.go U
  obtain ⟨I,s2⟩:=EO (next:=[]) (new:=[]) (n:=number+1) H h.ok h.fact h.sim (fun q hq=>by simp at hq) (fun q hq J _ t hf=>h2 q ((y q).2 ⟨hq,J⟩) (by simp) t hf) List.nodup_nil (fun t=>by simp);have a0:=h.UQ;have J:=h.len;simp only [List.length_nil,Nat.add_zero] at s2;rw [if_neg (by omega),if_pos (by omega)] at e;simp only [List.append_nil,List.length_nil,List.replicate_zero] at I;obtain ⟨o1,o2⟩:=h.Ti H (number+1);exact ⟨_,302,I,o1,o2,by omega,by have:=h.num; omega,by omega,by rw [e,show rs.length+1 - (L+1)=rs.length - L by omega]⟩
 ·exact h
theorem D.pG.round (H:xX rs) (hL:L≤rs.length) (y:OwnAt rs L own) (h:pG rs given L own next fs rn number) {new:List A} (a0:next ≠ []) (hn:new.Nodup) (I:∀ t,t ∈ new ↔ t ∉ fs∧∃ q ∈ next,kE fs q t) (a5:fs.length+new.length≤300):
  (new = []→pG rs given L own [] fs rn number)∧(new ≠ []→pG rs given L own (MW own new) (fs ++ new) (rn ++ List.replicate new.length (number+1)) (number+1)):=by
 classical
 rcases h with ⟨r,fuel,h,h1,h2⟩ | ⟨h,_⟩
 ·obtain ⟨f,rfl,e⟩:=h.go hL
  obtain ⟨s1,s2⟩:=EO (next:=next) (new:=new) (n:=number+1) H h.ok h.fact h.sim (fun q hq=>(y q).1 (h1 q hq)) (fun q hq hl a1 t hf=>h2 q ((y q).2 ⟨hq,hl⟩) a1 t hf) hn I;have a6:=h.UQ;have hl:=h.len;obtain ⟨o1,o2⟩:=h.Ti H (number+1);refine ⟨fun hz=>?_,fun hz=>?_⟩
  ·subst hz
   simp only [List.length_nil,Nat.add_zero] at s2;rw [if_neg (by omega),if_pos (by omega)] at e;simp only [List.append_nil,List.length_nil,List.replicate_zero] at s1;exact .inr ⟨rfl,_,302,s1,o1,o2,by omega,by have:=h.num; omega,by omega,by rw [e,show rs.length+1 - (L+1)=rs.length - L by omega]⟩
  ·have hp:0 < new.length:=List.length_pos_iff.2 hz
   rw [if_neg (by omega),if_neg (by omega)] at e;have a7:=h.fu;have a8:=h.num;refine .inl ⟨_,f,⟨s1,o1,o2,by omega,by omega,by omega,by rw [e,show rs.length+1 - L=rs.length - L+1 by omega]⟩,fun q hq=>(List.mem_filter.1 hq).1,fun q hq a2 t hf=>?_⟩;have a3:∀ p ∈ q.body,p.no=false→∀ t ∈ new,t.name ≠ p.atom.name:=fun p hp a4 t ht he=>a2 (List.mem_filter.2 ⟨hq,List.any_eq_true.2 ⟨p,hp,by simp [a4]; exact ⟨t,ht,he⟩⟩⟩)
   have J:=JV a3 hf;by_cases hm:t ∈ fs
   ·exact Ξ _ hm
   ·by_cases U:q ∈ next
    ·exact Ω _ ((I t).2 ⟨hm,q,U,J⟩)
    ·exact absurd (h2 q hq U t J) hm
 ·exact absurd h a0
theorem D.pG.over (H:xX rs) (U:L≤rs.length) (y:OwnAt rs L own) (h:pG rs given L own next fs rn number) {new:List A} (J:next ≠ []) (hn:new.Nodup) (I:∀ t ∈ new,t ∉ fs∧∃ q ∈ next,kE fs q t) (hm:300 < fs.length+new.length):(iy rs given).2=false:=by
 rcases h with ⟨r,fuel,h,h1,h2⟩ | ⟨h,_⟩
 ·obtain ⟨f,rfl,e⟩:=h.go U
  have:=S9 (n:=number+1) H h.ok h.fact h.sim (fun q hq=>(y q).1 (h1 q hq)) hn I hm;rw [e,if_pos this]
 ·exact absurd h J
theorem D.pF.fin (H:xX rs) (h:pF rs given rs.length fs rn number):(iy rs given).2=true∧U6 fs rn (iy rs given).1∧oG (iy rs given).1∧(∀ x ∈ fs,aT x)∧fs.length≤300:=by
 have I:OwnAt rs rs.length []:=fun q=>⟨fun h=>by simp at h,fun ⟨h1,y⟩=>by have:=VD H h1; omega⟩
 obtain ⟨r,fuel,y⟩:=(h.enter (own:=[])).done H ν I;have e:=y.run;rw [Nat.sub_self,AL] at e;have hf:=y.UQ;exact ⟨by rw [e],by rw [e]; exact y.sim,by rw [e]; exact y.ok,y.facts,by have:=y.len; omega⟩
end
end
section
open Go.RowKit D
attribute [local go_sem ↓] Go.wp_at_zero Go.wp_at_succ
theorem bind_none (w:World):iC w [.slice none 0 0,.slice none 0 0] [] ([] ++ []):=
 ⟨_,_,[],[],rfl,rfl,⟨_,_,rfl,ν,ε,fun _=>rfl,fun h=>absurd rfl h⟩,⟨_,_,rfl,ν,ε,fun _=>rfl,fun h=>absurd rfl h⟩⟩
theorem D.Pz (ys:List A) (body:List Pt) (b:Bd) (j:Nat) (h:j < body.length):dW ys (body.take (j+1)) b=(dW ys (body.take j) b && (!body[j].no || !hasB ys (aY body[j].atom b))):=by
 unfold dW;rw [ρ h,List.all_append];simp
theorem D.Tj (ys:List A) (body:List Pt) (b:Bd) (j:Nat) (h:j < body.length):(!body[j].no || !hasB ys (aY body[j].atom b))=false→dW ys body b=false:=fun y=>by
 unfold dW;rw [List.all_eq_false];exact ⟨_,δ h,by rw [y]; simp⟩
theorem fits_any (r:Ru) (f:A) (U ys:List A) (c0 c1 c2 f0 f1 v1 v2:Value) (br bf b1 b2:List Nat) (w:World) (h:jk w [c0,c1,c2] r br) (hf:aP w [f0,f1] f bf) (hk:aQ w [v1] U b1) (hy:aQ w [v2] ys b2) (hs:iF ys=true) (hn:r.body.length≤100) (ha:r.head.args.length≤1000∧∀ p ∈ r.body,p.atom.args.length≤1000):
  Calls Tryz.prog 77 #[.agg #[c0,c1,c2],.agg #[f0,f1],v1,v2] w fun e w'=>e=.returned (.bool (iV r f U ys))∧Below w.heap.size w w':=by
 obtain ⟨Ah,ch,Ab,cb,rfl,rfl,rfl⟩:=iK h;obtain ⟨bh,bb,rfl,af,ag⟩:=dX h;obtain ⟨Af,cf,rfl,rfl⟩:=bK hf;obtain ⟨Ak,ck,rfl,bO,bR⟩:=ai hk;obtain ⟨Ay,cy,rfl,_,_⟩:=ai hy;have cW:=ay (τ bO bR);have hA:Below w.heap.size w ((w.alloc (.cells #[.string r.head.name,.slice Ah r.head.args.length ch,.slice Ab r.body.length cb] 77)).alloc (.cells #[.string f.name,.slice Af f.args.length cf] 40)):=(ζ).alloc (by simp) _;have hm:=yL r.head f [] _ _ _ _ _ _ bh bf ([] ++ []) _ (ak.below af hA) (ak.below hf hA) (bind_none _) (by simp) (by omega);clear bO bR
 go_enter Tryz.func77,Tryz.ntmps77
 go_wp2_with fail
 obtain ⟨b0,a9,am⟩:∃ b0 a9,aC r.head f []=(b0,a9):=⟨_,_,rfl⟩;have bi:b0.length≤1000:=by have:=JY (a:=r.head) (f:=f) (b:=[]); rw [am] at this; simp at this; omega
 have bj:Hid (a9=false→iV r f U ys=false):=η fun e=>Px (by rw [am]; exact e)
 rw [am] at hm;refine hm.mono ?_;rintro e J ⟨ab,d0,d1,cv,rfl,ao,cw⟩;obtain ⟨P1,p1,P2,p2,ap⟩:=jD ao;simp only [List.cons.injEq,and_true] at ap;obtain ⟨rfl,rfl⟩:=ap;dsimp only at ao;have aM:Below J.heap.size J (J.alloc (.cells #[.slice P1 b0.length p1,.slice P2 b0.length p2] 198)):=ζ;have bX:=η (hA.trans ((ab.trans (aM.mono ab.size)).mono hA.size));have c3:((w.alloc (.cells #[.string r.head.name,.slice Ah r.head.args.length ch,.slice Ab r.body.length cb] 77)).alloc (.cells #[.string f.name,.slice Af f.args.length cf] 40)).cell? ⟨w.heap.size,2,none⟩=some (.slice Ab r.body.length cb):=by go_simp
 have bk:=ξ (ab.trans (aM.mono ab.size)) c3;have c4:Hid ((J.alloc (.cells #[.slice P1 b0.length p1,.slice P2 b0.length p2] 198)).heap[J.heap.size]? = some (.cells #[.slice P1 b0.length p1,.slice P2 b0.length p2] 198 (0,0))):=η (ω J _);have bp:=η (ι (bJ.below ao aM) (fun c (hc:c ∈ cv)=>Nat.ne_of_lt (bJ.lt ao c hc)));have cX:w.heap.size < J.heap.size:=by have:=ab.size; simp at this; omega
 have HM:=η am;have aq:=η ag;have cx:=η hk;have c5:=η (ι hy hs);have c6:=η ha.2;have cY:(r.body.length:Int)≤100:=by omega
 have HN:=η (ι hn bi);clear hm ab ao cw aM hA h hf hk hy hs ag af c3 am ha hn bi;have ac:Hid (a9=true→jZ r.body U b0 0 0 (b0,true)):=η fun _=>jZ.start _ _ _
 have c7:(aC r.head f []).1=b0:=by rw [HM.out]
 have bt:=η c7;clear c7;generalize hF:iV r f U ys=F at *;have HF:=η hF;clear hF;go_wp2
 go_loopw [10,11,12] (fun ov kv iv wr=>∃ (i k:Nat) (b:Bd) (o:Bool) (Q1 Q2:Option Addr) (q1 q2:Nat) (bs:List Nat),ov=.bool o∧kv=.int .i64 k∧iv=.int .i64 i∧i≤r.body.length∧Hid ((o=true→jZ r.body U b0 i k (b,true)∧a9=true)∧(o=false→F=false))∧b.length≤1000+1000 * i∧
  wr.heap[J.heap.size]? = some (.cells #[.slice Q1 b.length q1,.slice Q2 b.length q2] 198 (0,0))∧iC wr [.slice Q1 b.length q1,.slice Q2 b.length q2] b bs∧(∀ c ∈ bs,c ≠ J.heap.size)∧Below w.heap.size w wr∧wr.cell? ⟨w.heap.size,2,none⟩=some (.slice Ab r.body.length cb)) (fun _ _ i _=>r.body.length - (intOf i).toNat)
 case atStart=>exact ⟨0,0,b0,a9,_,_,_,_,_,rfl,rfl,rfl,ε,η ⟨fun h=>⟨ac.out h,h⟩,bj.out⟩,by have:=HN.out.2; omega,c4.out,bp.out.1,bp.out.2,bX.out,bk⟩
 case round=>
  obtain ⟨i,k,b,o,Q1,Q2,q1,q2,bs,rfl,rfl,rfl,hi,a3,c8,c9,ca,cc,hB,x2⟩:=hrel;have y:=η (ι c9 (ι ca cc));have HB:=η hB;have bu:=η c8;clear c9 ca cc hB c8 bk ac bj c4 bp bX;cases o
  ·have HZ:=η (a3.out.2 rfl)
   by_cases a0:i < r.body.length
   ·have bv:(i:Int) < (r.body.length:Int):=by omega
    clear hi a0;go_wp2;go_ret;exact ⟨aA (HF.out.trans HZ.out).symm,HB.out⟩
   ·have bv:¬ (i:Int) < (r.body.length:Int):=by omega
    clear hi a0;go_wp2;go_ret;exact ⟨aA (HF.out.trans HZ.out).symm,HB.out⟩
  ·by_cases a0:i < r.body.length
   ·have d2:(0:Int)≤(i:Int):=by omega
    have bv:(i:Int) < (r.body.length:Int):=by omega
    obtain ⟨pb,po,Ae,ce,bq,rfl,cz,e0,e1,e2,ar,-⟩:=eU (aU.below aq.out HB.out) a0;have a5:=eX ar;have av:=η a0;have cd:=η (a3.out.1 rfl).2;have bw:=η (fun hn=>(a3.out.1 rfl).1.skip a0 hn);have aR:=η (fun hn hk=>(show jZ r.body U (aC r.head f []).1 i k (b,true) from by rw [bt.out]; exact (a3.out.1 rfl).1).short (f:=f) (ys:=ys) a0 hn hk);have b3:=η (fun hn hk=>(a3.out.1 rfl).1.step a0 hn hk);have b4:=η (c6.out _ (δ a0));generalize hp:r.body[i]=p at *;have HP:=η hp;obtain ⟨bx,px⟩:=p;dsimp only at *;clear ar hi a0 hp
    cases bx with
    | true=>
     clear aR b3 a5 e1 e2;go_wp2;go_roundw
     case rel=>exact ⟨i+1,k,b,true,Q1,Q2,q1,q2,bs,rfl,rfl,by go_num,av.out,η ⟨fun _=>⟨bw.out rfl,cd.out⟩,fun h=>by cases h⟩,by have:=bu.out; omega,y.out.1,y.out.2.1,y.out.2.2,HB.out,x2⟩
     case measure=>have:=av.out; simp [intOf]; omega
    | false=>
     by_cases ae:k < U.length
     ·have d3:(0:Int)≤(k:Int):=by omega
      have cA:¬ (U.length:Int)≤(k:Int):=by omega
      have d4:(k:Int) < (U.length:Int):=by omega
      obtain ⟨kb,ko,Ag,cg,bg,rfl,-,g0,g1,ci,-⟩:=dQ (au.below cx.out HB.out) ae;have d5:=η ae;have ac:=η (b3.out rfl ae);have hm:=fun w' (hb:Below wr.heap.size wr w')=>yL px U[k] b _ _ _ _ _ _ bq bg bs w' (ak.below a5 hb) (ak.below ci hb) (bJ.below y.out.2.1 hb) (by have:=bu.out; have:=av.out; have:=HN.out.1; omega) (by have:=b4.out; omega)
      clear bw aR b3 a5 ci;generalize U[k]=g at *;have z0:wr.cell? ⟨J.heap.size,0,none⟩=some (.slice Q1 b.length q1):=aj y.out.1;have z1:wr.cell? ⟨J.heap.size,1,none⟩=some (.slice Q2 b.length q2):=aj y.out.1;have cj:wr.frozen? ⟨J.heap.size,0,none⟩=false:=aB y.out.1;have cl:wr.frozen? ⟨J.heap.size,1,none⟩=false:=aB y.out.1;have cB:=η hm;have a6:=η y.out;have cD:=η x2;clear hm ae;go_wp2
      go_region_law
       (first
        | (go_simp; go_at_call 135; refine (cB.out _ (Below.drew ϑ)).mono ?_; rintro e w2 ⟨a1,d0,d1,bz,rfl,aw,az⟩; obtain ⟨B3,q3,B4,q4,ap⟩:=jD aw; simp only [List.cons.injEq,and_true] at ap; obtain ⟨rfl,rfl⟩:=ap; have a2:=(Below.drew (Below.refl wr.heap.size wr)).trans a1; have bA:=η a2; replace z0:=ξ a2 z0; replace z1:=ξ a2 z1; replace cj:w2.frozen? ⟨J.heap.size,0,none⟩=false:=aB ((a2.block _ (ψ a6.out.1)).trans a6.out.1); replace cl:w2.frozen? ⟨J.heap.size,1,none⟩=false:=aB ((a2.block _ (ψ a6.out.1)).trans a6.out.1); have bl:=η (ι aw az); clear a1 a2 aw az))
      all_goals
       have cE:=JY (a:=px) (f:=g) (b:=b);generalize hmb:aC px g b=mb at *;obtain ⟨b9,o9⟩:=mb;dsimp only at *;have bn:=(bA.out.block _ (ψ a6.out.1)).trans a6.out.1;have cG:=η (ξ bA.out cD.out);have a7:=η (HB.out.trans (bA.out.mono HB.out.size));have cm:Hid (∀ c ∈ bz,c ≠ J.heap.size):=η fun c hc=>(bl.out.2 c hc).elim (a6.out.2.2 c) (fun h=>by have h9:=ψ a6.out.1; have h8:wr.heap.size≤c:=h; omega)
       have bo:Hid (((w2.setCell ⟨J.heap.size,0,none⟩ (.slice B3 b9.length q3)).setCell ⟨J.heap.size,1,none⟩ (.slice B4 b9.length q4)).heap[J.heap.size]? = some (.cells #[.slice B3 b9.length q3,.slice B4 b9.length q4] 198 (0,0))∧iC ((w2.setCell ⟨J.heap.size,0,none⟩ (.slice B3 b9.length q3)).setCell ⟨J.heap.size,1,none⟩ (.slice B4 b9.length q4)) [.slice B3 b9.length q3,.slice B4 b9.length q4] b9 bz):=η ⟨Aq (Qp bn),lY bl.out.1 fun h=>cm.out _ h rfl⟩;have cI:=η (show b9.length≤1000+1000 * (i+1) from by have:=bu.out; have:=b4.out; omega);have cJ:Hid (Below w.heap.size w ((w2.setCell ⟨J.heap.size,0,none⟩ (.slice B3 b9.length q3)).setCell ⟨J.heap.size,1,none⟩ (.slice B4 b9.length q4))):=η ((a7.out.setCell (p:=⟨J.heap.size,0,none⟩) (by dsimp only; omega) _).setCell (p:=⟨J.heap.size,1,none⟩) (by dsimp only; omega) _)
       have cK:Hid (((w2.setCell ⟨J.heap.size,0,none⟩ (.slice B3 b9.length q3)).setCell ⟨J.heap.size,1,none⟩ (.slice B4 b9.length q4)).cell? ⟨w.heap.size,2,none⟩=some (.slice (some ⟨pb,po,none⟩) r.body.length cb)):=η (by
        rw [World.cell?_of_block (π _ _ _ _ (by dsimp only; omega)),World.cell?_of_block (π _ _ _ _ (by dsimp only; omega))]
        exact cG.out)
       have cL:Hid ((o9=true→jZ r.body U b0 (i+1) (k+1) (b9,true)∧a9=true)∧(o9=false→F=false)):=η ⟨fun e=>⟨by rw [← e]; exact ac.out,cd.out⟩,fun e=>by
        rw [← HF.out]
        exact jZ.bad (m:=(b9,o9)) (by rw [bt.out]; exact ac.out) e⟩
       clear cE hmb bn ac z0 z1 cj cl;go_wp2;go_roundw
       case rel=>exact ⟨i+1,k+1,b9,o9,B3,B4,q3,q4,bz,rfl,by go_num,by go_num,av.out,cL,cI.out,bo.out.1,bo.out.2,cm.out,cJ.out,cK.out⟩
       case measure=>have:=av.out; simp [intOf]; omega
     ·have cA:(U.length:Int)≤(k:Int):=by omega
      have HZ:=η (aR.out rfl ae);clear bw b3 aR a5 e1 e2 ae;go_wp2;go_ret;exact ⟨aA HZ.out.symm,HB.out⟩
   ·have bv:¬ (i:Int) < (r.body.length:Int):=by omega
    have cP:i=r.body.length:=by omega
    subst cP
    have b5:Hid (iV r f U ys=(decide (k=U.length) && dW ys r.body b)):=η (by
     have h9:=(a3.out.1 rfl).1;rw [← bt.out] at h9
     exact h9.full (by rw [HM.out]; exact (a3.out.1 rfl).2))
    have d6:=η (a3.out.1 rfl).1.hk;clear a3 hi a0;by_cases aD:k=U.length
    ·have cQ:((k:Int) != (U.length:Int))=false:=by rw [aD]; simp
     have b6:Hid (iV r f U ys=dW ys r.body b):=η (by rw [b5.out,decide_eq_true aD,Bool.true_and]);clear b5 aD;go_wp2
     go_loopw [13] (fun jv cT=>∃ j:Nat,j≤r.body.length∧jv=.int .i64 j∧dW ys (r.body.take j) b=true∧Below wr.heap.size wr cT) (fun j _=>r.body.length - (intOf j).toNat)
     case atStart=>exact ⟨0,ε,rfl,rfl,ϑ⟩
     case round=>
      obtain ⟨j,hj,rfl,cn,a1⟩:=hrel;have bB:=η cn;have a7:=η (HB.out.trans (a1.mono HB.out.size));have y2:=ξ a1 x2;have co:=η (bJ.below y.out.2.1 a1);have z0:=ξ a1 (aj y.out.1 (o:=0));have z1:=ξ a1 (aj y.out.1 (o:=1));have aE:=η a1;clear cn a1;by_cases aa:j < r.body.length
      ·have d7:(0:Int)≤(j:Int):=by omega
       have cU:(j:Int) < (r.body.length:Int):=by omega
       obtain ⟨pb,po,Ae,ce,bq,rfl,cz,e0,e1,e2,ar,-⟩:=eU (aU.below aq.out a7.out) aa;have a5:=eX ar;have b7:=η aa;have aL:=η (Pz ys r.body b j aa);have bc:=η (Tj ys r.body b j aa);have b4:=η (c6.out _ (δ aa));generalize r.body[j]=p at *;obtain ⟨bx,px⟩:=p;dsimp only at *;clear ar hj aa
       cases bx with
       | false=>
        have bE:Hid (dW ys (r.body.take (j+1)) b=true):=η (by rw [aL.out,bB.out]; rfl);clear aL bc a5;go_wp2;refine wp_region_held_drew (S:=(fun w'=>w'.cell? ⟨w.heap.size,2,none⟩=some (.slice (some ⟨pb,po,none⟩) r.body.length cb)∧w'.cell? ⟨pb,po+j * 3,none⟩=some (.bool false))) (by kernel_rfl) ?_ (fun bL=>?_)
        ·go_keep
        refine dB 0 (v:=?_) rfl (by kernel_rfl) (fun _ _ _ h=>h) ?_ (by assumption) ?_
        rotate_left
        ·(intro w I; (try dsimp only at I); go_simp); (first | done | with_reducible rfl)
        try simp only [Act.put,List.setIfInBounds_toArray,List.set_cons_zero,List.set_cons_succ]
        refine dB 1 (v:=?_) rfl (by kernel_rfl) (fun _ _ _ h=>h) ?_ (by assumption) ?_
        rotate_left
        ·(intro w I; (try dsimp only at I); go_simp); (first | done | with_reducible rfl)
        try simp only [Act.put,List.setIfInBounds_toArray,List.set_cons_zero,List.set_cons_succ]
        refine dB 2 (v:=?_) rfl (by kernel_rfl) (fun _ _ _ h=>h) ?_ (by assumption) ?_
        rotate_left
        ·(intro w I; (try dsimp only at I); go_simp); (first | done | with_reducible rfl)
        try simp only [Act.put,List.setIfInBounds_toArray,List.set_cons_zero,List.set_cons_succ]
        refine dB 3 (v:=?_) rfl (by kernel_rfl) (fun _ _ _ h=>h) ?_ (by assumption) ?_
        rotate_left
        ·(intro w I; (try dsimp only at I); go_simp); (first | done | with_reducible rfl)
        try simp only [Act.put,List.setIfInBounds_toArray,List.set_cons_zero,List.set_cons_succ]
        refine dB 4 (v:=?_) rfl (by kernel_rfl) (fun _ _ _ h=>h) ?_ (by assumption) ?_
        rotate_left
        ·(intro w I; (try dsimp only at I); go_simp); (first | done | with_reducible rfl)
        try simp only [Act.put,List.setIfInBounds_toArray,List.set_cons_zero,List.set_cons_succ]
        refine dB 5 (v:=?_) rfl (by kernel_rfl) (fun _ _ _ h=>h) ?_ (by assumption) ?_
        rotate_left
        ·(intro w I; (try dsimp only at I); go_simp); (first | done | with_reducible rfl)
        try simp only [Act.put,List.setIfInBounds_toArray,List.set_cons_zero,List.set_cons_succ]
        refine dB 6 (v:=?_) rfl (by kernel_rfl) (fun _ _ _ h=>h) ?_ (by assumption) ?_
        rotate_left
        ·(intro w I; (try dsimp only at I); go_simp); (first | done | with_reducible rfl)
        try simp only [Act.put,List.setIfInBounds_toArray,List.set_cons_zero,List.set_cons_succ]
        refine bP 7 rfl (by kernel_rfl) (fun _ _ _ h=>h) (by assumption) ?_;refine bP 8 rfl (by kernel_rfl) (fun _ _ _ h=>h) (by assumption) ?_;refine bP 9 rfl (by kernel_rfl) (fun _ _ _ h=>h) (by assumption) ?_;refine bP 10 rfl (by kernel_rfl) (fun _ _ _ h=>h) (by assumption) ?_;refine bP 11 rfl (by kernel_rfl) (fun _ _ _ h=>h) (by assumption) ?_;refine bP 12 rfl (by kernel_rfl) (fun _ _ _ h=>h) (by assumption) ?_;refine bP 13 rfl (by kernel_rfl) (fun _ _ _ h=>h) (by assumption) ?_;refine bP 14 rfl (by kernel_rfl) (fun _ _ _ h=>h) (by assumption) ?_;refine bP 15 rfl (by kernel_rfl) (fun _ _ _ h=>h) (by assumption) ?_;refine bP 16 rfl (by kernel_rfl) (fun _ _ _ h=>h) (by assumption) ?_
        try simp only [Act.put,List.setIfInBounds_toArray,List.set_cons_zero,List.set_cons_succ]
        refine dB 17 (v:=?_) rfl (by kernel_rfl) (fun _ _ _ h=>h) ?_ (by assumption) ?_
        rotate_left
        ·(intro w I; (try dsimp only at I); go_simp); (first | done | with_reducible rfl)
        try simp only [Act.put,List.setIfInBounds_toArray,List.set_cons_zero,List.set_cons_succ]
        clear bL;refine wpAnyH_done (by kernel_rfl) ?_ _;go_wp2;go_roundw
        case rel=>exact ⟨j+1,b7.out,by go_num,bE.out,aE.out.drew⟩
        case measure=>have:=b7.out; simp [intOf]; omega
       | true=>
        have cV:=η (fun w' (hb:Below wr.heap.size wr w')=>CO px b _ _ _ _ bq bs w' (ak.below a5 hb) (bJ.below co.out hb) (by have:=b4.out; omega));have B0:=Below.refl wr.heap.size wr;generalize hfb:aY px b=fb at *;clear hfb a5;go_wp2
        go_region_held3 (fun w'=>w'.cell? ⟨w.heap.size,2,none⟩=some (.slice (some ⟨pb,po,none⟩) r.body.length cb)∧w'.cell? ⟨pb,po+j * 3,none⟩=some (.bool true)∧w'.cell? ⟨pb,po+j * 3+1,none⟩=some (.string px.name)∧w'.cell? ⟨pb,po+j * 3+2,none⟩=some (.slice Ae px.args.length ce)∧w'.cell? ⟨J.heap.size,0,none⟩=some (.slice Q1 b.length q1)∧w'.cell? ⟨J.heap.size,1,none⟩=some (.slice Q2 b.length q2)) (first | go_keep | exact ⟨y2,e0,e1,e2,z0,z1⟩)
         (first
          | (go_at_call 131; have hz:=cV.out _ B0.drew; (with_reducible refine Calls.mono hz ?_); clear hz; rintro e w8 ⟨a4,d0,d1,b8,rfl,cp,_⟩; have hh:=yI ys fb _ d0 d1 b2 b8 w8 (au.below c5.out.1 (a7.out.trans ((B0.drew.trans (a4.mono (Below.size B0.drew))).mono a7.out.size))) cp c5.out.2; have B8:=B0.drew.trans (a4.mono (Below.size B0.drew)); replace y2:=ξ a4 y2; replace e0:=ξ a4 e0; replace e1:=ξ a4 e1; replace e2:=ξ a4 e2; replace z0:=ξ a4 z0; replace z1:=ξ a4 z1; clear cp a4)
          | (go_at_call 71; (with_reducible refine Calls.mono hh ?_); rintro e w9 ⟨rfl,a8⟩; have B9:=B8.trans (a8.mono (Below.size B8)); replace y2:=ξ a8 y2; replace e0:=ξ a8 e0; replace e1:=ξ a8 e1; replace e2:=ξ a8 e2; replace z0:=ξ a8 z0; replace z1:=ξ a8 z1; clear hh a8))
        have cq:=η B9;cases hhv:hasB ys fb
        ·have bE:Hid (dW ys (r.body.take (j+1)) b=true):=η (by rw [aL.out,bB.out,hhv]; rfl)
         clear aL bc B9 B8 hhv;go_wp2;go_roundw
         case rel=>exact ⟨j+1,b7.out,by go_num,bE.out,aE.out.trans (cq.out.mono aE.out.size)⟩
         case measure=>have:=b7.out; simp [intOf]; omega
        ·have HZ:Hid (iV r f U ys=false):=η (by rw [b6.out]; exact bc.out (by rw [hhv]; rfl))
         clear aL bc B9 B8 hhv;go_wp2;go_ret;exact ⟨aA HZ.out.symm,a7.out.trans (cq.out.mono a7.out.size)⟩
      ·have cU:¬ (j:Int) < (r.body.length:Int):=by omega
       have cr:j=r.body.length:=by omega
       have HZ:Hid (iV r f U ys=true):=η (by rw [b6.out,← bB.out,cr,ϕ ν]);clear hj aa cr;go_wp2;go_ret;exact ⟨aA HZ.out.symm,a7.out⟩
    ·have cQ:((k:Int) != (U.length:Int))=true:=by rw [bne_iff_ne]; omega
     have b6:Hid (iV r f U ys=false):=η (by rw [b5.out,decide_eq_false aD,Bool.false_and]);clear b5 aD;go_wp2;go_ret;exact ⟨aA b6.out.symm,HB.out⟩
end
end Go.Proofs.YtlmngncogomgeaaGreatDoor
