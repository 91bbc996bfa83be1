/- Of the proof of FnEvalOnly: PatI, WoS. -/
import Derived.Deep.RegionHeldLaw
import Derived.Test.YtkjinanbccloeaaGreatDoorB13
import Derived.Test.YtkjinanbccloeaaGreatDoorB14
set_option linter.unusedVariables false
set_option maxHeartbeats 4000000
set_option maxRecDepth 100000
namespace Go.Proofs.YtkjinanbccloeaaGreatDoor
open Go.RowKit D
attribute [local go_sem ↓] Go.wp_at_zero Go.wp_at_succ
theorem Tm:(Tryz.prog.info? 244).map (fun i=>(i.zero,i.size,i.bytes))=some (some (.agg #[.int .i64 0,.string ⟨#[]⟩]),2,24):=by kernel_rfl
theorem P5 (s:ByteArray) (w:World):(Instr.typeAssert (.iface 245 (.string s)) 239 241 true).run Tryz.prog w=.ok (.tuple #[.string ⟨#[]⟩,.bool false]) w:=by kernel_rfl
theorem D.P6:(⟨#[]⟩:ByteArray).size≤maxLen:=by decide
theorem zn (vars:List ByteArray) (a:A) (A1 A2:Option Addr) (n1 q1 n2 q2:Nat) (v3 c0 c1:Value) (b3 b1:List Nat) (w:World) (hv:ji w [v3] vars b3) (hs:qL vars) (aE:vars.length≤1000000) (h:aG w [c0,c1] a b1) (hin:∀ t ∈ a.args,t.var=true→t.name ∈ vars) (bq:a.args.length≤1000000):
  Calls Tryz.prog 114 #[.agg #[.slice A1 n1 q1,.slice A2 n2 q2,v3],.agg #[c0,c1]] w fun e w'=>∃ v bs,e=.returned (.agg #[.string a.name,v])∧Below w.heap.size w w'∧a.name.size≤maxLen∧jS vars w' [v] a.args bs∧New w.heap.size w' bs:=by
 obtain ⟨i0,hi,aL,aM,aR⟩:=info_parts Tm;obtain ⟨nm,args⟩:=a;obtain ⟨Ae,ce,rfl,rfl⟩:=aY h;obtain ⟨A3,y,rfl,_⟩:=ak hv;have am:nm.size≤maxLen:=by obtain ⟨_,_,h1,_⟩:=h; exact h1
 have ht:=dm h;dsimp only at ht hin bq am ⊢;have br:=η hin;have bt:=η am;have HS:=η (ι hs aE);have HT:=η ht;have HV:=η hv;clear h hs aE hin am ht hv
 go_enter Tryz.func114,Tryz.ntmps114
 have hA:Below w.heap.size w ((((w.alloc (.cells #[.slice A1 n1 q1,.slice A2 n2 q2,.slice A3 vars.length y] 164)).alloc (.cells #[.string nm,.slice Ae args.length ce] 33)).alloc (.cells #[.string ⟨#[]⟩,.slice none 0 0] 168)).alloc (.cells #[.string nm,.slice none 0 0] 168)):=(((ζ).alloc (by simp) _).alloc (by simp; omega) _).alloc (by simp; omega) _
 have hq:((((w.alloc (.cells #[.slice A1 n1 q1,.slice A2 n2 q2,.slice A3 vars.length y] 164)).alloc (.cells #[.string nm,.slice Ae args.length ce] 33)).alloc (.cells #[.string ⟨#[]⟩,.slice none 0 0] 168)).alloc (.cells #[.string nm,.slice none 0 0] 168)).heap[w.heap.size]? = some (.cells #[.slice A1 n1 q1,.slice A2 n2 q2,.slice A3 vars.length y] 164 (0,0)):=by
  rw [Below.heap_alloc _ _ _ (by simp; omega),Below.heap_alloc _ _ _ (by simp; omega),Below.heap_alloc _ _ _ (by simp)]; exact ω _ _
 have b2:((((w.alloc (.cells #[.slice A1 n1 q1,.slice A2 n2 q2,.slice A3 vars.length y] 164)).alloc (.cells #[.string nm,.slice Ae args.length ce] 33)).alloc (.cells #[.string ⟨#[]⟩,.slice none 0 0] 168)).alloc (.cells #[.string nm,.slice none 0 0] 168)).heap[w.heap.size+2]? = some (.cells #[.string ⟨#[]⟩,.slice none 0 0] 168 (0,0)):=by
  rw [Below.heap_alloc _ _ _ (by simp)];have:=ω ((w.alloc (.cells #[.slice A1 n1 q1,.slice A2 n2 q2,.slice A3 vars.length y] 164)).alloc (.cells #[.string nm,.slice Ae args.length ce] 33)) (.cells #[.string ⟨#[]⟩,.slice none 0 0] 168);simpa using this
 have b4:((((w.alloc (.cells #[.slice A1 n1 q1,.slice A2 n2 q2,.slice A3 vars.length y] 164)).alloc (.cells #[.string nm,.slice Ae args.length ce] 33)).alloc (.cells #[.string ⟨#[]⟩,.slice none 0 0] 168)).alloc (.cells #[.string nm,.slice none 0 0] 168)).heap[w.heap.size+3]? = some (.cells #[.string nm,.slice none 0 0] 168 (0,0)):=by
  have:=ω (((w.alloc (.cells #[.slice A1 n1 q1,.slice A2 n2 q2,.slice A3 vars.length y] 164)).alloc (.cells #[.string nm,.slice Ae args.length ce] 33)).alloc (.cells #[.string ⟨#[]⟩,.slice none 0 0] 168)) (.cells #[.string nm,.slice none 0 0] 168);simpa using this
 have b5:Hid (wK 2 (Dc vars) 244 168 w (w.heap.size+2) (w.heap.size+3) (w.heap.size+4) nm (.slice none 0 0) [] [] ((((w.alloc (.cells #[.slice A1 n1 q1,.slice A2 n2 q2,.slice A3 vars.length y] 164)).alloc (.cells #[.string nm,.slice Ae args.length ce] 33)).alloc (.cells #[.string ⟨#[]⟩,.slice none 0 0] 168)).alloc (.cells #[.string nm,.slice none 0 0] 168))):=
  η ⟨b2,b4,by omega,by omega,by omega,aZ.nil _,hA,by simp⟩
 have HQ:=η hq;clear hA hq b2 b4;go_wp2;generalize ((((w.alloc (.cells #[.slice A1 n1 q1,.slice A2 n2 q2,.slice A3 vars.length y] 164)).alloc (.cells #[.string nm,.slice Ae args.length ce] 33)).alloc (.cells #[.string ⟨#[]⟩,.slice none 0 0] 168)).alloc (.cells #[.string nm,.slice none 0 0] 168))=W at *
 go_loopw [18] (fun i wr=>∃ (k:Nat) (Av:Option Addr) (cv:Nat) (L:List Value),k≤args.length∧i=.int .i64 k∧wK 2 (Dc vars) 244 168 w (w.heap.size+2) (w.heap.size+3) (w.heap.size+4) nm (.slice Av k cv) L (args.take k) wr∧wr.heap[w.heap.size]? = some (.cells #[.slice A1 n1 q1,.slice A2 n2 q2,.slice A3 vars.length y] 164 (0,0))) (fun i _=>args.length - (intOf i).toNat)
 case atStart=>exact ⟨0,none,0,[],ε,rfl,b5.out,HQ.out⟩
 case round=>
  obtain ⟨k,Av,cv,L,hk,rfl,hI,hq⟩:=hrel;clear b5 HQ;by_cases a9:k < args.length
  ·obtain ⟨b,o,rfl,_,f0,f1,b6⟩:=dY (aN.below HT.out (hI.bel.mono ν)) a9
   have bz:(0:Int)≤(k:Int):=by omega
   have bu:(k:Int) < (args.length:Int):=by omega
   have af:=η a9;have b7:=η (ρ a9);have ao:Below wr.heap.size wr (wr.alloc (.cells #[.bool args[k].var,.string args[k].name] 91)):=ζ;have aa:=η (hI.later (fP vars) ao);have a0:=η ((ao.block _ (ψ hq)).trans hq);have b8:=η (br.out args[k] (δ a9));have a4:=fun w=>uI args[k] w
   have bv:=η b6;have bc:Hid (((args.take k).length)=k):=η (by simp; omega);have bf:Hid (k+1≤maxLen):=η (by unfold maxLen; omega);have bg:Hid ((k+1) * 24≤140737488355328):=η (by omega);have a1:=Ci;have a2:=P5;have a3:=Jj;clear hI hq ao b6 hk;generalize args[k]=t at *;clear a9;obtain ⟨tv,U⟩:=t;dsimp only at *;cases tv
   ·have ag:=fun w=>vT U w
    have HR:Hid (∀ w,Dc vars w [.int .i64 (-1),.string U] ⟨false,U⟩ []):=η fun w=>⟨rfl,bv.out,rfl⟩
    simp only [Bool.false_eq_true,if_false] at a4
    go_wp2_with fail
    refine (a4 _).mono ?_;rintro e w2 ⟨rfl,J⟩;have a5:=η (aa.out.later (fP vars) (J.trans ϑ.drew));have I:=aa.out.later (fP vars) J;have a6:=(J.block _ (ψ a0.out)).trans a0.out;have a7:=η a6;have q1:w2.cell? ⟨w.heap.size+3,1,none⟩=some (.slice Av k cv):=ai I.r1;have q2:w2.frozen? ⟨w.heap.size+3,1,none⟩=false:=ax I.r1;have q3:w.heap.size+3 < w2.heap.size:=ψ I.r1;have HL:=η (a5.out.lit (fP vars) (Df vars) HR.out);have ET:(vars.idxOf U:Nat)=(vars.idxOf U:Nat):=rfl;clear a4 aa a0 I a6 HR ET;go_wp2
    go_region_law
     (first
      | (go_simp; go_at_call 177; refine (ag _).mono ?_; rintro e w5 ⟨rfl,rfl⟩)
      | (refine aT (by rfl) (.tmp 46) (.tmp 50) _ (by rfl) (w.heap.size+4) 244 i0 (.agg #[.int .i64 0,.string ⟨#[]⟩]) 2 24 Tryz.underlying166 hi aL aM aR rfl (Θ 1) (fP vars) (.slice Av k cv) k L _ [] (by rfl) HL.out.1 bc.out (some ⟨w2.heap.size,0,none⟩) 1 1 _ [⟨false,U⟩] _ (by rfl) HL.out.2.1 rfl HL.out.2.2.1 (fun b hb=>by simp at hb) bf.out bg.out w2.drew (w.heap.size+4) HL.out.2.2.2.1 ν HL.out.2.2.2.2 ?_; intro A5 c5 w5 ab ac ap aq; have HZ:=η (a5.out.app (fP vars) ab ac); replace q1:=HZ.out.1; replace q2:=HZ.out.2.1; clear ab ac ap aq))
    all_goals
     have ar:=η HZ.out.2.2.1;have av:=η ((HZ.out.2.2.2 w.heap.size (by omega) (by omega)).trans a7.out);clear a5 HL HZ a7 q1 q2 q3;go_wp2;go_roundw
     case rel=>exact ⟨k+1,A5,c5,_,af.out,by go_num,by rw [b7.out]; exact ar.out,av.out⟩
     case measure=>have:=af.out; simp [intOf]; omega
   ·simp only [if_true] at a4
    have ag:=fun w=>qP U w
    have aw:Hid (∀ w',Below w.heap.size w w'→Calls Tryz.prog 175 #[.slice A3 vars.length y,.string U] w' fun e bw=>e=.returned (.tuple #[.int .i64 (vars.idxOf U:Nat),.bool true])∧Below w'.heap.size w' bw):=
     η fun w' hb=>Jl vars U _ b3 w' (bV.below HV.out hb) HS.out.1 (b8.out rfl) HS.out.2
    have HR:Hid (∀ w,Dc vars w [.int .i64 (vars.idxOf U:Nat),.string ⟨#[]⟩] ⟨true,U⟩ []):=η fun w=>⟨rfl,P6,rfl⟩
    obtain ⟨x,hx⟩:∃ x,x=vars.idxOf U:=⟨_,rfl⟩;rw [← hx] at HR aw;clear hx
    go_wp2_with fail
    refine (a4 _).mono ?_;rintro e w2 ⟨rfl,J⟩;have I:=aa.out.later (fP vars) J;have a6:=(J.block _ (ψ a0.out)).trans a0.out;have bh:=η I.bel;have a5:=η I;have a7:=η a6;have q1:w2.cell? ⟨w.heap.size,2,none⟩=some (.slice A3 vars.length y):=ai a6;have bi:=aw.out w2.drew bh.out.drew;clear a4 aa a0 I a6 aw J;go_wp2
    go_region_held3 (fun w'=>w'.cell? ⟨w.heap.size,2,none⟩=some (.slice A3 vars.length y))
     (first | go_keep | exact y0)
     (first
      | (go_at_call 176; refine (ag _).mono ?_; rintro e w5 ⟨rfl,rfl⟩; have y0:=q1)
      | (go_at_call 175; refine bi.mono ?_; rintro e w3 ⟨rfl,az⟩; have y0:=ξ az q1))
    have ae:Below w2.heap.size w2 w3:=ϑ.drew.trans az;have a8:=a5.out.later (fP vars) ae;have bj:=η a8;have bk:=η ((ae.block _ (ψ a7.out)).trans a7.out);have HL:=η (a8.lit (fP vars) (Df vars) HR.out);have q1:w3.cell? ⟨w.heap.size+3,1,none⟩=some (.slice Av k cv):=ai a8.r1;have q2:w3.frozen? ⟨w.heap.size+3,1,none⟩=false:=ax a8.r1;have q3:w.heap.size+3 < w3.heap.size:=ψ a8.r1;clear ae a8 a5 a7 bi bh ag HR az
    go_wp2_with (first | (at_builtin; refine bW (by rfl) (.tmp 36) (.tmp 39) _ (by rfl) (w.heap.size+4) 244 i0 (.agg #[.int .i64 0,.string ⟨#[]⟩]) 2 24 Tryz.underlying166 hi aL aM aR rfl (Θ 1) (fP vars) (.slice Av k cv) k L _ [] (by rfl) HL.out.1 bc.out (some ⟨w3.heap.size,0,none⟩) 1 1 _ [⟨true,U⟩] _ (by rfl) HL.out.2.1 rfl HL.out.2.2.1 (fun b hb=>by simp at hb) bf.out bg.out w3 (w.heap.size+4) HL.out.2.2.2.1 ν HL.out.2.2.2.2 ?_; intro A5 c5 w5 ab ac ap aq; have HZ:=η (bj.out.app (fP vars) ab ac); replace q1:=HZ.out.1; replace q2:=HZ.out.2.1; clear ab ac ap aq) | go_in)
    have ar:=η HZ.out.2.2.1;have av:=η ((HZ.out.2.2.2 w.heap.size (by omega) (by omega)).trans bk.out);clear bj HL HZ bk q1 q2 q3;go_wp2;go_roundw
    case rel=>exact ⟨k+1,A5,c5,_,af.out,by go_num,by rw [b7.out]; exact ar.out,av.out⟩
    case measure=>have:=af.out; simp [intOf]; omega
  ·have he:k=args.length:=by omega
   have bu:¬ (k:Int) < (args.length:Int):=by omega
   obtain ⟨W9,bl,bn,aD,b9,bo,bp⟩:=hI.done (fP vars);have y0:wr.cell? ⟨w.heap.size+3,0,none⟩=some (.string nm):=ai hI.r1;have y1:wr.cell? ⟨w.heap.size+3,1,none⟩=some (.slice Av k cv):=ai hI.r1;have f0:wr.frozen? ⟨w.heap.size+2,0,none⟩=false:=ax hI.r0;have f1:wr.frozen? ⟨w.heap.size+2,1,none⟩=false:=ax hI.r0;have z0:wr.cell? ⟨w.heap.size+2,0,none⟩=some (.string ⟨#[]⟩):=ai hI.r0;have z1:wr.cell? ⟨w.heap.size+2,1,none⟩=some (.slice none 0 0):=ai hI.r0;have u0:W9.cell? ⟨w.heap.size+2,0,none⟩=some (.string nm):=ai aD;have u1:W9.cell? ⟨w.heap.size+2,1,none⟩=some (.slice Av k cv):=ai aD
   have HD:Hid (∃ v bs,Ending.returned (.agg #[.string nm,.slice Av k cv])=.returned (.agg #[.string nm,v])∧Below w.heap.size w W9∧nm.size≤maxLen∧jS vars W9 [v] args bs∧New w.heap.size W9 bs):=
    η ⟨_,b9,rfl,bn,bt.out,by rw [← ϕ (Nat.le_of_eq he.symm) (l:=args)]; exact bo,bp.mono (by omega)⟩
   have bx:=η bl;have HU:=η (ι u0 u1);clear hI hq bn aD bo bp bl he u0 u1;go_wp2;rw [← bx.out];refine bodyPost_ret (v:=.agg #[.string nm,.slice Av k cv]) (by simp [results,Tryz.results114,go_sem,HU.out.1,HU.out.2]) rfl (by obtain ⟨v,bs,q1,q2,q3,q4,q5⟩:=HD.out; exact ⟨v,q1,q2,q3,bs,q4,q5⟩)
theorem FW:(Tryz.prog.info? 234).map (fun i=>(i.zero,i.size,i.bytes))=some (some (.agg #[.slice none 0 0,.slice none 0 0]),2,48):=by kernel_rfl
theorem D.uS:zD 2 iY:=fun h=>by
 obtain ⟨s,v,I,J,rfl,_,h1,y⟩:=h;obtain ⟨U,p1,rfl,_⟩:=ak h1;obtain ⟨A2,p2,rfl,_⟩:=ak y;simp [Value.oneCell']
theorem D.wR {w:World} {Ad:Option Addr} {len cap k:Nat} {xs:List Bd} {bs:List Nat} (h:qO w [.slice Ad len cap] xs bs) (hk:k < xs.length):
  ∃ b o J p1 U p2 bk,Ad=some ⟨b,o,none⟩∧b ∈ bs∧w.cell? ⟨b,o+k * 2,none⟩=some (.slice J xs[k].length p1)∧w.cell? ⟨b,o+k * 2+1,none⟩=some (.slice U xs[k].length p2)∧iY w [.slice J xs[k].length p1,.slice U xs[k].length p2] xs[k] bk∧∀ c ∈ bk,c ∈ bs:=by
 obtain ⟨b,o,cs,bk,rfl,hb,a0,y,hR,I⟩:=iD h hk;obtain ⟨J,p1,U,p2,rfl⟩:=lm hR;exact ⟨b,o,J,p1,U,p2,bk,rfl,hb,by simpa using y 0 _ rfl,by simpa [Nat.add_assoc] using y 1 _ rfl,hR,I⟩
theorem D.Ny (list:List A) (body:List Pt) (b:Bd) (k:Nat) (h:k < body.length):iI list (body.take (k+1)) b=(iI list (body.take k) b && (!body[k].no || !hasB list (bQ body[k].atom b))):=by
 unfold iI;rw [ρ h,List.all_append];simp
theorem ED (list:List A) (body:List Pt) (all:List Bd) (v0 v1 v2:Value) (bl bb ba:List Nat) (w:World) (hl:aU w [v0] list bl) (hb:gW w [v1] body bb) (h:qO w [v2] all ba)
  (af:fK list=true) (hn:all.length≤10000000000) (ag:∀ p ∈ body,p.atom.args.length≤1000000):
  Calls Tryz.prog 224 #[v0,v1,v2] w fun e w'=>Below w.heap.size w w'∧∃ v bs,e=.returned v∧qO w' [v] (all.filter (iI list body)) bs:=by
 obtain ⟨Al,pl,rfl,aR,b1⟩:=ak hl;obtain ⟨Ab,pb,rfl,b3,am⟩:=ak hb;obtain ⟨Aa,pa,rfl,b4,ap⟩:=ak h;obtain ⟨i0,hi,b6,b7,b8⟩:=info_parts FW;have bt:=aA (τ b3 am);have br:=aA (τ b4 ap);have HL:=η hl;have HB:=η hb;have HA:=η h;have b9:=η ag;clear hl hb h aR b1 am ap ag;have aq:Below w.heap.size w (w.alloc (.cells #[] 234)):=ζ;have hE:aZ 2 iY w.heap.size 234 (w.alloc (.cells #[] 234)) (.slice (some ⟨w.heap.size,0,none⟩) 0 0) [] [] []:=aZ.empty (ω w _) ν
 go_enter Tryz.func224,Tryz.ntmps224
 go_wp2_with fail
 generalize w.alloc (.cells #[] 234)=w0 at *
 go_loopw [7,8,9,10] (fun o i _ _ wr=>∃ (k:Nat) (Am:Option Addr) (cm:Nat) (L:List Value) (bs:List Nat),k≤all.length∧i=.int .i64 k∧o=.slice Am ((all.take k).filter (iI list body)).length cm∧Hid (aZ 2 iY w.heap.size 234 wr (.slice Am ((all.take k).filter (iI list body)).length cm) L ((all.take k).filter (iI list body)) bs)∧Hid (Below w.heap.size w wr)) (fun _ i _ _ _=>all.length - (intOf i).toNat)
 case atStart=>exact ⟨0,_,_,_,_,ε,rfl,rfl,η hE,η aq⟩
 case round=>
  obtain ⟨k,Am,cm,L,bs,hk,rfl,rfl,hC,a5⟩:=hrel;clear hE aq;by_cases a3:k < all.length
  ·have bu:(0:Int)≤(k:Int):=by omega
   have bc:(k:Int) < (all.length:Int):=by omega
   have a6:Hid ((all.take (k+1)).filter (iI list body)=(all.take k).filter (iI list body) ++ (if iI list body all[k] then [all[k]] else [])):=η (by
    rw [ρ a3,List.filter_append]
    congr 1
    by_cases hf:iI list body all[k]=true
    ·simp [List.filter,hf]
    ·simp [List.filter,hf])
   have aa:Hid (((all.take k).filter (iI list body)).length≤k):=η (τ (List.length_filter_le _ _) (by simp; omega));generalize hys:(all.take k).filter (iI list body)=ys at *;generalize hb0:all[k]=b0 at *;clear hys;generalize wr=wo at *
   go_wp2_with fail
   go_loopw [9,10] (fun ok i wr=>∃ (j:Nat),j≤body.length∧i=.int .i64 j∧ok=.bool (iI list (body.take j) b0)∧Hid (Below wo.heap.size wo wr)) (fun _ i _=>body.length - (intOf i).toNat)
   case atStart=>exact ⟨0,ε,rfl,rfl,η ϑ⟩
   case round=>
    obtain ⟨j,hj,rfl,rfl,J⟩:=hrel;have y:=a5.out.trans (J.out.mono a5.out.size);by_cases U:j < body.length
    ·obtain ⟨ac,po,Ae,ce,bk,rfl,_,e0,e1,e2,a7,_⟩:=iH (dw.below HB.out y) U
     obtain ⟨ae,ao,A1,p1,A2,p2,bq,rfl,_,d0,d1,I,_⟩:=wR (lK.below HA.out y) a3;rw [hb0] at d0 d1 I;have bv:(0:Int)≤(j:Int):=by omega
     have bf:(j:Int) < (body.length:Int):=by omega
     have a1:=η (Ny list body b0 j U);have bw:=η U;have bg:=η (b9.out _ (δ U));generalize body[j]=p at *;obtain ⟨bh,px⟩:=p;dsimp only at *
     cases hfb:iI list (body.take j) b0 with
     | false=>
      have HZ:Hid (iI list (body.take (j+1)) b0=false):=η (by rw [a1.out,hfb]; rfl);clear a1 hfb e0 e1 e2 a7 d0 d1 I
      go_wp2_with fail
      go_quiet (fail)
      go_wp2;go_roundw
      case rel=>exact ⟨j+1,U,by go_num,by rw [HZ.out],η (below_drewN J.out _)⟩
      case measure=>simp [intOf]; omega
     | true=>
      cases bh with
      | false=>
       have HZ:Hid (iI list (body.take (j+1)) b0=true):=η (by rw [a1.out,hfb]; rfl);clear a1 hfb e1 e2 a7 d0 d1 I
       go_wp2_with fail
       go_quiet (fail)
       go_wp2;go_roundw
       case rel=>exact ⟨j+1,U,by go_num,by rw [HZ.out],η (below_drewN J.out _)⟩
       case measure=>simp [intOf]; omega
      | true=>
       have HZ:Hid (iI list (body.take (j+1)) b0 = !hasB list (bQ px b0)):=η (by rw [a1.out,hfb]; simp)
       have ar:aG wr [.string px.name,.slice Ae px.args.length ce] px bk:=by
        obtain ⟨t,av,h1,h2⟩:=a7;simp only [List.cons.injEq,true_and,and_true] at av;subst av;exact ⟨_,rfl,h1,h2⟩
       have hD:Below wr.heap.size wr wr.drew:=Below.drew ϑ;have q1:=fun w' (hb:Below wr.heap.size wr w')=>JO px b0 _ _ _ _ bk bq w' (aj.below ar hb) (bZ.below I hb) bg.out
       have q2:=fun w' (hb:Below wr.heap.size wr w') d0 d1 b5 (h5:aG w' [d0,d1] (bQ px b0) b5)=>Pz list (bQ px b0) _ d0 d1 bl b5 w' (au.below HL.out (y.trans (hb.mono y.size))) h5 af
       have Q1:=η q1;have Q2:=η q2;clear a1 hfb a7 I q1 q2 ar
       go_wp2_with fail
       go_region_held3 (fun w'=>w'.cell? ⟨ac,po+j * 3,none⟩=some (.bool true)∧w'.cell? ⟨ac,po+j * 3+1,none⟩=some (.string px.name)∧w'.cell? ⟨ac,po+j * 3+2,none⟩=some (.slice Ae px.args.length ce)∧w'.cell? ⟨ae,ao+k * 2,none⟩=some (.slice A1 b0.length p1)∧w'.cell? ⟨ae,ao+k * 2+1,none⟩=some (.slice A2 b0.length p2))
        (first | go_keep | exact hq | exact aw)
        (first
         | (go_at_call 172; refine (Q1.out _ hD).mono ?_; rintro e w5 ⟨az,g0,g1,b5,rfl,h5,_⟩; have B5:=hD.trans (az.mono hD.size); have hq:=ι (ξ B5 e0) (ι (ξ B5 e1) (ι (ξ B5 e2) (ι (ξ B5 d0) (ξ B5 d1)))))
         | (go_at_call 141; refine (Q2.out _ B5 _ _ _ h5).mono ?_; rintro e w6 ⟨rfl,aD⟩; have B6:=B5.trans (aD.mono B5.size); have aw:=ι (ξ B6 e0) (ι (ξ B6 e1) (ι (ξ B6 e2) (ι (ξ B6 d0) (ξ B6 d1))))))
       have bi:=η (J.out.trans (B6.mono J.out.size));clear Q1 Q2 hq aw h5 az aD B5 B6 e0 e1 e2 d0 d1;go_wp2;go_roundw
       case rel=>exact ⟨j+1,U,by go_num,by rw [HZ.out],bi⟩
       case measure=>simp [intOf]; omega
    ·have he:j=body.length:=by omega
     have bf:¬ (j:Int) < (body.length:Int):=by omega
     have a8:Hid (iI list (body.take j) b0=iI list body b0):=η (by rw [he,ϕ ν]);have a9:=η (hC.out.below bZ J.out);have a0:=η y;clear he hj
     cases hfb:iI list (body.take j) b0 with
     | false=>
      have HE:Hid ((all.take (k+1)).filter (iI list body)=ys):=η (by rw [a6.out,← a8.out,hfb]; simp);clear hfb a6 a8;go_wp2;go_roundw
      case rel=>exact ⟨k+1,Am,cm,L,bs,a3,by go_num,by rw [HE.out],by rw [HE.out]; exact a9,a0⟩
      case measure=>simp [intOf]; omega
     | true=>
      have HE:Hid ((all.take (k+1)).filter (iI list body)=ys ++ [b0]):=η (by rw [a6.out,← a8.out,hfb]; simp);obtain ⟨ae,ao,A1,p1,A2,p2,bq,rfl,_,d0,d1,I,aE⟩:=wR (lK.below HA.out y) a3;rw [hb0] at d0 d1 I;clear hfb a6 a8;have a4:Below wr.heap.size wr (wr.alloc (.cells #[.slice A1 b0.length p1,.slice A2 b0.length p2] 234)):=ζ
      have ab:∀ c ∈ bq,(Value.slice Am ys.length cm).ownBlock ≠ some c:=fun c hc e=>by
       have h1:=(je a9.out.own c e).1;have h2:=lK.lt HA.out c (aE c hc);omega
      have a2:Hid (aZ 2 iY w.heap.size 234 (wr.alloc (.cells #[.slice A1 b0.length p1,.slice A2 b0.length p2] 234)) (.slice Am ys.length cm) L ys bs∧aQ 2 iY (wr.alloc (.cells #[.slice A1 b0.length p1,.slice A2 b0.length p2] 234)) [.slice A1 b0.length p1,.slice A2 b0.length p2] [b0] bq∧Lies (wr.alloc (.cells #[.slice A1 b0.length p1,.slice A2 b0.length p2] 234)) (some ⟨wr.heap.size,0,none⟩) [.slice A1 b0.length p1,.slice A2 b0.length p2]∧Below w.heap.size w (wr.alloc (.cells #[.slice A1 b0.length p1,.slice A2 b0.length p2] 234))∧w.heap.size≤(wr.alloc (.cells #[.slice A1 b0.length p1,.slice A2 b0.length p2] 234)).heap.size∧∀ c ∈ bq,(Value.slice Am ys.length cm).ownBlock ≠ some c):=
       η ⟨a9.out.below bZ a4,aQ.dh uS (bZ.below I a4),aS (ω wr _),a0.out.trans (a4.mono a0.out.size),τ a0.out.size a4.size,ab⟩
      have bj:Hid (ys.length+1≤maxLen):=η (by have:=aa.out; unfold maxLen; omega);have bn:Hid ((ys.length+1) * 48≤140737488355328):=η (by have:=aa.out; omega);clear a4 ab I hC a5 y J a9
      go_wp2_with (at_builtin; refine bW rfl _ _ _ rfl w.heap.size 234 i0 (.agg #[.slice none 0 0,.slice none 0 0]) 2 48 Tryz.underlying230 hi b6 b7 b8 rfl (Θ 1) bZ (.slice Am ys.length cm) ys.length L _ bs rfl a2.out.1 rfl (some ⟨wr.heap.size,0,none⟩) 1 1 _ [b0] bq rfl a2.out.2.1 rfl a2.out.2.2.1 a2.out.2.2.2.2.2 bj.out bn.out w w.heap.size a2.out.2.2.2.1 ν a2.out.2.2.2.2.1 ?_; intro A4 c4 w4 aL aM bo bp; have HZ:=η (ι aL aM); clear aL aM bo bp)
      go_roundw
      case rel=>exact ⟨k+1,A4,c4,_,_,a3,by go_num,by rw [HE.out,χ]; rfl,by rw [HE.out,χ]; exact η HZ.out.1,η HZ.out.2⟩
      case measure=>simp [intOf]; omega
  ·have he:k=all.length:=by omega
   have bc:¬ (k:Int) < (all.length:Int):=by omega
   have HR:Hid (∃ b2,qO wr [.slice Am ((all.take k).filter (iI list body)).length cm] (all.filter (iI list body)) b2):=η (by
    obtain ⟨b2,h2,_⟩:=hC.out.slice;rw [he,ϕ ν] at h2;rw [he,ϕ ν]
    exact ⟨b2,h2⟩)
   clear hC he hk;go_wp2;go_ret;exact ⟨a5.out,_,rfl,HR.out⟩
end Go.Proofs.YtkjinanbccloeaaGreatDoor
