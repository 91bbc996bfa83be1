/- Of the proof of FnDeltaNeeds: Draw5, Laid, StoR, HolI, SetI. -/
import Derived.Test.YtkjinanbccloeaaGreatDoorE21
import Derived.Test.YtkjinanbccloeaaGreatDoorE20
set_option linter.unusedVariables false
set_option maxHeartbeats 4000000
set_option maxRecDepth 100000
namespace Go.Proofs.YtkjinanbccloeaaGreatDoor
section
open Go.RowKit D
attribute [local go_sem ↓] Go.wp_at_zero Go.wp_at_succ
theorem D.Nw:∀ {xs:List A} {a:A},gm (xs ++ [a])=true→∀ x ∈ xs,bV x a < 0
 | [],_,_,x,I=>by simp at I
 | y :: ys,a,h,x,I=>by
  rcases ύ.1 I with rfl | I
  ·exact fM h a (by simp)
  ·exact Nw (xs:=ys) (eu h) x I
theorem D.VB {xs:List A} {a:A} (h:gm (xs ++ [a])=true):eG xs a=xs ++ [a]:=by
 have I:=Nw h
 have h1:hasB xs a=false:=by
  unfold hasB;rw [List.any_eq_false];intro x y;have:=I x y;simp; omega
 have J:pl xs a=xs.length:=by
  unfold pl;rw [List.countP_eq_length];intro x y;unfold GY;exact decide_eq_true (I x y)
 unfold eG;rw [h1,J];simp
def D.vd (d:Nat):ByteArray:=⟨#[118,UInt8.ofNat (48+d)]⟩
def D.YI (j:Nat):A:=⟨⟨#[101]⟩,[⟨false,vd (j / 6)⟩,⟨false,vd (j % 6)⟩]⟩
def D.lS (n:Nat):List A:=(List.range n).map YI
theorem D.VD:gm (lS 42)=true:=by decide +kernel
theorem D.BG (n:Nat):lS (n+1)=lS n ++ [YI n]:=by unfold lS; rw [List.range_succ,List.map_append]; rfl
theorem D.qi (n:Nat):(lS n).length=n:=by simp [lS]
theorem D.Ny : ∀ (d n : Nat), n + d = 42 → gm (lS n) = true
  | 0, n, h => by have : n = 42 := by omega
                  rw [this]; exact VD
  | d + 1, n, h => by
    have := Ny d (n + 1) (by omega);rw [BG] at this;exact KD this
theorem D.QA {n:Nat} (h:n≤42):gm (lS n)=true:=Ny (42 - n) n (by omega)
theorem D.VE {n:Nat} (h:n < 42):eG (lS n) (YI n)=lS (n+1):=by
 rw [BG];exact VB (by rw [← BG]; exact QA h)
theorem D.sQ (n:Nat):∀ a ∈ lS n,a.args.length≤4:=by
 intro a ha;unfold lS at ha;obtain ⟨j,_,rfl⟩:=List.mem_map.1 ha;simp [YI]
theorem D.dH {w:World} {n0:Nat} (ha:Rz w n0) {v:Value} {xs:List A} {bs:List Nat} (h:aC w [v] xs bs):n0 ∉ bs:=by
 intro hb;obtain ⟨Ad,cap,a4,hl,hm,g0,g1⟩:=h;by_cases I:xs = []
 ·rw [g0 I] at hb; simp at hb
 ·obtain ⟨b,o,rfl,F,G,rfl,hF⟩:=g1 I
  rcases ύ.1 hb with rfl | hb
  ·match xs,I with
   | y :: r,_=>
    obtain ⟨a1,a2,J⟩:=hF 0 y rfl;obtain ⟨s,e,_,_⟩:=J;have:=a2 0 (.string y.name) (by rw [e]; rfl);exact (ha _ _ this).1 _ rfl
  ·obtain ⟨k,hk,U⟩:=List.mem_flatMap.1 hb
   have a0:=List.mem_range.1 hk;obtain ⟨a1,a2,J⟩:=hF k xs[k] (Ψ a0);obtain ⟨s,_,_,ht⟩:=J;exact rX ha ht U
theorem VF (w:World) (n:Int):(convert 22 9 (.slice (some ⟨w.heap.size,0,none⟩) 1 1)).run Tryz.prog (w.alloc (.cells #[.int .u8 n] 5))=.ok (.string (strOfNums [n])) (w.alloc (.cells #[.int .u8 n] 5)):=
 run_convert_bytes_arg _ 22 5 Tryz.underlying22 Tryz.underlying5 w.heap.size 0 1 1 [n] rfl (fun i y=>by
  obtain rfl:i=0:=by omega
  simp) 9 Tryz.underlying9
theorem QB (w:World) (s1 s2:ByteArray) (h1:s1.size≤100) (y:s2.size≤100):∃ bs,gG (w.alloc (.cells #[.bool false,.string s1,.bool false,.string s2] 91)) [.slice (some ⟨w.heap.size,0,none⟩) 2 2] [⟨false,s1⟩,⟨false,s2⟩] bs∧∀ c ∈ bs,w.heap.size≤c:=by
 have I:s1.size≤maxLen:=τ h1 (by decide);have J:s2.size≤maxLen:=τ y (by decide);have h:=((aT.dJ (n:=2) (R:=kD) (w:=w.alloc (.cells #[.bool false,.string s1,.bool false,.string s2] 91)) lF (cs:=[.bool false,.string s1]) (x:=⟨false,s1⟩) (bs:=[]) ⟨rfl,I,rfl⟩).append (aT.dJ (n:=2) (R:=kD) lF (cs:=[.bool false,.string s2]) (x:=⟨false,s2⟩) (bs:=[]) ⟨rfl,J,rfl⟩)).slice (World.ownsRow_lit (base:=w.heap.size) (e:=91) w #[.bool false,.string s1,.bool false,.string s2] 2 ν (by unfold maxLen; omega) rfl);obtain ⟨bs,h,y⟩:=h;exact ⟨bs,h,fun c hc=>(y c hc).elim id (fun hc=>by simp at hc)⟩
def PS (g p q:Nat) (w:World) (e:Ending) (w':World):Prop:=
 ∃ (xs:List A) (v:Value) (bs:List Nat) (y:Nat),e=.returned v∧(aC w' [v] xs bs∧∀ b ∈ bs,w.heap.size≤b)∧xs.length≤50∧(∀ a ∈ xs,a.args.length≤4)∧kQ g y w'∧y≤p+q∧aI [g] w w'
theorem Dn (i:Nat) (w:World) (h:i < 7):Calls Tryz.prog 50 #[.int .i64 i] w fun e w'=>e=.returned (.string ⟨#[UInt8.ofNat (48+i)]⟩)∧Below w.heap.size w w':=by
 have I:=VF;have y:i=0∨i=1∨i=2∨i=3∨i=4∨i=5∨i=6:=by omega
 rcases y with rfl | rfl | rfl | rfl | rfl | rfl | rfl
 all_goals
  go_enter Tryz.func50,Tryz.ntmps50
  go_wp2;go_ret;exact ⟨rfl,ζ⟩
theorem tN (g p:Nat) (w:World) (h:kQ g p w) (hp:p≤600000):
  Calls Tryz.prog 100 #[.pointer (some ⟨g,0,none⟩)] w (PS g p 200 w):=by
 obtain ⟨i0,hi,bw,aD,aE⟩:=info_parts IE;have hf:=oL g p 9 w h (by omega) (by omega) (by omega);have cl:=η hp;clear h hp
 go_enter Tryz.func100,Tryz.ntmps100
 go_wp2_with fail
 refine hf.mono ?_;rintro e w1 ⟨xs,v,p1,rfl,hs,hx,bx,cn,hF⟩;obtain ⟨Av,cv,rfl⟩:=hF.shape;have HF:=η hF;have HX:Hid (gm xs=true∧xs.length≤9∧(∀ a ∈ xs,a.args.length≤3)∧p1≤p+72∧p≤600000):=η ⟨hs,hx,bx,by omega,cl.out⟩;have a9:=pick_any g p1 20 w1 hF.rdr (by have:=HX.out; omega) (by omega) (by omega);have bz:Hid (xs.length+1≤maxLen):=η (by unfold maxLen; omega);have bA:Hid ((xs.length+1) * 40≤140737488355328):=η (by omega);clear hf hF hs hx bx cn
 go_wp2_with fail
 refine a9.mono ?_;rintro e w2 ⟨j,rfl,hj,bB,bE⟩;have I:=η (HF.out.call bB (aI.dB bE));clear a9 bB bE HF;by_cases co:j=0
 ·subst co
  have hc:=uK g (p1+1) w2 I.out.rdr (by have:=HX.out; omega)
  go_wp2_with fail
  refine hc.mono ?_;rintro e w3 ⟨a,v3,L3,p3,rfl,aa,aR,a4,a2,b1,ab⟩;obtain ⟨b3,ac,a3⟩:=a4.slice;obtain ⟨A3,c3,rfl⟩:=dU a4.own;have J:=η (I.out.call a2 ab);have b2:Hid (aJ w3 [.string a.name,.slice A3 a.args.length c3] a b3):=η ⟨_,rfl,Sm.max aa,ac⟩;have ae:Hid (a.args.length≤4∧p3≤p1+1+20):=η (by omega);obtain ⟨LL,bb,a5,af⟩:=J.out.coll;have bc:=η af;have bg:Hid (∀ c ∈ b3,w.heap.size≤c):=η (fun c hc=>τ I.out.kept.size ((a3 c hc).resolve_right (by simp)));clear af;have HC:=η a5;have U:Below w3.heap.size w3 (w3.alloc (.cells #[.string a.name,.slice A3 a.args.length c3] 33)):=ζ;have bh:=η (a5.below ak U);have bi:=η (aT.dJ (n:=2) (R:=aJ) eH (ak.below b2.out U));have ag:=η (aP (ω w3 (.cells #[.string a.name,.slice A3 a.args.length c3] 33)));have bj:Hid (∀ c ∈ b3,(Value.slice Av xs.length cv).ownBlock ≠ some c):=η (fun c hc=>by obtain ⟨_,_,h2,_⟩:=I.out.coll; exact jk h2.own ((a3 c hc).resolve_right (by simp)))
  have bk:Hid (w.heap.size≤(w3.alloc (.cells #[.string a.name,.slice A3 a.args.length c3] 33)).heap.size):=η (τ J.out.kept.size U.size);have bl:=η U;clear hc a4 a2 ab ac aa aR b1 a5 U
  go_wp2_with (at_builtin; refine bU rfl _ _ _ rfl w.heap.size 33 i0 (.agg #[.string ⟨#[]⟩,.slice none 0 0]) 2 40 Tryz.underlying24 hi bw aD aE rfl (by omega) ak (.slice Av xs.length cv) xs.length LL xs bb rfl bh.out rfl (some ⟨w3.heap.size,0,none⟩) 1 1 _ [a] b3 rfl bi.out rfl ag.out bj.out bz.out bA.out w3 w.heap.size (bl.out.mono J.out.kept.size) ν bk.out ?_; intro A4 c4 w4 am a6 bn a7)
  obtain ⟨b5,ao,aq⟩:=am.slice;have HD:Hid (PS g p 200 w (.returned (.slice A4 (xs.length+1) c4)) w4):=η ⟨xs ++ [a],_,b5,p3,rfl,⟨ao,fun c hc=>(aq c hc).elim id (fun hc=>(μ.1 hc).elim (bc.out c) (bg.out c))⟩,by have:=HX.out; simp; omega,fun y hy=>by rcases μ.1 hy with hy | hy; exact Nat.le_succ_of_le (HX.out.2.2.1 y hy); rw [ώ.1 hy]; exact ae.out.1,J.out.rdr.eP a6 J.out.glt,by have:=HX.out; have:=ae.out; omega,J.out.kept.eP a6 ν⟩;clear am a6 bn a7 ao aq;go_wp2;go_ret;exact HD.out
 have cP:((j:Int) == 0)=false:=beq_eq_false_iff_ne.2 (by omega);by_cases cp:j=1
 ·subst cp
  have hc:=Di g (p1+1) w2 I.out.rdr (by have:=HX.out; omega)
  go_wp2_with fail
  refine hc.mono ?_;rintro e w3 ⟨a,v3,L3,p3,rfl,aa,aR,a4,a2,b1,ab⟩;obtain ⟨b3,ac,a3⟩:=a4.slice;obtain ⟨A3,c3,rfl⟩:=dU a4.own;have J:=η (I.out.call a2 ab);have b2:Hid (aJ w3 [.string a.name,.slice A3 a.args.length c3] a b3):=η ⟨_,rfl,Sm.max aa,ac⟩;have ae:Hid (a.args.length≤4∧p3≤p1+1+20):=η (by omega);obtain ⟨LL,bb,a5,af⟩:=J.out.coll;have bc:=η af;have bg:Hid (∀ c ∈ b3,w.heap.size≤c):=η (fun c hc=>τ I.out.kept.size ((a3 c hc).resolve_right (by simp)));clear af;have HC:=η a5;have U:Below w3.heap.size w3 (w3.alloc (.cells #[.string a.name,.slice A3 a.args.length c3] 33)):=ζ;have bh:=η (a5.below ak U);have bi:=η (aT.dJ (n:=2) (R:=aJ) eH (ak.below b2.out U));have ag:=η (aP (ω w3 (.cells #[.string a.name,.slice A3 a.args.length c3] 33)));have bj:Hid (∀ c ∈ b3,(Value.slice Av xs.length cv).ownBlock ≠ some c):=η (fun c hc=>by obtain ⟨_,_,h2,_⟩:=I.out.coll; exact jk h2.own ((a3 c hc).resolve_right (by simp)))
  have bk:Hid (w.heap.size≤(w3.alloc (.cells #[.string a.name,.slice A3 a.args.length c3] 33)).heap.size):=η (τ J.out.kept.size U.size);have bl:=η U;clear hc a4 a2 ab ac aa aR b1 a5 U
  go_wp2_with (at_builtin; refine bU rfl _ _ _ rfl w.heap.size 33 i0 (.agg #[.string ⟨#[]⟩,.slice none 0 0]) 2 40 Tryz.underlying24 hi bw aD aE rfl (by omega) ak (.slice Av xs.length cv) xs.length LL xs bb rfl bh.out rfl (some ⟨w3.heap.size,0,none⟩) 1 1 _ [a] b3 rfl bi.out rfl ag.out bj.out bz.out bA.out w3 w.heap.size (bl.out.mono J.out.kept.size) ν bk.out ?_; intro A4 c4 w4 am a6 bn a7)
  obtain ⟨b5,ao,aq⟩:=am.slice;have HD:Hid (PS g p 200 w (.returned (.slice A4 (xs.length+1) c4)) w4):=η ⟨xs ++ [a],_,b5,p3,rfl,⟨ao,fun c hc=>(aq c hc).elim id (fun hc=>(μ.1 hc).elim (bc.out c) (bg.out c))⟩,by have:=HX.out; simp; omega,fun y hy=>by rcases μ.1 hy with hy | hy; exact Nat.le_succ_of_le (HX.out.2.2.1 y hy); rw [ώ.1 hy]; exact ae.out.1,J.out.rdr.eP a6 J.out.glt,by have:=HX.out; have:=ae.out; omega,J.out.kept.eP a6 ν⟩;clear am a6 bn a7 ao aq;go_wp2;go_ret;exact HD.out
 have cQ:((j:Int) == 1)=false:=beq_eq_false_iff_ne.2 (by omega)
 have ar:Hid (PS g p 200 w (.returned (.slice Av xs.length cv)) w2):=η (by
  obtain ⟨b9,h9,cq⟩:=I.out.atoms
  exact ⟨xs,_,b9,p1+1,rfl,⟨h9,cq⟩,by have:=HX.out; omega,fun y hy=>Nat.le_succ_of_le (HX.out.2.2.1 y hy),I.out.rdr,by have:=HX.out; omega,I.out.kept⟩)
 by_cases bo:j=2
 ·subst bo
  clear ar;obtain ⟨bt,ht,av⟩:=QB w2 ⟨#[97]⟩ ⟨#[98]⟩ (by decide) (by decide);have bp:Hid (∀ c ∈ bt,w.heap.size≤c):=η (fun c hc=>τ I.out.kept.size (av c hc));clear av;have a8:Below w2.heap.size w2 (w2.alloc (.cells #[.bool false,.string ⟨#[97]⟩,.bool false,.string ⟨#[98]⟩] 91)):=ζ;have J:=η (I.out.below a8);obtain ⟨b3,bL,bO⟩:=J.out.atoms;have bq:=η bO;clear bO;have a1:=vW xs ⟨⟨#[112]⟩,[⟨false,⟨#[97]⟩⟩,⟨false,⟨#[98]⟩⟩]⟩ _ _ _ b3 bt _ bL ⟨_,rfl,by decide,ht⟩ HX.out.1 (by have:=HX.out; omega);clear bL ht a8
  go_wp2_with fail
  refine a1.mono ?_;rintro e w3 ⟨cw,v3,b4,rfl,a2,ho⟩;have aL:=η (J.out.put (xs':=eG xs ⟨⟨#[112]⟩,[⟨false,⟨#[97]⟩⟩,⟨false,⟨#[98]⟩⟩]⟩) cw (fun y hy=>by rcases vM hy with hy | rfl; exact Nat.le_succ_of_le (HX.out.2.2.1 y hy); decide) ho (fun c hc=>(μ.1 hc).elim (bq.out c) (bp.out c)));obtain ⟨b8,h8,bR⟩:=aL.out.atoms;have HD:Hid (PS g p 200 w (.returned v3) w3):=η ⟨_,_,b8,p1+1,rfl,⟨h8,bR⟩,by have:=qm xs ⟨⟨#[112]⟩,[⟨false,⟨#[97]⟩⟩,⟨false,⟨#[98]⟩⟩]⟩; have:=HX.out; omega,aL.out.small,aL.out.rdr,by have:=HX.out; omega,aL.out.kept⟩;obtain ⟨A3,c3,rfl,_,_⟩:=aj a2;clear a1 a2 ho J h8 bR;go_wp2;go_ret;exact HD.out
 have cT:((j:Int) == 2)=false:=beq_eq_false_iff_ne.2 (by omega);by_cases cx:j=3
 ·subst cx
  clear ar;have a8:Below w2.heap.size w2 (w2.alloc (.cells #[] 33)):=ζ;have bX:Hid (qU g (p1+1) w (lS 0) (.slice (some ⟨w2.heap.size,0,none⟩) 0 0) (w2.alloc (.cells #[] 33))):=η ⟨⟨_,_,aX.empty (ω w2 _) I.out.kept.size,fun b hb=>by simp at hb⟩,sQ 0,I.out.rdr.below a8,I.out.kept.eP a8 I.out.kept.size,I.out.glt⟩;clear a8 I hj;go_wp2
  go_loopw [4,5] (fun m i wr=>∃ (n l:Nat) (Am:Option Addr) (cm:Nat),n≤7∧i=.int .i64 n∧m=.slice Am l cm∧l=6 * n∧qU g (p1+1) w (lS (6 * n)) (.slice Am l cm) wr) (fun _ i _=>7 - (intOf i).toNat)
  case atStart=>exact ⟨0,0,_,_,by omega,rfl,rfl,rfl,bX.out⟩
  case round=>
   obtain ⟨n,l,Am,cm,hn,rfl,rfl,c5,hF⟩:=hrel;have HM:=η hF;have HL:=η c5;clear hF c5 bX;by_cases br:n < 7
   ·have cy:(n:Int) < 7:=by omega
    have HN:=η br;have cz:Hid (∃ (k l:Nat) (Am:Option Addr) (cm:Nat),k≤6∧l=6 * n+k∧k=0∧qU g (p1+1) w (lS (6 * n+k)) (.slice Am l cm) wr):=η ⟨0,l,Am,cm,by omega,HL.out,rfl,HM.out⟩;clear hn br;go_wp2
    go_loopw [4,6] (fun m i wr=>∃ (k l:Nat) (Am:Option Addr) (cm:Nat),k≤6∧i=.int .i64 k∧m=.slice Am l cm∧l=6 * n+k∧qU g (p1+1) w (lS (6 * n+k)) (.slice Am l cm) wr) (fun _ i _=>6 - (intOf i).toNat)
    case atStart=>exact ⟨0,l,Am,cm,by omega,rfl,rfl,HL.out,HM.out⟩
    case round=>
     obtain ⟨k,l2,cA,cB,hk,rfl,rfl,aM,c7⟩:=hrel;have a0:=η c7;have ag:=η aM;clear c7 aM HM cz HL;by_cases bu:k < 6
     ·have cD:(k:Int) < 6:=by omega
      have HK:=η bu;clear hk bu;have c8:=fun w'=>(Dn n w' HN.out).mono (R':=fun e aw=>∃ s:ByteArray,e=.returned (.string s)∧Hid (s=⟨#[UInt8.ofNat (48+n)]⟩)∧s.size=1∧Below w'.heap.size w' aw) (fun e aw ⟨h1,h2⟩=>⟨_,h1,η rfl,rfl,h2⟩)
      have c9:=fun w'=>(Dn k w' (by have:=HK.out; omega)).mono (R':=fun e aw=>∃ s:ByteArray,e=.returned (.string s)∧Hid (s=⟨#[UInt8.ofNat (48+k)]⟩)∧s.size=1∧Below w'.heap.size w' aw) (fun e aw ⟨h1,h2⟩=>⟨_,h1,η rfl,rfl,h2⟩)
      go_wp2_with fail
      refine (c8 _).mono ?_;rintro e w4 ⟨s1,rfl,cE,aD,ca⟩;replace a0:=η (a0.out.below ca);have cV:((⟨#[118]⟩:ByteArray) ++ s1).size=2:=by rw [ByteArray.size_append,aD]; rfl
      clear c8 ca
      go_wp2_with fail
      refine (c9 _).mono ?_;rintro e w5 ⟨s2,rfl,cG,aE,cb⟩;replace a0:=η (a0.out.below cb);have cW:((⟨#[118]⟩:ByteArray) ++ s2).size=2:=by rw [ByteArray.size_append,aE]; rfl
      have HE:Hid (YI (6 * n+k)=⟨⟨#[101]⟩,[⟨false,(⟨#[118]⟩:ByteArray) ++ s1⟩,⟨false,(⟨#[118]⟩:ByteArray) ++ s2⟩]⟩):=η (by
       have e1:(6 * n+k) / 6=n:=by have:=HK.out; omega
       have e2:(6 * n+k) % 6=k:=by have:=HK.out; omega
       have e3:(⟨#[118]⟩:ByteArray) ++ s1=vd n:=by rw [cE.out]; exact WideShapes.bytes_inj (by rw [ByteArray.data_append,Array.toList_append]; rfl)
       have e4:(⟨#[118]⟩:ByteArray) ++ s2=vd k:=by rw [cG.out]; exact WideShapes.bytes_inj (by rw [ByteArray.data_append,Array.toList_append]; rfl)
       unfold YI; rw [e1,e2,e3,e4])
      obtain ⟨bt,ht,av⟩:=QB w5 ((⟨#[118]⟩:ByteArray) ++ s1) ((⟨#[118]⟩:ByteArray) ++ s2) (by omega) (by omega);have cc:Below w5.heap.size w5 (w5.alloc (.cells #[.bool false,.string ((⟨#[118]⟩:ByteArray) ++ s1),.bool false,.string ((⟨#[118]⟩:ByteArray) ++ s2)] 91)):=ζ;have bp:Hid (∀ c ∈ bt,w.heap.size≤c):=η (fun c hc=>τ a0.out.kept.size (av c hc));clear av;replace a0:=η (a0.out.below cc);obtain ⟨b6,h6,cd⟩:=a0.out.atoms;have bq:=η cd;clear cd;have a1:=vW (lS (6 * n+k)) (YI (6 * n+k)) _ (.string ⟨#[101]⟩) (.slice (some ⟨w5.heap.size,0,none⟩) 2 2) b6 bt _ h6 (by rw [HE.out]; exact ⟨_,rfl,(show (1:Nat)≤maxLen by decide),ht⟩) (QA (by have:=HK.out; have:=HN.out; omega)) (by rw [qi]; have:=HK.out; have:=HN.out; omega);rw [VE (by have:=HK.out; have:=HN.out; omega)] at a1;clear c9 cb ht cc h6
      go_wp2_with fail
      refine a1.mono ?_;rintro e w6 ⟨cI,v6,b7,rfl,ce,ho⟩;have cJ:=η (a0.out.put cI (sQ _) ho (fun c hc=>(μ.1 hc).elim (bq.out c) (bp.out c)));obtain ⟨A6,c6,rfl,_,_⟩:=aj ce;clear a1 ce ho a0;go_wp2;go_roundw
      case rel=>exact ⟨k+1,_,A6,c6,HK.out,by go_num,rfl,by rw [qi]; omega,cJ.out⟩
      case measure=>have:=HK.out; simp [intOf]; omega
     ·have cD:¬ (k:Int) < 6:=by omega
      obtain rfl:k=6:=by omega
      clear hk bu;go_wp2;go_roundw
      case rel=>exact ⟨n+1,l2,cA,cB,HN.out,by go_num,rfl,by have:=ag.out; omega,by rw [show 6 * (n+1)=6 * n+6 by omega]; exact a0.out⟩
      case measure=>have:=HN.out; simp [intOf]; omega
   ·skip
    have cy:¬ (n:Int) < 7:=by omega
    obtain rfl:n=7:=by omega
    clear hn br;have a9:=pick_any g (p1+1) 2 wr HM.out.rdr (by have:=HX.out; omega) (by omega) (by omega)
    go_wp2_with fail
    refine a9.mono ?_;rintro e w4 ⟨j2,rfl,bo,cg,a7⟩;have az:=η (HM.out.call cg (aI.dB a7));obtain ⟨b5,h5,ci⟩:=az.out.atoms;have cj:=HL.out;subst cj
    have bv:42≤cm∧cm≤maxLen:=by
     obtain ⟨A',c',e',ck,cK,_⟩:=h5;simp only [List.cons.injEq,Value.slice.injEq,and_true] at e';obtain ⟨_,_,rfl⟩:=e';rw [qi] at ck;exact ⟨ck,cK⟩
    have cX:=ay bv.2;have cY:=bv.1;have hj:j2=0∨j2=1:=by omega
    have HT:Hid (∀ d,d≤42→∃ b6,aC w4 [.slice Am d cm] ((lS 42).take d) b6∧∀ c ∈ b6,w.heap.size≤c):=η (fun d hd=>by obtain ⟨b6,h6,cL⟩:=KN h5 (k:=d) (by rw [qi]; exact hd); exact ⟨b6,h6,fun c hc=>ci c (cL c hc)⟩);clear a9 cg a7 h5 ci HM bv HL bo
    rcases hj with rfl | rfl
    ·have hz:(40:Int)≤(cm:Int):=by omega
     obtain ⟨b6,h6⟩:=HT.out 40 (by omega);have HD:Hid (PS g p 200 w (.returned (.slice Am 40 cm)) w4):=η ⟨_,_,b6,p1+1+1,rfl,h6,by simp [lS],fun y hy=>sQ 42 y (List.mem_of_mem_take hy),az.out.rdr,by have:=HX.out; omega,az.out.kept⟩;clear h6 HT;go_wp2;go_ret;exact HD.out
    ·have hz:(41:Int)≤(cm:Int):=by omega
     obtain ⟨b6,h6⟩:=HT.out 41 (by omega);have HD:Hid (PS g p 200 w (.returned (.slice Am 41 cm)) w4):=η ⟨_,_,b6,p1+1+1,rfl,h6,by simp [lS],fun y hy=>sQ 42 y (List.mem_of_mem_take hy),az.out.rdr,by have:=HX.out; omega,az.out.kept⟩;clear h6 HT;go_wp2;go_ret;exact HD.out
 have cU:((j:Int) == 3)=false:=beq_eq_false_iff_ne.2 (by omega);go_wp2;go_ret;exact ar.out
end
section
open Go.ChangeShapes Go.WideShapes Go.RowKit D
theorem YJ : Tryz.prog.globalNamed "errors.errorType" = some 1 := by kernel_rfl
theorem YK : (Tryz.prog.cutTypes.find? (·.1 == "internal/reflectlite.rtype")).map (·.2) = some 350 := by kernel_rfl
theorem VG:Tryz.prog.types.size=401:=by kernel_rfl
theorem PU:((List.range 401).filter fun t=>Tryz.prog.rowNamed t [101,114,114,111,114]) = [186]:=by kernel_rfl
theorem handle_of_laid {W : World} (h : laidMetH Tryz.prog [("errors.errorType", Rows.laid_errors_errorType)] W) : oC W := by
 have I : laidMet Tryz.prog [] W ∧ handlesMet Tryz.prog [("errors.errorType", Rows.laid_errors_errorType)] W := h
 obtain ⟨name,u,J,U,e2,e3,e4,y⟩:=I.2 _ (ώ.2 rfl);have en:name = [101,114,114,111,114]:=(Option.some.inj U).symm;subst en;obtain rfl:=Option.some.inj (YK.symm.trans e2);have hm:J ∈ (List.range 401).filter fun t=>Tryz.prog.rowNamed t [101,114,114,111,114]:=List.mem_filter.2 ⟨List.mem_range.2 (by rw [← VG]; exact e3),e4⟩
 rw [PU] at hm;obtain rfl:=ώ.1 hm;have hh:typeHandle Tryz.prog 186=.pointer (some ⟨2,186,none⟩):=by kernel_rfl
 rw [hh] at y;unfold oC;simpa using World.var?_cell YJ y 0
noncomputable def laidWorld (os:Os):World:=
 let y:=World.holding Tryz.prog os ⟨#[],#[],[]⟩
 { y with heap:=y.heap.modify 1 fun
  | .cells _ t frozen=>.cells #[.iface 350 (.agg #[.pointer (some ⟨2,186,none⟩)])] t frozen
  | o=>o }
theorem laidWorld_met (os : Os) (args : Array Value) : laidMetH Tryz.prog [("errors.errorType", Rows.laid_errors_errorType)] ((laidWorld os).forCall (fun _ _ => 0) ⟨#[], args, []⟩).memory :=
 laidMetH_of_parts (laidMet_nil _ _) (by kernel_rfl)
end
section
open Go.RowKit D
structure D.lV (B sb mu mp:Nat) (Af:Option Addr) (nf cf:Nat) (Lf:List Value) (fs:List A) (bf:List Nat) (Ar:Option Addr) (nr cr:Nat) (Lr:List Value) (rn:List Nat) (Lp:List (Value × Value)) (G:WK→List Nat) (ou:List Nat) (w:World):Prop where
 blk:w.heap[sb]? = some (.cells #[.slice Af nf cf,.slice Ar nr cr,.map (some mu),.map (some mp)] 127 (0,0))
 ef:nf=fs.length
 er:nr=rn.length
 cF:aX 2 aJ B 33 w (.slice Af nf cf) Lf fs bf
 cR:aX 1 yT B 3 w (.slice Ar nr cr) Lr rn []
 un:uY B mu G ou w
 pl:oG isStr mp Lp w
 dFR:YG (.slice Af nf cf) (.slice Ar nr cr)
 dF:∀ x ∈ ou,(Value.slice Af nf cf).ownBlock ≠ some x
 dR:∀ x ∈ ou,(Value.slice Ar nr cr).ownBlock ≠ some x
 bfs:∀ x ∈ bf,x ≠ sb∧x ≠ mu∧x ≠ mp∧x ∉ ou∧(Value.slice Ar nr cr).ownBlock ≠ some x
 lo:sb < B∧mu < B∧mp < B∧sb ≠ mu∧sb ≠ mp∧mu ≠ mp
 ous:∀ x ∈ ou,B≤x∧x < w.heap.size
 qE:B≤w.heap.size
structure D.Free (B sb mu mp:Nat) (vF vR:Value) (ou:List Nat) (b:Nat):Prop where
 f:vF.ownBlock ≠ some b
 r:vR.ownBlock ≠ some b
 u:b ∉ ou
 s:b ≠ sb∧b ≠ mu∧b ≠ mp
section
variable {B sb mu mp:Nat} {Af:Option Addr} {nf cf:Nat} {Lf:List Value} {fs:List A} {bf:List Nat} {Ar:Option Addr} {nr cr:Nat} {Lr:List Value} {rn:List Nat} {Lp:List (Value × Value)} {G:WK→List Nat} {ou:List Nat} {w w':World}
theorem D.lV.later (h:lV B sb mu mp Af nf cf Lf fs bf Ar nr cr Lr rn Lp G ou w) (y:Below w.heap.size w w'):lV B sb mu mp Af nf cf Lf fs bf Ar nr cr Lr rn Lp G ou w':=by
 obtain ⟨U,l2,l3,_⟩:=h.lo;have J:=h.qE;exact ⟨(y.block _ (by omega)).trans h.blk,h.ef,h.er,h.cF.below ak y,h.cR.below ji y,h.un.keep (y.block _ (by omega)) fun x I=>y.block x (h.ous x I).2,h.pl.below y (by omega),h.dFR,h.dF,h.dR,h.bfs,h.lo,fun x I=>⟨(h.ous x I).1,κ (h.ous x I).2 y.size⟩,τ J y.size⟩
theorem D.lV.low (h:lV B sb mu mp Af nf cf Lf fs bf Ar nr cr Lr rn Lp G ou w) {x:Nat} (y:x < B∧x ≠ sb∧x ≠ mu∧x ≠ mp):Free B sb mu mp (.slice Af nf cf) (.slice Ar nr cr) ou x:=
 ⟨fun e=>by have:=(bH h.cF.own e).1; omega,fun e=>by have:=(bH h.cR.own e).1; omega,fun e=>by have:=(h.ous x e).1; omega,y.2⟩
theorem D.lV.fact (h:lV B sb mu mp Af nf cf Lf fs bf Ar nr cr Lr rn Lp G ou w) {w5:World} {J:Option Addr} {U:Nat} {cs:List Value} {a:A} {ba:List Nat} (a3:aT 2 aJ w cs [a] ba)
  (a4:w5.ownsRow B 33 2 (.slice J (nf+1) U) (nf+1) (Lf ++ cs)) (hg:w.grownBy w5 (Value.slice Af nf cf).ownBlock) (a1:(Value.slice J (nf+1) U).ownBlock=(Value.slice Af nf cf).ownBlock∨(Value.slice J (nf+1) U).ownBlock=some w.heap.size)
  (a2:∀ x ∈ ba,Free B sb mu mp (.slice Af nf cf) (.slice Ar nr cr) ou x):
  w5.cell? ⟨sb,0,none⟩=some (.slice Af nf cf)∧w5.frozen? ⟨sb,0,none⟩=false∧lV B sb mu mp J (nf+1) U (Lf ++ cs) (fs ++ [a]) (bf ++ ba) Ar nr cr Lr rn Lp G ou (w5.setCell ⟨sb,0,none⟩ (.slice J (nf+1) U))∧
   (∀ x,x < w.heap.size→(Value.slice Af nf cf).ownBlock ≠ some x→x ≠ sb→(w5.setCell ⟨sb,0,none⟩ (.slice J (nf+1) U)).heap[x]? = w.heap[x]?)∧∀ x,(Value.slice J (nf+1) U).ownBlock=some x→(Value.slice Af nf cf).ownBlock=some x∨x=w.heap.size:=by
 obtain ⟨l1,l2,l3,l4,l5,l6⟩:=h.lo;have hs:=h.qE;have oF:∀ x,(Value.slice Af nf cf).ownBlock=some x→B≤x∧x < w.heap.size:=fun x y=>bH h.cF.own y
 have oR:∀ x,(Value.slice Ar nr cr).ownBlock=some x→B≤x∧x < w.heap.size:=fun x y=>bH h.cR.own y
 have k5:∀ x,x < w.heap.size→(Value.slice Af nf cf).ownBlock ≠ some x→w5.heap[x]? = w.heap[x]?:=fun x h1 h2=>hg.block x h1 (fun e=>h2 e.symm)
 have kp:∀ x,x < w.heap.size→(Value.slice Af nf cf).ownBlock ≠ some x→x ≠ sb→(w5.setCell ⟨sb,0,none⟩ (.slice J (nf+1) U)).heap[x]? = w.heap[x]?:=fun x h1 h2 h3=>(π _ _ _ _ h3).trans (k5 x h1 h2)
 have a0:∀ x,x < B→(Value.slice Af nf cf).ownBlock ≠ some x:=fun x y e=>by have:=(oF x e).1; omega
 have b5:=(k5 sb (by omega) (a0 sb l1)).trans h.blk
 have I:∀ x,(Value.slice J (nf+1) U).ownBlock=some x→(Value.slice Af nf cf).ownBlock=some x∨x=w.heap.size:=fun x y=>by
  rcases a1 with e | e
  ·exact .inl (e ▸ y)
  ·right; rw [e] at y; injection y with y; exact y.symm
 have a6:aX 2 aJ B 33 w5 (.slice J (nf+1) U) (Lf ++ cs) (fs ++ [a]) (bf ++ ba):=by
  have a7:=h.ef;subst a7;exact h.cF.app ak a3 (fun b hb=>(a2 b hb).f) a4 hg a1
 refine ⟨ai b5,ax b5,⟨?_,by rw [χ,h.ef]; rfl,h.er,?_,?_,?_,?_,?_,?_,h.dR,?_,h.lo,?_,?_⟩,kp,I⟩
 ·have:=bY (o:=0) (u:=.slice J (nf+1) U) b5
  simpa using this
 ·exact a6.nU ak (fun x y=>π _ _ _ _ (by
   rcases I x y with e | e
   ·have:=(oF x e).1; show x ≠ sb; omega
   ·show x ≠ sb; omega)) (fun x y=>π _ _ _ _ (by
   rcases μ.1 y with y | y
   ·exact (h.bfs x y).1
   ·exact (a2 x y).s.1))
 ·exact h.cR.nU ji (fun x y=>kp x (oR x y).2 (fun e=>h.dFR x e y) (by have:=(oR x y).1; omega)) (fun x y=>by simp at y)
 ·exact h.un.keep (kp mu (by omega) (a0 mu l2) (by omega)) fun x y=>kp x (h.ous x y).2 (h.dF x y) (by have:=(h.ous x y).1; omega)
 ·exact h.pl.same (kp mp (by omega) (a0 mp l3) (by omega))
 ·intro x y a5
  rcases I x y with e | e
  ·exact h.dFR x e a5
  ·have:=(oR x a5).2; omega
 ·intro x y e
  rcases I x e with e | e
  ·exact h.dF x y e
  ·have:=(h.ous x y).2; omega
 ·intro x y
  rcases μ.1 y with y | y
  ·exact h.bfs x y
  ·have g:=a2 x y
   exact ⟨g.s.1,g.s.2.1,g.s.2.2,g.u,g.r⟩
 ·intro x y
  have:=h.ous x y;have:=hg.size;exact ⟨by omega,by simp [World.setCell]; omega⟩
 ·have:=hg.size
  simp [World.setCell]; omega
theorem D.lV.round (h:lV B sb mu mp Af nf cf Lf fs bf Ar nr cr Lr rn Lp G ou w) {w5:World} {J:Option Addr} {U:Nat} {cs:List Value} {i:Nat} (a2:aT 1 yT w cs [i] [])
  (a3:w5.ownsRow B 3 1 (.slice J (nr+1) U) (nr+1) (Lr ++ cs)) (hg:w.grownBy w5 (Value.slice Ar nr cr).ownBlock) (a1:(Value.slice J (nr+1) U).ownBlock=(Value.slice Ar nr cr).ownBlock∨(Value.slice J (nr+1) U).ownBlock=some w.heap.size):
  w5.cell? ⟨sb,1,none⟩=some (.slice Ar nr cr)∧w5.frozen? ⟨sb,1,none⟩=false∧lV B sb mu mp Af nf cf Lf fs bf J (nr+1) U (Lr ++ cs) (rn ++ [i]) Lp G ou (w5.setCell ⟨sb,1,none⟩ (.slice J (nr+1) U))∧
   (∀ x,x < w.heap.size→(Value.slice Ar nr cr).ownBlock ≠ some x→x ≠ sb→(w5.setCell ⟨sb,1,none⟩ (.slice J (nr+1) U)).heap[x]? = w.heap[x]?)∧∀ x,(Value.slice J (nr+1) U).ownBlock=some x→(Value.slice Ar nr cr).ownBlock=some x∨x=w.heap.size:=by
 obtain ⟨l1,l2,l3,l4,l5,l6⟩:=h.lo;have hs:=h.qE;have oF:∀ x,(Value.slice Af nf cf).ownBlock=some x→B≤x∧x < w.heap.size:=fun x y=>bH h.cF.own y
 have oR:∀ x,(Value.slice Ar nr cr).ownBlock=some x→B≤x∧x < w.heap.size:=fun x y=>bH h.cR.own y
 have k5:∀ x,x < w.heap.size→(Value.slice Ar nr cr).ownBlock ≠ some x→w5.heap[x]? = w.heap[x]?:=fun x h1 h2=>hg.block x h1 (fun e=>h2 e.symm)
 have kp:∀ x,x < w.heap.size→(Value.slice Ar nr cr).ownBlock ≠ some x→x ≠ sb→(w5.setCell ⟨sb,1,none⟩ (.slice J (nr+1) U)).heap[x]? = w.heap[x]?:=fun x h1 h2 h3=>(π _ _ _ _ h3).trans (k5 x h1 h2)
 have a0:∀ x,x < B→(Value.slice Ar nr cr).ownBlock ≠ some x:=fun x y e=>by have:=(oR x e).1; omega
 have b5:=(k5 sb (by omega) (a0 sb l1)).trans h.blk
 have I:∀ x,(Value.slice J (nr+1) U).ownBlock=some x→(Value.slice Ar nr cr).ownBlock=some x∨x=w.heap.size:=fun x y=>by
  rcases a1 with e | e
  ·exact .inl (e ▸ y)
  ·right; rw [e] at y; injection y with y; exact y.symm
 have a4:aX 1 yT B 3 w5 (.slice J (nr+1) U) (Lr ++ cs) (rn ++ [i]) []:=by
  have a5:=h.er;subst a5;exact h.cR.app ji a2 (fun b hb=>by simp at hb) a3 hg a1
 refine ⟨ai b5,ax b5,⟨?_,h.ef,by rw [χ,h.er]; rfl,?_,?_,?_,?_,?_,h.dF,?_,?_,h.lo,?_,?_⟩,kp,I⟩
 ·have:=bY (o:=1) (u:=.slice J (nr+1) U) b5
  simpa using this
 ·exact h.cF.nU ak (fun x y=>kp x (oF x y).2 (fun e=>h.dFR x y e) (by have:=(oF x y).1; omega)) (fun x y=>kp x (h.cF.row.lt ak x y) (h.bfs x y).2.2.2.2 (h.bfs x y).1)
 ·exact a4.nU ji (fun x y=>π _ _ _ _ (by
   rcases I x y with e | e
   ·have:=(oR x e).1; show x ≠ sb; omega
   ·show x ≠ sb; omega)) (fun x y=>by simp at y)
 ·exact h.un.keep (kp mu (by omega) (a0 mu l2) (by omega)) fun x y=>kp x (h.ous x y).2 (h.dR x y) (by have:=(h.ous x y).1; omega)
 ·exact h.pl.same (kp mp (by omega) (a0 mp l3) (by omega))
 ·intro x y a6
  rcases I x a6 with e | e
  ·exact h.dFR x y e
  ·have:=(oF x y).2; omega
 ·intro x y e
  rcases I x e with e | e
  ·exact h.dR x y e
  ·have:=(h.ous x y).2; omega
 ·intro x y
  obtain ⟨g1,g2,g3,g4,g5⟩:=h.bfs x y;refine ⟨g1,g2,g3,g4,fun e=>?_⟩
  rcases I x e with e | e
  ·exact g5 e
  ·have:=h.cF.row.lt ak x y; omega
 ·intro x y
  have:=h.ous x y;have:=hg.size;exact ⟨by omega,by simp [World.setCell]; omega⟩
 ·have:=hg.size
  simp [World.setCell]; omega
theorem D.lV.place (h:lV B sb mu mp Af nf cf Lf fs bf Ar nr cr Lr rn Lp G ou w) {U:World} {J:List (Value × Value)} (hp:oG isStr mp J U) (hg:w.grownBy U (some mp)):lV B sb mu mp Af nf cf Lf fs bf Ar nr cr Lr rn J G ou U:=by
 obtain ⟨l1,l2,l3,l4,l5,l6⟩:=h.lo;have hs:=h.qE;have oF:∀ x,(Value.slice Af nf cf).ownBlock=some x→B≤x∧x < w.heap.size:=fun x y=>bH h.cF.own y
 have oR:∀ x,(Value.slice Ar nr cr).ownBlock=some x→B≤x∧x < w.heap.size:=fun x y=>bH h.cR.own y
 have I:∀ x,x < w.heap.size→x ≠ mp→U.heap[x]? = w.heap[x]?:=fun x h1 h2=>hg.block x h1 (fun e=>h2 (by injection e))
 exact ⟨(I sb (by omega) l5).trans h.blk,h.ef,h.er,h.cF.nU ak (fun x y=>I x (oF x y).2 (by have:=(oF x y).1; omega)) (fun x y=>I x (h.cF.row.lt ak x y) (h.bfs x y).2.2.1),
  h.cR.nU ji (fun x y=>I x (oR x y).2 (by have:=(oR x y).1; omega)) (fun x y=>by simp at y),h.un.keep (I mu (by omega) l6) fun x y=>I x (h.ous x y).2 (by have:=(h.ous x y).1; omega),hp,h.dFR,h.dF,h.dR,h.bfs,h.lo,
  fun x y=>⟨(h.ous x y).1,κ (h.ous x y).2 hg.size⟩,τ hs hg.size⟩
theorem D.lV.under (h:lV B sb mu mp Af nf cf Lf fs bf Ar nr cr Lr rn Lp G ou w) {J:World} {G':WK→List Nat} {I:List Nat} (a0:w.heap.size≤J.heap.size) (U:∀ x,x < w.heap.size→x ≠ mu→x ∉ ou→J.heap[x]? = w.heap[x]?) (hu:uY B mu G' I J) (ho:∀ x ∈ I,x ∈ ou∨(w.heap.size≤x∧x < J.heap.size)):
  lV B sb mu mp Af nf cf Lf fs bf Ar nr cr Lr rn Lp G' I J:=by
 obtain ⟨l1,l2,l3,l4,l5,l6⟩:=h.lo;have hs:=h.qE;have oF:∀ x,(Value.slice Af nf cf).ownBlock=some x→B≤x∧x < w.heap.size:=fun x y=>bH h.cF.own y
 have oR:∀ x,(Value.slice Ar nr cr).ownBlock=some x→B≤x∧x < w.heap.size:=fun x y=>bH h.cR.own y
 have low:∀ x,x < B→x ∉ ou:=fun x y e=>by have:=(h.ous x e).1; omega
 refine ⟨(U sb (by omega) l4 (low sb l1)).trans h.blk,h.ef,h.er,h.cF.nU ak (fun x y=>U x (oF x y).2 (by have:=(oF x y).1; omega) (fun e=>h.dF x e y)) (fun x y=>U x (h.cF.row.lt ak x y) (h.bfs x y).2.1 (h.bfs x y).2.2.2.1),
  h.cR.nU ji (fun x y=>U x (oR x y).2 (by have:=(oR x y).1; omega) (fun e=>h.dR x e y)) (fun x y=>by simp at y),hu,h.pl.same (U mp (by omega) l6.symm (low mp l3)),h.dFR,fun x y e=>?_,fun x y e=>?_,fun x y=>?_,h.lo,fun x y=>?_,by omega⟩
 ·rcases ho x y with g | g
  ·exact h.dF x g e
  ·have:=(oF x e).2; omega
 ·rcases ho x y with g | g
  ·exact h.dR x g e
  ·have:=(oR x e).2; omega
 ·obtain ⟨g1,g2,g3,g4,g5⟩:=h.bfs x y
  refine ⟨g1,g2,g3,fun e=>?_,g5⟩
  rcases ho x e with g | g
  ·exact g4 g
  ·have:=h.cF.row.lt ak x y; omega
 ·rcases ho x y with g | g
  ·have:=h.ous x g; omega
  ·omega
end
end
section
open Go.RowKit D
attribute [local go_sem ↓] Go.wp_at_zero Go.wp_at_succ
theorem BH (sb:Nat) (fs:List A) (rn:List Nat) (bs:List Nat) (a:A) (c0 c1:Value) (ba:List Nat) (w:World) (h:kW sb fs rn bs w) (ha:aJ w [c0,c1] a ba) (hok:aZ a=true):
  Calls Tryz.prog 193 #[.pointer (some ⟨sb,0,none⟩),.agg #[c0,c1]] w fun e w'=>e=.returned (.bool (decide (eX a ∈ fs.map eX)))∧Below w.heap.size w w':=by
 obtain ⟨J,U,rfl,rfl⟩:=bG ha;have hA:Below w.heap.size w (w.alloc (.cells #[.string a.name,.slice J a.args.length U] 33)).drew:=(ζ).drew;have y:Kv a≤16777216:=by have:=JH hok; omega
 have hT:=η (rV a (.string a.name) (.slice J a.args.length U) ba _ (ak.below ha hA) y);obtain ⟨⟨Af,cf,Ar,cr,mu,mp,bf,br,Lu,Lp,h1,h2,h3,h4,h5,h6,h7,h8,h9,a1,a2,a3⟩,ho,hl⟩:=h;have a4:=hl _ ho;have H5:=η h5;have H7:=η (ι h7 h8);have HA:=η hA;have HM:=η (hl _ a1);have HS:=η (sK hok);have y0:(w.alloc (.cells #[.string a.name,.slice J a.args.length U] 33)).cell? ⟨sb,3,none⟩=some (.map (some mp)):=(World.cell?_alloc_lt _ _ _ a4).trans (ai h1);have y1:(w.alloc (.cells #[.string a.name,.slice J a.args.length U] 33)).cell? ⟨w.heap.size,0,none⟩=some (.string a.name):=by go_simp
 have y2:(w.alloc (.cells #[.string a.name,.slice J a.args.length U] 33)).cell? ⟨w.heap.size,1,none⟩=some (.slice J a.args.length U):=by go_simp
 have a7:sb < (w.alloc (.cells #[.string a.name,.slice J a.args.length U] 33)).heap.size:=by simp; omega
 clear h1 h2 h3 h4 h5 h6 h7 h8 h9 a1 a2 a3 ho hl hA ha hok y;generalize hr:decide (eX a ∈ fs.map eX)=r at *;have HR:=η hr;clear hr
 go_enter Tryz.func193,Tryz.ntmps193
 go_wp2;generalize w.alloc (.cells #[.string a.name,.slice J a.args.length U] 33)=W at *
 go_region_law
  (first
   | (go_simp; go_at_call 61; refine hT.out.mono ?_; rintro e w2 ⟨rfl,I⟩; have a5:=η I; replace y0:=ξ ((Below.refl W.heap.size W).drew.trans I) y0; obtain ⟨vi,a0⟩:=MZ (H5.out.below (HA.out.trans (I.mono HA.out.size)) HM.out) H7.out.1 H7.out.2 (eX a) HS.out; rw [HR.out] at a0; unfold eX at a0; clear I))
 all_goals
  have a6:=η (HA.out.trans (a5.out.mono HA.out.size));clear y0 y1 y2 a0;go_wp2;go_ret;exact ⟨rfl,a6.out⟩
theorem D.Ti {p f:A} {b:Bd} (h:(aG p f b).2=true):(⟨p.name,p.args.length,-1,⟨#[]⟩⟩:WK) ∈ keysOf f:=by
 unfold aG at h
 split at h
 ·rename_i e
  rw [e.1,e.2];exact Γ
 ·cases h
theorem D.YL {p f:A} {b:Bd} (hf:Gr f) (h:(aG p f b).2=true) {i:Nat} (J:i < p.args.length) (y:(dO b p.args[i]).name ≠ ⟨#[]⟩):(⟨p.name,p.args.length,i,(dO b p.args[i]).name⟩:WK) ∈ keysOf f:=by
 obtain ⟨h1,U⟩:=nS hf h;have I:=oQ p f b;generalize (aG p f b).1=b' at *;subst U
 have e:(dO b p.args[i]).name=((cO p b').args[i]'(by simp [cO]; exact J)).name:=by
  simp only [cO,List.getElem_map];unfold dO at *;cases hv:p.args[i].var
  ·rfl
  ·simp only [hv,if_true] at y ⊢
   cases hg:gI b p.args[i].name with
   | none=>unfold jB at y; rw [hg] at y; exact absurd rfl y
   | some v=>unfold jB; rw [hg,I _ _ hg]
 rw [e];have:=SS (a:=cO p b') (i:=i) (by simp [cO]; exact J);simpa [cO] using this
theorem FT (vars:List ByteArray) (hv:kC vars) (b:Bd) (sb:Nat) (fs:List A) (rn:List Nat) (bs:List Nat) (a:A) (Ae:Option Addr) (ce:Nat) (b1:List Nat) (blk o:Nat) (w:World) (h:kW sb fs rn bs w) (hb:iM vars b blk o w)
  (ha:kV vars w [.slice Ae a.args.length ce] a.args b1) (hin:∀ t ∈ a.args,t.var=true→t.name ∈ vars) (bh:a.args.length≤1000000) (af:fs.length≤1000000):
  Calls Tryz.prog 272 #[.pointer (some ⟨sb,0,none⟩),.agg #[.string a.name,.slice Ae a.args.length ce],.pointer (some ⟨blk,o,none⟩)] w fun e w'=>
   ∃ A9 c9 k bx,e=.returned (.slice A9 (idxs fs k).length c9)∧jT w' [.slice A9 (idxs fs k).length c9] (idxs fs k) bx∧(∀ x ∈ bx,x ∈ bs)∧(∀ f,Gr f→(aG a f b).2=true→k ∈ keysOf f)∧Below w.heap.size w w':=by
 obtain ⟨an,args⟩:=a;dsimp only at *;obtain ⟨⟨Af,cf,Ar,cr,mu,mp,bf,br,Lu,Lp,h1,h2,h3,h4,h5,h6,h7,h8,h9,aE,aL,aM⟩,ho,hl⟩:=h;have hA:Below w.heap.size w ((w.alloc (.cells #[.string an,.slice Ae args.length ce] 168)).alloc (.cells #[.string an,.int .i64 args.length,.int .i64 (-1),.string ⟨#[]⟩] 236)):=(ζ).alloc (by simp) _;have ag:=hb.lt;have aR:=hl _ ho
 have am:((w.alloc (.cells #[.string an,.slice Ae args.length ce] 168)).alloc (.cells #[.string an,.int .i64 args.length,.int .i64 (-1),.string ⟨#[]⟩] 236)).heap[w.heap.size+1]? = some (.cells #[.string an,.int .i64 args.length,.int .i64 (-1),.string ⟨#[]⟩] 236 (0,0)):=by
  have:=ω (w.alloc (.cells #[.string an,.slice Ae args.length ce] 168)) (.cells #[.string an,.int .i64 args.length,.int .i64 (-1),.string ⟨#[]⟩] 236);simpa using this
 have bi:((w.alloc (.cells #[.string an,.slice Ae args.length ce] 168)).alloc (.cells #[.string an,.int .i64 args.length,.int .i64 (-1),.string ⟨#[]⟩] 236)).drew.cell? ⟨w.heap.size,1,none⟩=some (.slice Ae args.length ce):=by go_simp
 have HX:=η (ι ha hin);have HB:=η hb;have HA:=η hA;have HQ:=η am;have HS:=η (ι h1 aR);have y0:=ξ hA (show w.cell? ⟨sb,2,none⟩=some (.map (some mu)) from ai h1);have a4:SX mu fs bs w:=⟨⟨Lu,h4,h6⟩,h9,hl⟩;have HU:=η a4;have ao:=η hl;obtain ⟨A0,c0,b2,aq,ar,aa⟩:=(a4.below (hA.trans ϑ.drew) hl).look ⟨an,args.length,-1,⟨#[]⟩⟩;dsimp only at aq;clear a4;have a7:=η (ι ar (ι aa (fun f (_:Gr f) hm=>Ti (p:=⟨an,args⟩) (f:=f) (b:=b) hm)));clear hA hb ha hin h1 h2 h3 h4 h5 h6 h7 h8 h9 aE aL aM ho hl am ar aa
 go_enter Tryz.func272,Tryz.ntmps272
 go_wp2;generalize ((w.alloc (.cells #[.string an,.slice Ae args.length ce] 168)).alloc (.cells #[.string an,.int .i64 args.length,.int .i64 (-1),.string ⟨#[]⟩] 236))=W at *;have x0:W.cell? ⟨w.heap.size+1,0,none⟩=some (.string an):=ai HQ.out;have x1:W.cell? ⟨w.heap.size+1,1,none⟩=some (.int .i64 args.length):=ai HQ.out;have x2:W.cell? ⟨w.heap.size+1,2,none⟩=some (.int .i64 (-1)):=ai HQ.out;have x3:W.cell? ⟨w.heap.size+1,3,none⟩=some (.string ⟨#[]⟩):=ai HQ.out;go_region
 have av:Hid (∃ (key:WK) (bx:List Nat) (z:Int) (s:ByteArray),key=⟨an,args.length,-1,⟨#[]⟩⟩∧jT W.drew [.slice A0 (idxs fs ⟨an,args.length,-1,⟨#[]⟩⟩).length c0] (idxs fs ⟨an,args.length,-1,⟨#[]⟩⟩) bx∧(∀ x ∈ bx,x ∈ bs)∧(∀ f,Gr f→(aG ⟨an,args⟩ f b).2=true→(⟨an,args.length,-1,⟨#[]⟩⟩:WK) ∈ keysOf f)∧Below w.heap.size w W.drew∧W.drew.heap[w.heap.size+1]? = some (.cells #[.string an,.int .i64 args.length,.int .i64 z,.string s] 236 (0,0))):=
  η ⟨_,b2,-1,⟨#[]⟩,rfl,a7.out.1,a7.out.2.1,a7.out.2.2,HA.out.drew,HQ.out⟩
 clear a7 HA HQ aq x0 x1 x2 x3 y0;generalize W.drew=W1 at *;go_wp2
 go_loopw [8,28] (fun best i wr=>∃ (k:Nat) (A9:Option Addr) (c9:Nat) (key:WK) (bx:List Nat) (z:Int) (s:ByteArray),k≤args.length∧i=.int .i64 k∧best=.slice A9 (idxs fs key).length c9∧jT wr [.slice A9 (idxs fs key).length c9] (idxs fs key) bx∧(∀ x ∈ bx,x ∈ bs)∧(∀ f,Gr f→(aG ⟨an,args⟩ f b).2=true→key ∈ keysOf f)∧Below w.heap.size w wr∧wr.heap[w.heap.size+1]? = some (.cells #[.string an,.int .i64 args.length,.int .i64 z,.string s] 236 (0,0))) (fun _ i _=>args.length - (intOf i).toNat)
 case atStart=>
  obtain ⟨key,bx,z,s,rfl,h⟩:=av.out;exact ⟨0,A0,c0,_,bx,z,s,ε,rfl,rfl,h⟩
 case round=>
  obtain ⟨k,A9,c9,key,bx,z,s,hk,rfl,rfl,hi,hin,a1,y,hq⟩:=hrel;clear av;by_cases a5:k < args.length
  ·obtain ⟨bq,oq,rfl,_,f0,f1,b3⟩:=yQ ((dw vars).below HX.out.1 y) a5
   have bj:(0:Int)≤(k:Int):=by omega
   have b4:(k:Int) < (args.length:Int):=by omega
   have ac:Below wr.heap.size wr (wr.alloc (.cells #[.int .i64 (kK vars args[k]),.string (kL args[k])] 244)):=ζ;have a6:=xP vars hv b args[k] (HX.out.2 _ (δ a5)) blk o _ (HB.out.keep ((y.trans (ac.mono y.size)).block _ ag));have a3:=η a5;have b5:Hid (∀ f,Gr f→(aG ⟨an,args⟩ f b).2=true→(dO b args[k]).name ≠ ⟨#[]⟩→(⟨an,args.length,k,(dO b args[k]).name⟩:WK) ∈ keysOf f):=η fun f hf hm hw=>YL (p:=⟨an,args⟩) hf hm a5 hw
   have HI:=η (ι hi (ι hin (ι a1 (ι y hq))));have ae:=η ac;have bk:(idxs fs key).length≤1000000:=τ (nX _ _) af;clear hi a1 hin y hq ac b3 hk;generalize kK vars args[k]=sn at *;generalize kL args[k]=ss at *;generalize args[k]=t at *;clear a5
   go_wp2_with fail
   refine a6.mono ?_;rintro e w2 ⟨rfl,aw⟩;have a2:=ae.out.trans (aw.mono ae.out.size);have a0:w2.heap[w.heap.size+1]? = some (.cells #[.string an,.int .i64 args.length,.int .i64 z,.string s] 236 (0,0)):=(a2.block _ (ψ HI.out.2.2.2.2)).trans HI.out.2.2.2.2;have I:=HI.out.2.2.2.1.trans (a2.mono HI.out.2.2.2.1.size);have a8:=dS.below HI.out.1 a2;have a9:=η (ι a8 (ι HI.out.2.1 (ι HI.out.2.2.1 (ι I a0))));clear HI a6 aw a2 ae;by_cases hw:(dO b t).name=⟨#[]⟩
   ·have hw':=zl
    rw [hw];clear a0 I a8;go_wp2;go_roundw
    case rel=>exact ⟨k+1,A9,c9,key,bx,z,s,a3.out,by go_num,rfl,a9.out⟩
    case measure=>have:=a3.out; simp [intOf]; omega
   ·have hw':=zk hw
    have x2:w2.cell? ⟨w.heap.size+1,2,none⟩=some (.int .i64 z):=ai a0;have x3:w2.cell? ⟨w.heap.size+1,3,none⟩=some (.string s):=ai a0;have x4:=fun q=>ax a0 (o:=q)
    have HW:=η hw;have U:=bY (o:=3) (u:=.string (dO b t).name) (bY (o:=2) (u:=.int .i64 k) a0);have J:Below w.heap.size w ((w2.setCell ⟨w.heap.size+1,2,none⟩ (.int .i64 k)).setCell ⟨w.heap.size+1,3,none⟩ (.string (dO b t).name)).drew:=((I.setCell (p:=⟨w.heap.size+1,2,none⟩) (Nat.le_succ _) _).setCell (p:=⟨w.heap.size+1,3,none⟩) (Nat.le_succ _) _).drew;obtain ⟨A8,c8,b6,b7,az,ab⟩:=(HU.out.below J ao.out).look ⟨an,args.length,k,(dO b t).name⟩;have bg:(idxs fs ⟨an,args.length,k,(dO b t).name⟩).length≤1000000:=τ (nX _ _) af;dsimp only at b7;simp at U
    have aD:jT ((w2.setCell ⟨w.heap.size+1,2,none⟩ (.int .i64 k)).setCell ⟨w.heap.size+1,3,none⟩ (.string (dO b t).name)).drew [.slice A9 (idxs fs key).length c9] (idxs fs key) bx:=dS.keep a8 fun x hx=>by
     have:=ao.out _ (a9.out.2.1 x hx);show (World.setCell _ _ _).heap[_]? = _;rw [π _ _ _ _ (by show x ≠ w.heap.size+1; omega),π _ _ _ _ (by show x ≠ w.heap.size+1; omega)]
    have b8:=η (ι aD (ι a9.out.2.1 (ι a9.out.2.2.1 (ι J U))));have b9:=η (ι az (ι ab (ι (fun f hf hm=>b5.out f hf hm HW.out) (ι J U))))
    have y2:((w2.setCell ⟨w.heap.size+1,2,none⟩ (.int .i64 k)).setCell ⟨w.heap.size+1,3,none⟩ (.string (dO b t).name)).cell? ⟨sb,2,none⟩=some (.map (some mu)):=by
     rw [World.cell?_setCell_far _ _ _ _ (by show w.heap.size+1 ≠ sb; omega),World.cell?_setCell_far _ _ _ _ (by show w.heap.size+1 ≠ sb; omega)];exact ξ I (ai HS.out.1)
    have z0:((w2.setCell ⟨w.heap.size+1,2,none⟩ (.int .i64 k)).setCell ⟨w.heap.size+1,3,none⟩ (.string (dO b t).name)).cell? ⟨w.heap.size+1,0,none⟩=some (.string an):=ai U;have z1:((w2.setCell ⟨w.heap.size+1,2,none⟩ (.int .i64 k)).setCell ⟨w.heap.size+1,3,none⟩ (.string (dO b t).name)).cell? ⟨w.heap.size+1,1,none⟩=some (.int .i64 args.length):=ai U;have z2:((w2.setCell ⟨w.heap.size+1,2,none⟩ (.int .i64 k)).setCell ⟨w.heap.size+1,3,none⟩ (.string (dO b t).name)).cell? ⟨w.heap.size+1,2,none⟩=some (.int .i64 k):=ai U;have z3:((w2.setCell ⟨w.heap.size+1,2,none⟩ (.int .i64 k)).setCell ⟨w.heap.size+1,3,none⟩ (.string (dO b t).name)).cell? ⟨w.heap.size+1,3,none⟩=some (.string (dO b t).name):=ai U;clear a0 I a8 U J aD az ab;go_wp2;generalize ((w2.setCell ⟨w.heap.size+1,2,none⟩ (.int .i64 k)).setCell ⟨w.heap.size+1,3,none⟩ (.string (dO b t).name))=W3 at *;go_region;by_cases hc:(idxs fs ⟨an,args.length,k,(dO b t).name⟩).length < (idxs fs key).length
    ·have bc:((idxs fs ⟨an,args.length,k,(dO b t).name⟩).length:Int) < ((idxs fs key).length:Int):=by omega
     go_wp2;go_roundw
     case rel=>exact ⟨k+1,A8,c8,_,b6,_,_,a3.out,by go_num,rfl,b9.out⟩
     case measure=>have:=a3.out; simp [intOf]; omega
    ·have bc:¬ ((idxs fs ⟨an,args.length,k,(dO b t).name⟩).length:Int) < ((idxs fs key).length:Int):=by omega
     go_wp2;go_roundw
     case rel=>exact ⟨k+1,A9,c9,key,bx,_,_,a3.out,by go_num,rfl,b8.out⟩
     case measure=>have:=a3.out; simp [intOf]; omega
  ·have he:k=args.length:=by omega
   have b4:¬ (k:Int) < (args.length:Int):=by omega
   have HP:=η (ι hi (ι hin (ι a1 y)));clear hi hin a1 y hq;go_wp2;go_ret;exact ⟨A9,c9,key,rfl,bx,HP.out⟩
theorem D.Tj (cs:Array Value) (k:Nat) (v:Bool) (J:k < 12) (h:cs[k]? = some (.bool v)) (w:World):(Instr.index 171 (.agg cs) (.int .i64 k)).run Tryz.prog w=.ok (.bool v) w:=by
 have h1:(Tryz.prog.info? 4).map (fun i=>i.size)=some 1:=by kernel_rfl
 obtain ⟨U,y,I⟩:=Option.map_eq_some_iff.1 h1;simp [Instr.index,asIntOf,run_underlying Tryz.underlying171,run_underlying Tryz.underlying4,sizeOf,typeInfo,y,I,part,isAgg,h,J,Result.andThen]
theorem uZ (vars:List ByteArray) (b:Bd) (sk sb:Nat) (v1 v2:Value) (wt:Nat→Bool) (io:Bool) (ah:Int) (tell:Value) (w:World) (h:mP sk sb v1 v2 wt io ah tell w) (hb:iM vars b sk 18 w):
  Calls Tryz.prog 229 #[.pointer (some ⟨sk,0,none⟩)] w fun e w'=>e=.returned (.bool (setB vars b wt))∧Below w.heap.size w w':=by
 have w0:=h.wd 0 (by omega);have w1:=h.wd 1 (by omega);have w2:=h.wd 2 (by omega);have w3:=h.wd 3 (by omega);have w4:=h.wd 4 (by omega);have w5:=h.wd 5 (by omega);have w6:=h.wd 6 (by omega);have w7:=h.wd 7 (by omega);have w8:=h.wd 8 (by omega);have w9:=h.wd 9 (by omega);have a1:=h.wd 10 (by omega);have a2:=h.wd 11 (by omega);simp only [Nat.add_zero,Nat.reduceAdd] at w0 w1 w2 w3 w4 w5 w6 w7 w8 w9 a1 a2;have HB:=η hb;clear h hb
 go_enter Tryz.func229,Tryz.ntmps229
 go_wp2
 have U:∀ i,i < 12→(#[.bool (wt 0),.bool (wt 1),.bool (wt 2),.bool (wt 3),.bool (wt 4),.bool (wt 5),.bool (wt 6),.bool (wt 7),.bool (wt 8),.bool (wt 9),.bool (wt 10),.bool (wt 11)]:Array Value)[i]? = some (.bool (wt i)):=by
  intro i hi;have:i=0∨i=1∨i=2∨i=3∨i=4∨i=5∨i=6∨i=7∨i=8∨i=9∨i=10∨i=11:=by omega
  rcases this with rfl | rfl | rfl | rfl | rfl | rfl | rfl | rfl | rfl | rfl | rfl | rfl <;> rfl
 have a3:=η U;clear U w0 w1 w2 w3 w4 w5 w6 w7 w8 w9 a1 a2;generalize (#[.bool (wt 0),.bool (wt 1),.bool (wt 2),.bool (wt 3),.bool (wt 4),.bool (wt 5),.bool (wt 6),.bool (wt 7),.bool (wt 8),.bool (wt 9),.bool (wt 10),.bool (wt 11)]:Array Value)=cs at *
 go_loopw [9] (fun i wr=>∃ (k:Nat),k≤12∧i=.int .i64 k∧(∀ j,j < k→wt j=true→JZ vars b j ≠ ⟨#[]⟩)∧wr=w) (fun i _=>12 - (intOf i).toNat)
 case atStart=>exact ⟨0,ε,rfl,fun j hj=>by omega,rfl⟩
 case round=>
  obtain ⟨k,hk,rfl,y,rfl⟩:=hrel;by_cases I:k < 12
  ·have a5:(0:Int)≤(k:Int):=by omega
   have a6:(k:Int) < 12:=by omega
   have hc:=Tj cs k (wt k) I (a3.out k I) wr;have y0:=HB.out.wd k I;have J:=η I;have a0:=η y;clear y hk I;cases hwk:wt k
   ·rw [hwk] at hc
    have HK:Hid (∀ j,j < k+1→wt j=true→JZ vars b j ≠ ⟨#[]⟩):=η fun j hj hw=>by
     rcases Nat.lt_succ_iff_lt_or_eq.1 hj with h | rfl
     ·exact a0.out j h hw
     ·rw [hwk] at hw; cases hw
    go_wp2;go_roundw
    case rel=>exact ⟨k+1,J.out,by go_num,HK.out,by trivial⟩
    case measure=>have:=J.out; simp [intOf]; omega
   ·rw [hwk] at hc
    by_cases hw:JZ vars b k=⟨#[]⟩
    ·have hw':=zl
     rw [hw] at y0
     have HF:Hid (setB vars b wt=false):=η (by
      cases h:setB vars b wt
      ·rfl
      ·exact absurd hw (FH.1 h k J.out hwk))
     go_wp2;go_ret;rw [HF.out];exact ⟨rfl,ϑ⟩
    ·have hw':=zk hw
     have HK:Hid (∀ j,j < k+1→wt j=true→JZ vars b j ≠ ⟨#[]⟩):=η fun j hj a4=>by
      rcases Nat.lt_succ_iff_lt_or_eq.1 hj with h | rfl
      ·exact a0.out j h a4
      ·exact hw
     go_wp2;go_roundw
     case rel=>exact ⟨k+1,J.out,by go_num,HK.out,by trivial⟩
     case measure=>have:=J.out; simp [intOf]; omega
  ·have he:k=12:=by omega
   subst he;have HF:Hid (setB vars b wt=true):=η (FH.2 y);go_wp2;go_ret;rw [HF.out];exact ⟨rfl,ϑ⟩
end
end Go.Proofs.YtkjinanbccloeaaGreatDoor
