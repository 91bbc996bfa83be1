/- Of the proof of FnExactProofOk: SortS, MatS, LevI. -/
import Derived.Lib.OwnBridge
import Derived.Sort.OwnSorted
import Derived.Test.YtlmngncogomgeaaGreatDoorM11
import Derived.Lib.QuietBelow
import Derived.StillTailTactics
import Derived.Test.YtlmngncogomgeaaGreatDoorM07
set_option linter.unusedVariables false
set_option maxHeartbeats 4000000
set_option maxRecDepth 100000
namespace Go.Proofs.YtlmngncogomgeaaGreatDoor
section
open Go.RowKit Go.Sort D
theorem D.Em {base e:Nat} {w:World} {v:Value} {L:List Value} {xs:List ByteArray} {J:List Nat} (h:cu 1 jy base e w v L xs J):L=xs.map Value.string∧(∀ s ∈ xs,s.size≤maxLen)∧J = []:=by
 obtain ⟨_,⟨U,_,G,rfl,I⟩,_⟩:=h;rw [Nat.mul_one] at U
 have h1:∀ j (y:j < xs.length),L[j]? = some (.string xs[j])∧xs[j].size≤maxLen∧G j = []:=fun j y=>by
  obtain ⟨a,b,c⟩:=I j y;refine ⟨?_,b,c⟩;rw [Nat.mul_one] at a;have:=congrArg (fun l:List Value=>l[0]?) a;simpa [List.getElem?_take,List.getElem?_drop] using this
 refine ⟨List.ext_getElem? fun j=>?_,fun s hs=>?_,?_⟩
 ·by_cases y:j < xs.length
  ·rw [(h1 j y).1]; simp [y]
  ·rw [List.getElem?_eq_none (by omega),List.getElem?_eq_none (by simp; omega)]
 ·obtain ⟨j,y,rfl⟩:=List.mem_iff_getElem.1 hs
  exact (h1 j y).2.1
 ·exact List.flatMap_eq_nil_iff.2 fun j y=>(h1 j (List.mem_range.1 y)).2.2
theorem D.wX {base e:Nat} {w:World} {v:Value} {ys:List ByteArray} (h:w.ownsRow base e 1 v ys.length (ys.map Value.string)) (I:∀ s ∈ ys,s.size≤maxLen):cu 1 jy base e w v (ys.map Value.string) ys []:=by
 refine ⟨h,⟨by simp,fun u J=>?_,fun _=>[],by simp,fun j y=>⟨?_,I _ (δ y),rfl⟩⟩,fun b U=>by simp at U⟩
 ·obtain ⟨s,_,rfl⟩:=List.mem_map.1 J
  rfl
 ·rw [Nat.mul_one]
  refine List.ext_getElem? fun i=>?_
  rcases i with _ | i
  ·simp [List.getElem?_drop,y]
  ·simp; omega
def D.BV (l:List (List UInt8)):List ByteArray:=l.map fun b=>⟨b.toArray⟩
theorem D.BX (l:List (List UInt8)):(BV l).map (·.data.toList)=l:=by
 unfold BV; rw [List.map_map]
 refine (List.map_congr_left (g:=id) fun b _=>?_).trans (List.map_id l);show b.toArray.toList=b;rfl
theorem D.IL (l:List (List UInt8)):(BV l).map Value.string=l.map encStr:=by
 unfold BV; rw [List.map_map]; rfl
theorem D.En {l:List (List UInt8)} {n:Nat} (h:∀ b ∈ l,b.length≤n):∀ s ∈ BV l,s.size≤n:=fun s y=>by
 obtain ⟨b,I,rfl⟩:=List.mem_map.1 y;exact h b I
theorem D.Cb {xs:List ByteArray} {n:Nat} (h:∀ s ∈ xs,s.size≤n):∀ b ∈ xs.map (·.data.toList),b.length≤n:=fun b y=>by
 obtain ⟨s,I,rfl⟩:=List.mem_map.1 y;exact h s I
theorem OD (xs:List ByteArray) (v:Value) (L:List Value) (base:Nat) (w:World) (hC:cu 1 jy base 9 w v L xs []) (hl:xs.length≤16777216):
  Calls Tryz.prog 195 #[v] w fun e w'=>e=.returned (.tuple #[])∧∃ ys:List ByteArray,ys.map (·.data.toList)=(xs.map (·.data.toList)).mergeSort leB∧ys.length=xs.length∧cu 1 jy base 9 w' v (ys.map Value.string) ys []∧w.grownBy w' v.ownBlock:=by
 obtain ⟨rfl,hs,_⟩:=Em hC;have a1:=hC.own
 rcases a1.2 with ⟨rfl,hx⟩ | ⟨g,cap,a3,rfl,J,hb,h1,h2,h3,h4⟩
 ·have a2:xs = []:=by simpa using hx
  subst a2;have cn:Calls Tryz.prog 195 #[.slice none 0 0] w (fun e w2=>e=.returned (.tuple #[])∧w2=w):=Any.slices_Sort_string_none Tryz.lays190 none 0 w;refine cn.mono ?_;rintro e w' ⟨rfl,rfl⟩;exact ⟨rfl,[],by simp,rfl,cu.nil _,World.grownBy.refl _ _⟩
 ·have I:(xs.map (·.data.toList)).length=xs.length:=by simp
  have hH:Holds encStr w g 0 (xs.map (·.data.toList)).toArray:=holds_of_block hb (by rw [I,Lib.map_encStr]; simpa using h4);have hg:g < w.heap.size:=ψ hb;have c:=Tryz.slices_Sort_string g 0 cap (xs.map (·.data.toList)) w hH hg (by omega);rw [I] at c;refine c.mono ?_;rintro e w' ⟨rfl,n,os,rfl⟩;have U:((xs.map (·.data.toList)).mergeSort leB).length=(xs.map (·.data.toList)).length:=List.length_mergeSort _;have y:=ownsRow_sorted (base:=base) (cap:=cap) (n:=n) (os:=os) U J hb (by rw [I]; exact h1) h2 h3;rw [I] at y U;have a0:(BV ((xs.map (·.data.toList)).mergeSort leB)).length=xs.length:=by unfold BV; rw [List.length_map]; exact U
  refine ⟨rfl,BV ((xs.map (·.data.toList)).mergeSort leB),BX _,a0,?_,grownBy_sorted _⟩;rw [← IL,← a0] at y;have:=wX y (En fun b hb=>Cb hs b ((List.mergeSort_perm _ _).mem_iff.1 hb));rw [a0] at this;exact this
end
section
open Go.RowKit Go.Sort D
attribute [local go_sem ↓] Go.wp_at_zero Go.wp_at_succ
theorem D.jD {w:World} {cs:List Value} {b:Bd} {J:List Nat} (h:iC w cs b J):∃ y p1 I p2,cs = [.slice y b.length p1,.slice I b.length p2]:=by
 obtain ⟨x0,x1,b1,b2,rfl,rfl,h1,U⟩:=h;obtain ⟨y,p1,rfl,a0,a1⟩:=ai h1;obtain ⟨I,p2,rfl,a2,a3⟩:=ai U;rw [List.length_map,List.length_map];exact ⟨_,_,_,_,rfl⟩
def D.zV (t f:T) (b:Bd):Bd × Bool:=
 if t.var then
  match eY b t.name with
  | some v=>(b,decide (v=f.name))
  | none=>(b ++ [(t.name,f.name)],true)
 else (b,decide (t.name=f.name))
theorem D.IQ (t f:T) (y fs:List T) (b:Bd):bZ (t :: y) (f :: fs) b=if (zV t f b).2 then bZ y fs (zV t f b).1 else ((zV t f b).1,false):=by
 unfold zV;rw [bZ]
 cases t.var with
 | true=>
  simp only [if_true]
  cases eY b t.name with
  | none=>simp
  | some v=>
   simp only [];by_cases h:v=f.name
   ·simp [h]
   ·simp [h]
 | false=>
  simp only [Bool.false_eq_true,if_false];by_cases h:t.name=f.name
  ·simp [h]
  ·simp [h]
theorem D.IU {xs ys:List T} (y:xs.length=ys.length) {b:Bd} {k:Nat} (h:k < xs.length):bZ (xs.drop k) (ys.drop k) b=if (zV xs[k] (ys[k]'(y ▸ h)) b).2 then bZ (xs.drop (k+1)) (ys.drop (k+1)) (zV xs[k] (ys[k]'(y ▸ h)) b).1 else ((zV xs[k] (ys[k]'(y ▸ h)) b).1,false):=by
 rw [List.drop_eq_getElem_cons (l:=xs) (i:=k) h,List.drop_eq_getElem_cons (l:=ys) (i:=k) (y ▸ h),IQ]
structure D.MB (N:Nat) (x f:A) (Ad Ad':Option Addr) (cap cap':Nat) (u0 u1 v0 v1:Value) (w:World):Prop where
 x_:w.heap[N]? = some (.cells #[.string x.name,.slice Ad x.args.length cap] 40 (0,0))
 f_:w.heap[N+1]? = some (.cells #[.string f.name,.slice Ad' f.args.length cap'] 40 (0,0))
 b_:w.heap[N+2]? = some (.cells #[u0,u1] 198 (0,0))
 r_:w.heap[N+3]? = some (.cells #[v0,v1] 198 (0,0))
section
variable {N:Nat} {x f:A} {Ad Ad':Option Addr} {cap cap':Nat} {u0 u1 v0 v1:Value} {w w':World}
theorem D.MB.below (h:MB N x f Ad Ad' cap cap' u0 u1 v0 v1 w) (y:Below w.heap.size w w'):MB N x f Ad Ad' cap cap' u0 u1 v0 v1 w':=
 ⟨by rw [y.block _ (ψ h.x_)]; exact h.x_,by rw [y.block _ (ψ h.f_)]; exact h.f_,by rw [y.block _ (ψ h.b_)]; exact h.b_,by rw [y.block _ (ψ h.r_)]; exact h.r_⟩
theorem D.MB.setB (h:MB N x f Ad Ad' cap cap' u0 u1 v0 v1 w) (y0 y1:Value):MB N x f Ad Ad' cap cap' y0 y1 v0 v1 ((w.setCell ⟨N+2,0,none⟩ y0).setCell ⟨N+2,1,none⟩ y1):=by
 have hk:∀ k,k ≠ N+2→((w.setCell ⟨N+2,0,none⟩ y0).setCell ⟨N+2,1,none⟩ y1).heap[k]? = w.heap[k]?:=fun k hk=>by rw [π _ _ _ _ hk,π _ _ _ _ hk]
 exact ⟨(hk _ (by omega)).trans h.x_,(hk _ (by omega)).trans h.f_,by simpa using bY (o:=1) (u:=y1) (bY (o:=0) (u:=y0) h.b_),(hk _ (by omega)).trans h.r_⟩
theorem D.MB.Vr (h:MB N x f Ad Ad' cap cap' u0 u1 v0 v1 w) (y0 y1:Value):MB N x f Ad Ad' cap cap' u0 u1 y0 y1 ((w.setCell ⟨N+3,0,none⟩ y0).setCell ⟨N+3,1,none⟩ y1):=by
 have hk:∀ k,k ≠ N+3→((w.setCell ⟨N+3,0,none⟩ y0).setCell ⟨N+3,1,none⟩ y1).heap[k]? = w.heap[k]?:=fun k hk=>by rw [π _ _ _ _ hk,π _ _ _ _ hk]
 exact ⟨(hk _ (by omega)).trans h.x_,(hk _ (by omega)).trans h.f_,(hk _ (by omega)).trans h.b_,by simpa using bY (o:=1) (u:=y1) (bY (o:=0) (u:=y0) h.r_)⟩
theorem D.MB.cells (h:MB N x f Ad Ad' cap cap' u0 u1 v0 v1 w):w.cell? ⟨N,0,none⟩=some (.string x.name)∧w.cell? ⟨N,1,none⟩=some (.slice Ad x.args.length cap)∧w.cell? ⟨N+1,0,none⟩=some (.string f.name)∧w.cell? ⟨N+1,1,none⟩=some (.slice Ad' f.args.length cap')∧w.cell? ⟨N+2,0,none⟩=some u0∧w.cell? ⟨N+2,1,none⟩=some u1∧w.cell? ⟨N+3,0,none⟩=some v0∧w.cell? ⟨N+3,1,none⟩=some v1:=
 ⟨by simp [World.cell?,h.x_],by simp [World.cell?,h.x_],by simp [World.cell?,h.f_],by simp [World.cell?,h.f_],by simp [World.cell?,h.b_],by simp [World.cell?,h.b_],by simp [World.cell?,h.r_],by simp [World.cell?,h.r_]⟩
theorem D.MB.free (h:MB N x f Ad Ad' cap cap' u0 u1 v0 v1 w):w.frozen? ⟨N+2,0,none⟩=false∧w.frozen? ⟨N+2,1,none⟩=false∧w.frozen? ⟨N+3,0,none⟩=false∧w.frozen? ⟨N+3,1,none⟩=false:=
 ⟨aB h.b_,aB h.b_,aB h.r_,aB h.r_⟩
end
theorem D.lY {w:World} {N:Nat} {J c1 y0 y1:Value} {b:Bd} {I:List Nat} (h:iC w [J,c1] b I) (U:N ∉ I):iC ((w.setCell ⟨N,0,none⟩ y0).setCell ⟨N,1,none⟩ y1) [J,c1] b I:=
 bJ.keep h fun c hc=>by
  have y:c ≠ N:=fun e=>U (e ▸ hc)
  rw [π _ _ _ _ y,π _ _ _ _ y]
theorem yL (x f:A) (b:Bd) (a0 a1 f0 f1 c0 c1:Value) (ba bf bs:List Nat) (w:World) (ha:aP w [a0,a1] x ba) (hf:aP w [f0,f1] f bf) (h:iC w [c0,c1] b bs) (hn:b.length≤1000000) (hx:x.args.length≤1000000):
  Calls Tryz.prog 135 #[.agg #[a0,a1],.agg #[f0,f1],.agg #[c0,c1]] w fun e w'=>Below w.heap.size w w'∧∃ d0 d1 bs',e=.returned (.tuple #[.agg #[d0,d1],.bool (aC x f b).2])∧iC w' [d0,d1] (aC x f b).1 bs'∧∀ c ∈ bs',c ∈ bs∨w.heap.size≤c:=by
 obtain ⟨s,a2,bj,ht⟩:=ha;simp only [List.cons.injEq,and_true] at a2;obtain ⟨rfl,rfl⟩:=a2;obtain ⟨Ad,cap,rfl,hl,hm⟩:=ai ht;obtain ⟨s',a2,bh,am⟩:=hf;simp only [List.cons.injEq,and_true] at a2;obtain ⟨rfl,rfl⟩:=a2;obtain ⟨Ad',cap',rfl,bk,b1⟩:=ai am;obtain ⟨A1,p1,A2,p2,a2⟩:=jD h;simp only [List.cons.injEq,and_true] at a2;obtain ⟨rfl,rfl⟩:=a2;clear hm b1
 have hA:Below w.heap.size w ((((w.alloc (.cells #[.string x.name,.slice Ad x.args.length cap] 40)).alloc (.cells #[.string f.name,.slice Ad' f.args.length cap'] 40)).alloc (.cells #[.slice A1 b.length p1,.slice A2 b.length p2] 198)).alloc (.cells #[.slice none 0 0,.slice none 0 0] 198)):=
  (((ζ).alloc (by simp) _).alloc (by simp; omega) _).alloc (by simp; omega) _
 have av:MB w.heap.size x f Ad Ad' cap cap' (.slice A1 b.length p1) (.slice A2 b.length p2) (.slice none 0 0) (.slice none 0 0) ((((w.alloc (.cells #[.string x.name,.slice Ad x.args.length cap] 40)).alloc (.cells #[.string f.name,.slice Ad' f.args.length cap'] 40)).alloc (.cells #[.slice A1 b.length p1,.slice A2 b.length p2] 198)).alloc (.cells #[.slice none 0 0,.slice none 0 0] 198)):=by
  refine ⟨?_,?_,?_,?_⟩
  ·rw [Below.heap_alloc _ _ _ (by simp; omega),Below.heap_alloc _ _ _ (by simp; omega),Below.heap_alloc _ _ _ (by simp)]
   exact ω w _
  ·rw [Below.heap_alloc _ _ _ (by first | (simp; done) | (simp; omega)),Below.heap_alloc _ _ _ (by first | (simp; done) | (simp; omega))]
   simpa using ω (w.alloc (.cells #[.string x.name,.slice Ad x.args.length cap] 40)) (.cells #[.string f.name,.slice Ad' f.args.length cap'] 40)
  ·rw [Below.heap_alloc _ _ _ (by simp)]
   simpa using ω ((w.alloc (.cells #[.string x.name,.slice Ad x.args.length cap] 40)).alloc (.cells #[.string f.name,.slice Ad' f.args.length cap'] 40)) (.cells #[.slice A1 b.length p1,.slice A2 b.length p2] 198)
  ·simpa using ω (((w.alloc (.cells #[.string x.name,.slice Ad x.args.length cap] 40)).alloc (.cells #[.string f.name,.slice Ad' f.args.length cap'] 40)).alloc (.cells #[.slice A1 b.length p1,.slice A2 b.length p2] 198)) (.cells #[.slice none 0 0,.slice none 0 0] 198)
 have a3:=bJ.lt h;have ao:=η a3;have H:=η h;have HT:=η ht;have b3:=η am;have HA:=η hA;have af:=η av;clear h ht am hA a3 av;by_cases hg:x.name=f.name∧x.args.length=f.args.length
 ·have hs:(x.name.toList == f.name.toList)=true:=by rw [toList_eq,decide_eq_true hg.1]
  have b4:(x.args.length:Int)=(f.args.length:Int):=by omega
  have HG:=η hg;have HM:Hid (aC x f b=bZ x.args f.args b):=η (by unfold aC; rw [if_pos hg]);have a9:=η hg.2;clear hg
  go_enter Tryz.func135,Tryz.ntmps135
  go_wp2_with fail
  generalize (((w.alloc (.cells #[.string x.name,.slice Ad x.args.length cap] 40)).alloc (.cells #[.string f.name,.slice Ad' f.args.length cap'] 40)).alloc (.cells #[.slice A1 b.length p1,.slice A2 b.length p2] 198)).alloc (.cells #[.slice none 0 0,.slice none 0 0] 198)=w0 at *
  go_loopw [8,9,10,11] (fun i _ _ _ wr=>∃ (k:Nat) (I:Bd) (B1 B2:Option Addr) (q1 q2:Nat) (bs':List Nat),k≤x.args.length∧i=.int .i64 k∧Hid (bZ x.args f.args b=bZ (x.args.drop k) (f.args.drop k) I)∧I.length≤b.length+k∧Hid (iC wr [.slice B1 I.length q1,.slice B2 I.length q2] I bs')∧Hid (∀ c ∈ bs',c ∈ bs∨w.heap.size+4≤c)∧Hid (MB w.heap.size x f Ad Ad' cap cap' (.slice B1 I.length q1) (.slice B2 I.length q2) (.slice none 0 0) (.slice none 0 0) wr)∧Hid (Below w.heap.size w wr)) (fun i _ _ _ _=>x.args.length - (intOf i).toNat)
  case atStart=>exact ⟨0,b,A1,A2,p1,p2,bs,ε,rfl,η rfl,by omega,η (bJ.below H.out HA.out),η fun c hc=>.inl hc,af,HA⟩
  case round=>
   obtain ⟨k,I,B1,B2,q1,q2,bs',hk,rfl,hm,bl,a4,J,hM,hB⟩:=hrel;clear HA af H;obtain ⟨x0,x1,y0,y1,z0,z1,r0,r1⟩:=hM.out.cells;obtain ⟨u0,u1,u2,u3⟩:=hM.out.free;by_cases a3:k < x.args.length
   ·obtain ⟨d,o,rfl,_,e0,e1,aw⟩:=dN (aG.below HT.out hB.out) a3
    obtain ⟨d',o',rfl,_,a7,a8,az⟩:=dN (aG.below b3.out hB.out) (a9.out ▸ a3);have HD:=η (hm.out.trans (IU a9.out a3));have b5:(k:Int) < (x.args.length:Int):=by omega
    have bi:(k:Int) < (f.args.length:Int):=by have:=a9.out; omega
    have bn:(0:Int)≤(k:Int):=by omega
    clear hm;generalize x.args[k]=t at *;generalize f.args[k]'(a9.out ▸ a3)=g at *;obtain ⟨tv,tn⟩:=t;obtain ⟨gv,gn⟩:=g;dsimp only at *
    cases tv with
    | false=>
     have HS:Hid (zV ⟨false,tn⟩ ⟨gv,gn⟩ I=(I,decide (tn=gn))):=η rfl;cases hsn:(tn.toList == gn.toList)
     ·have U:decide (tn=gn)=false:=by rw [← toList_eq]; exact hsn
      have HE:Hid (aC x f b=(I,false)):=η (by rw [HM.out,HD.out,HS.out,U]; rfl);have BB:=hB;have BD:=a4;have a5:=hM.out.Vr (.slice B1 I.length q1) (.slice B2 I.length q2);obtain ⟨-,-,-,-,-,-,k0,k1⟩:=a5.cells;clear HD HS U a5;go_wp2;exact bodyPost_ret (v:=.tuple #[.agg #[.slice B1 I.length q1,.slice B2 I.length q2],.bool false]) (by simp [results,Tryz.results135,go_sem,k0,k1]) rfl ⟨(BB.out.setCell (p:=⟨w.heap.size+3,0,none⟩) (by simp) _).setCell (p:=⟨w.heap.size+3,1,none⟩) (by simp) _,_,_,bs',by rw [HE.out],by rw [HE.out]; exact lY BD.out (fun hc=>by rcases J.out _ hc with h | h; exact absurd (ao.out _ h) (by omega); omega),fun c hc=>(J.out c hc).imp id fun h=>by omega⟩
     ·have U:decide (tn=gn)=true:=by rw [← toList_eq]; exact hsn
      have HE:Hid (bZ x.args f.args b=bZ (x.args.drop (k+1)) (f.args.drop (k+1)) I):=η (by rw [HD.out,HS.out,U]; rfl);clear HD HS U;go_wp2;go_roundw
      case rel=>exact ⟨k+1,I,B1,B2,q1,q2,bs',a3,by go_num,HE,by omega,a4,J,hM,hB⟩
      case measure=>simp [intOf]; omega
    | true=>
     have q:=fun w' (hb:Below wr.heap.size wr w')=>get_any I tn _ _ bs' w' (bJ.below a4.out hb)
     cases hgb:eY I tn with
     | some v=>
      have HS:Hid (zV ⟨true,tn⟩ ⟨gv,gn⟩ I=(I,decide (v=gn))):=η (by unfold zV; simp only [if_true]; rw [hgb]);have aa:iR I tn=v:=by unfold iR; rw [hgb]; rfl
      rw [hgb,aa] at q;clear hgb aa;cases hsn:(v.toList == gn.toList)
      ·have U:decide (v=gn)=false:=by rw [← toList_eq]; exact hsn
       have HE:Hid (aC x f b=(I,false)):=η (by rw [HM.out,HD.out,HS.out,U]; rfl);clear HD HS U;have k0:=fun d os=>cell_regrown x1 d os
       have k1:=fun d os=>cell_regrown z0 d os
       have k2:=fun d os=>cell_regrown z1 d os
       have k3:=fun d os=>cell_regrown e1 d os
       have qq:=fun d os=>Calls.regrown_of (q _ (below_regrown wr d os))
       clear q
       go_wp2_with fail
       refine wp_region_quiet_below (by kernel_rfl) (by kernel_rfl) ?_
       repeat (quiet_step (exact qq _ _))
       refine wpQuiet_nil ?_;intro _ hw';obtain ⟨⟨dq,osq⟩,hw''⟩:=hw';subst hw'';have y:=below_regrown wr dq osq;generalize grow (redrawn wr dq) osq=w1 at *;clear k0 k1 k2 k3 qq;have BB:=η (hB.out.trans (y.mono hB.out.size));have BD:=η (bJ.below a4.out y);have BM:=η (hM.out.below y);clear x0 x1 y0 y1 z0 z1 r0 r1 u0 u1 u2 u3;obtain ⟨x0,x1,y0,y1,z0,z1,r0,r1⟩:=BM.out.cells;obtain ⟨u0,u1,u2,u3⟩:=BM.out.free;have ab:=ξ y a7;have ac:=ξ y a8;clear y e0 e1 a7 a8 hB a4 hM;have a5:=BM.out.Vr (.slice B1 I.length q1) (.slice B2 I.length q2);obtain ⟨-,-,-,-,-,-,k0,k1⟩:=a5.cells;clear a5;go_wp2
       exact bodyPost_ret (v:=.tuple #[.agg #[.slice B1 I.length q1,.slice B2 I.length q2],.bool false]) (by simp [results,Tryz.results135,go_sem,k0,k1]) rfl ⟨(BB.out.setCell (p:=⟨w.heap.size+3,0,none⟩) (by simp) _).setCell (p:=⟨w.heap.size+3,1,none⟩) (by simp) _,_,_,bs',by rw [HE.out],by rw [HE.out]; exact lY BD.out (fun hc=>by rcases J.out _ hc with h | h; exact absurd (ao.out _ h) (by omega); omega),fun c hc=>(J.out c hc).imp id fun h=>by omega⟩
      ·have U:decide (v=gn)=true:=by rw [← toList_eq]; exact hsn
       have HE:Hid (bZ x.args f.args b=bZ (x.args.drop (k+1)) (f.args.drop (k+1)) I):=η (by rw [HD.out,HS.out,U]; rfl);clear HD HS U;have k0:=fun d os=>cell_regrown x1 d os
       have k1:=fun d os=>cell_regrown z0 d os
       have k2:=fun d os=>cell_regrown z1 d os
       have k3:=fun d os=>cell_regrown e1 d os
       have qq:=fun d os=>Calls.regrown_of (q _ (below_regrown wr d os))
       clear q
       go_wp2_with fail
       refine wp_region_quiet_below (by kernel_rfl) (by kernel_rfl) ?_
       repeat (quiet_step (exact qq _ _))
       refine wpQuiet_nil ?_;intro _ hw';obtain ⟨⟨dq,osq⟩,hw''⟩:=hw';subst hw'';have y:=below_regrown wr dq osq;generalize grow (redrawn wr dq) osq=w1 at *;clear k0 k1 k2 k3 qq;have BB:=η (hB.out.trans (y.mono hB.out.size));have BD:=η (bJ.below a4.out y);have BM:=η (hM.out.below y);clear x0 x1 y0 y1 z0 z1 r0 r1 u0 u1 u2 u3;obtain ⟨x0,x1,y0,y1,z0,z1,r0,r1⟩:=BM.out.cells;obtain ⟨u0,u1,u2,u3⟩:=BM.out.free;have ab:=ξ y a7;have ac:=ξ y a8;clear y e0 e1 a7 a8 hB a4 hM;go_wp2;go_roundw
       case rel=>exact ⟨k+1,I,B1,B2,q1,q2,bs',a3,by go_num,HE,by omega,BD,J,BM,BB⟩
       case measure=>simp [intOf]; omega
     | none=>
      have HS:Hid (zV ⟨true,tn⟩ ⟨gv,gn⟩ I=(I ++ [(tn,gn)],true)):=η (by unfold zV; simp only [if_true]; rw [hgb]);have aa:iR I tn=⟨#[]⟩:=by unfold iR; rw [hgb]; rfl
      have HE:Hid (bZ x.args f.args b=bZ (x.args.drop (k+1)) (f.args.drop (k+1)) (I ++ [(tn,gn)])):=η (by rw [HD.out,HS.out]; rfl);rw [hgb,aa] at q;clear hgb aa HS HD;have k0:=fun d os=>cell_regrown x1 d os
      have k1:=fun d os=>cell_regrown z0 d os
      have k2:=fun d os=>cell_regrown z1 d os
      have k3:=fun d os=>cell_regrown e1 d os
      have qq:=fun d os=>Calls.regrown_of (q _ (below_regrown wr d os))
      clear q
      go_wp2_with fail
      refine wp_region_quiet_below (by kernel_rfl) (by kernel_rfl) ?_
      repeat (quiet_step (exact qq _ _))
      refine wpQuiet_nil ?_;intro _ hw';obtain ⟨⟨dq,osq⟩,hw''⟩:=hw';subst hw'';have y:=below_regrown wr dq osq;generalize grow (redrawn wr dq) osq=w1 at *;clear k0 k1 k2 k3 qq;have BB:=η (hB.out.trans (y.mono hB.out.size));have BD:=η (bJ.below a4.out y);have BM:=η (hM.out.below y);clear x0 x1 y0 y1 z0 z1 r0 r1 u0 u1 u2 u3;obtain ⟨x0,x1,y0,y1,z0,z1,r0,r1⟩:=BM.out.cells;obtain ⟨u0,u1,u2,u3⟩:=BM.out.free;have ab:=ξ y a7;have ac:=ξ y a8;have aD:=ξ y e0;have aE:=ξ y e1;have q:=fun w' (hb:Below w1.heap.size w1 w')=>QM I tn gn _ _ bs' w' (bJ.below BD.out hb) (by omega) aw az
      clear y e0 e1 a7 a8 hB a4 hM
      go_wp2_with fail
      go_still_tail 13,(by kernel_rfl)
      change wpList _ _ _ _ _ w1.drew;have ap:=BM.out.below (Below.drew (Below.refl w1.heap.size w1));have qd:=q w1.drew (Below.drew ϑ);have aL:=η BB.out.drew;clear q x0 x1 y0 y1 z0 z1 r0 r1 u0 u1 u2 u3 ab ac aD aE BM BD BB;generalize w1.drew=w1' at *
      go_wp2_with fail
      refine qd.mono ?_;rintro e w2 ⟨aq,d0,d1,aM,rfl,ae,a6⟩;obtain ⟨B3,q3,B4,q4,a2⟩:=jD ae;simp only [List.cons.injEq,and_true] at a2;obtain ⟨rfl,rfl⟩:=a2;have b6:Hid ((I ++ [(tn,gn)]).length=I.length+1):=η (by simp);generalize I ++ [(tn,gn)]=b2 at *;have ag:=η (ap.below aq);obtain ⟨-,-,-,-,bo,bp,-,-⟩:=ag.out.cells;obtain ⟨bq,br,-,-⟩:=ag.out.free;have aR:=η (aL.out.trans (aq.mono aL.out.size));have b7:w.heap.size+4≤w1'.heap.size:=by have:=ψ ap.r_; omega
      have b8:=η (ag.out.setB (.slice B3 b2.length q3) (.slice B4 b2.length q4));have b9:=η (lY (N:=w.heap.size+2) (y0:=.slice B3 b2.length q3) (y1:=.slice B4 b2.length q4) ae fun hc=>by have:=a6 _ hc; omega);have bc:=η ((aR.out.setCell (p:=⟨w.heap.size+2,0,none⟩) (by simp) (.slice B3 b2.length q3)).setCell (p:=⟨w.heap.size+2,1,none⟩) (by simp) (.slice B4 b2.length q4));have bg:Hid (∀ c ∈ aM,c ∈ bs∨w.heap.size+4≤c):=η fun c hc=>.inr (τ b7 (a6 c hc))
      have ar:b2.length≤b.length+(k+1):=by have:=b6.out; omega
      clear ae a6 aq ag aR qd ap;go_wp2;go_roundw
      case rel=>exact ⟨k+1,b2,B3,B4,q3,q4,aM,a3,by go_num,HE,ar,b9,bg,b8,bc⟩
      case measure=>simp [intOf]; omega
   ·have he:k=x.args.length:=by omega
    have b5:¬ (k:Int) < (x.args.length:Int):=by omega
    have HE:Hid (aC x f b=(I,true)):=η (by rw [HM.out,hm.out,he,List.drop_eq_nil_of_le ν,List.drop_eq_nil_of_le (by have:=a9.out; omega),bZ]; intro t ts g gs h; cases h);clear hm he;go_wp2;have a5:=hM.out.Vr (.slice B1 I.length q1) (.slice B2 I.length q2);obtain ⟨-,-,-,-,-,-,k0,k1⟩:=a5.cells;refine bodyPost_ret (v:=.tuple #[.agg #[.slice B1 I.length q1,.slice B2 I.length q2],.bool true]) (by simp [results,Tryz.results135,go_sem,k0,k1]) rfl ?_;refine ⟨(hB.out.setCell (p:=⟨w.heap.size+3,0,none⟩) (by simp) (.slice B1 I.length q1)).setCell (p:=⟨w.heap.size+3,1,none⟩) (by simp) (.slice B2 I.length q2),.slice B1 I.length q1,.slice B2 I.length q2,by rw [HE.out],bs',?_,fun c hc=>(J.out c hc).imp id fun h=>by omega⟩;rw [HE.out];exact lY a4.out (fun hc=>by rcases J.out _ hc with h | h; exact absurd (ao.out _ h) (by omega); omega)
 ·have HM:Hid (aC x f b=(b,false)):=η (by unfold aC; rw [if_neg hg])
  obtain ⟨x0,x1,y0,y1,z0,z1,r0,r1⟩:=af.out.cells;obtain ⟨u0,u1,u2,u3⟩:=af.out.free;have HD:=η (bJ.below H.out HA.out);cases hs:(x.name.toList == f.name.toList)
  case' true=>
   have U:¬ x.args.length=f.args.length:=fun e=>hg ⟨by rw [toList_eq] at hs; exact of_decide_eq_true hs,e⟩
   have b4:¬ (x.args.length:Int)=(f.args.length:Int):=by omega
  all_goals
   go_enter Tryz.func135,Tryz.ntmps135
   go_wp2;refine bodyPost_ret (v:=.tuple #[.agg #[.slice A1 b.length p1,.slice A2 b.length p2],.bool false]) (by simp [results,Tryz.results135,go_sem]) rfl ⟨?_,.slice A1 b.length p1,.slice A2 b.length p2,bs,by rw [HM.out],?_,fun c hc=>.inl hc⟩
   ·exact (((ζ).alloc (by simp) _).alloc (by simp; omega) _).alloc (by simp; omega) _
   ·rw [HM.out]
    exact bJ.below H.out ((((ζ).alloc (by simp) _).alloc (by simp; omega) _).alloc (by simp; omega) _)
end
namespace D
open Go.RowKit
def Dy (out:List Nat):Array Value:=(out.map fun n:Nat=>Value.int .i64 (n:Int)).toArray
theorem Cc {out:List Nat} {i:Nat} (h:i < out.length):(Dy out)[i]? = some (.int .i64 (iw out i:Nat)):=by
 unfold Dy iw;simp [Ψ h]
theorem F7 (out:List Nat) (i v:Nat):(Dy out).setIfInBounds i (.int .i64 (v:Nat))=Dy (out.set i v):=by
 unfold Dy;simp [List.map_set]
theorem Ce (n:Nat):madeCells #[Value.int .i64 0] n=Dy (List.replicate n 0):=by
 unfold madeCells Dy;refine Array.ext (by simp) fun i h1 y=>?_
 simp [Nat.mod_one]
def numOf:Option Value→Nat
 | some (.int _ z)=>z.toNat
 | _=>0
def Ci (w:World) (g n:Nat):Nat:=((List.range n).map fun i=>numOf (w.cell? ⟨g,i,none⟩)).sum
theorem Eo {w:World} {g:Nat} {out:List Nat} {t:TypeId} (h:w.heap[g]? = some (.cells (Dy out) t (0,0))):Ci w g out.length=out.sum:=by
 unfold Ci
 have:((List.range out.length).map fun i=>numOf (w.cell? ⟨g,i,none⟩))=out:=by
  refine List.ext_getElem (by simp) fun i h1 y=>?_
  simp only [List.getElem_map,List.getElem_range];rw [aj h,Cc y];unfold numOf iw;simp [Ψ y]
 rw [this]
def lC (rs:List Ru) (out:List Nat) (s:ByteArray):Nat:=iw out ((aJ rs).idxOf s)
structure LV (rs:List Ru) (out:List Nat):Prop where
 len:out.length=(aJ rs).length
 bel:∀ T,KI rs T→∀ n ∈ bI rs,lC rs out n≤T n
 lo:∀ i,i < out.length→iw out i < out.length
theorem Cj (n i:Nat):iw (List.replicate n 0) i=0:=by
 unfold iw; rw [List.getD_eq_getElem?_getD,List.getElem?_replicate]; split <;> rfl
theorem LV.zero (rs:List Ru):LV rs (List.replicate (aJ rs).length 0):=
 ⟨by simp,fun T _ n _=>by unfold lC; rw [Cj]; exact ε,fun i h=>by rw [Cj]; omega⟩
theorem LV.FD {rs:List Ru} {out:List Nat} (h:LV rs out):out.sum≤(aJ rs).length * (aJ rs).length:=by
 have:=Ea (out:=out) (n:=out.length) fun i hi=>Nat.le_of_lt (h.lo i hi)
 rw [h.len] at this;exact this
theorem vH {rs:List Ru} {n:ByteArray} (h:n ∈ bI rs):(aJ rs).idxOf n < (aJ rs).length:=List.idxOf_lt_length_of_mem (jb.2 h)
theorem LV.step {rs:List Ru} {out:List Nat} (h:LV rs out) {r:Ru} (hr:r ∈ rs) {p:Pt} (hp:p ∈ r.body) (hh:p.atom.name ∈ bI rs) {l:Nat} (hl:l=lC rs out p.atom.name+Au p)
  (I:lC rs out r.head.name < l) (hN:l < (aJ rs).length):LV rs (out.set ((aJ rs).idxOf r.head.name) l)∧out.sum < (out.set ((aJ rs).idxOf r.head.name) l).sum:=by
 have hi:=vH (head_mem hr);have y:(aJ rs).idxOf r.head.name < out.length:=by rw [h.len]; exact hi
 refine ⟨⟨by simp [h.len],fun T U n hn=>?_,fun i J=>?_⟩,?_⟩
 ·unfold lC
  rw [nN y]
  split
  ·rename_i e
   have e2:n=r.head.name:=by
    have h1:=List.getElem_idxOf hi;have h2:=List.getElem_idxOf (vH hn);rw [← h2,← h1]
    congr 1
    exact e.symm
   have h3:=U r hr p hp hh;have h4:=h.bel T U _ hh;rw [e2,hl]; omega
  ·exact h.bel T U n hn
 ·rw [List.length_set] at J ⊢
  rw [nN y]
  split
  ·rw [h.len]; exact hN
  ·exact h.lo i J
 ·refine QD (KJ (Nat.le_of_lt I)) fun e=>?_
  have h5:=yE y e;unfold lC at I;omega
theorem LV.err {rs:List Ru} {out:List Nat} (h:LV rs out) {r:Ru} (hr:r ∈ rs) {p:Pt} (J:p ∈ r.body) (y:p.atom.name ∈ bI rs) {l:Nat} (hl:l=lC rs out p.atom.name+Au p)
  (hN:(aJ rs).length≤l):kW rs=true:=by
 refine Om fun S U=>?_
 obtain ⟨T,I,hs⟩:=D9 U;have h1:=I r hr p J y;have h2:=hs _ (head_mem hr);have h3:=h.bel T I _ y;omega
def OE (rs:List Ru) (out:List Nat) (r:Ru) (p:Pt):Prop:=p.atom.name ∈ bI rs→lC rs out p.atom.name+Au p≤lC rs out r.head.name
def vI (rs:List Ru) (out:List Nat) (k:Nat):Prop:=∀ r ∈ rs.take k,∀ p ∈ r.body,OE rs out r p
theorem LV.done {rs:List Ru} {out:List Nat} (h:LV rs out) (y:vI rs out rs.length):kW rs=false∧∀ i,i < rs.length→lC rs out (dI rs i).head.name=iw (aF rs) i:=by
 have h1:KI rs (lC rs out):=fun r hr p I J=>y r (by rw [ϕ ν]; exact hr) p I J
 exact ⟨yF h1,QF h1 h.bel⟩
theorem vI.zero (rs:List Ru) (out:List Nat):vI rs out 0:=fun r hr=>by simp at hr
theorem vI.snoc {rs:List Ru} {out:List Nat} {k:Nat} (h:k < rs.length) (h1:vI rs out k) (y:∀ p ∈ rs[k].body,OE rs out rs[k] p):vI rs out (k+1):=fun r hr=>by
 rw [ρ h] at hr
 rcases μ.1 hr with hr | hr
 ·exact h1 r hr
 ·rw [ώ.1 hr]; exact y
def DC (rs:List Ru) (out:List Nat) (r:Ru) (j:Nat):Prop:=∀ p ∈ r.body.take j,OE rs out r p
theorem DC.zero (rs:List Ru) (out:List Nat) (r:Ru):DC rs out r 0:=fun p y=>by simp at y
theorem DC.snoc {rs:List Ru} {out:List Nat} {r:Ru} {j:Nat} (h:j < r.body.length) (h1:DC rs out r j) (I:OE rs out r r.body[j]):DC rs out r (j+1):=fun p y=>by
 rw [ρ h] at y
 rcases μ.1 y with y | y
 ·exact h1 p y
 ·rw [ώ.1 y]; exact I
end D
end Go.Proofs.YtlmngncogomgeaaGreatDoor
