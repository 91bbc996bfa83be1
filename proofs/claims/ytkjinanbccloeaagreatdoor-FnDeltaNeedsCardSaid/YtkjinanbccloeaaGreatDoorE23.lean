/- Of the proof of FnDeltaNeeds: WanI, UndI, RPutS, FineI. -/
import Derived.Test.YtkjinanbccloeaaGreatDoorE20
import Derived.Test.YtkjinanbccloeaaGreatDoorE21
set_option linter.unusedVariables false
set_option maxHeartbeats 8000000
set_option maxRecDepth 100000
namespace Go.Proofs.YtkjinanbccloeaaGreatDoor
open Go.RowKit D
attribute [local go_sem ↓] Go.wp_at_zero Go.wp_at_succ
def D.gX (vars:List ByteArray) (y:List T) (i:Nat):Bool:=y.any fun t=>t.var && vars.idxOf t.name == i
theorem D.PV (vars:List ByteArray) (y:List T) (k i:Nat) (h:k < y.length):gX vars (y.take (k+1)) i=(gX vars (y.take k) i || (y[k].var && vars.idxOf y[k].name == i)):=by
 unfold gX;rw [ρ h,List.any_append];simp
structure D.ja (sk:Nat) (w w':World):Prop where
 grow:w.grownBy w' (some sk)
 rest:∀ q,(q < 4∨16≤q)→w'.cell? ⟨sk,q,none⟩=w.cell? ⟨sk,q,none⟩
 frz:∀ q,w'.frozen? ⟨sk,q,none⟩=w.frozen? ⟨sk,q,none⟩
theorem D.ja.trans {sk:Nat} {w w' I:World} (h:ja sk w w') (k:ja sk w' I):ja sk w I:=
 ⟨⟨k.grow.os.trans h.grow.os,k.grow.tape.trans h.grow.tape,k.grow.output.trans h.grow.output,τ h.grow.size k.grow.size,fun i J y=>(k.grow.block i (κ J h.grow.size) y).trans (h.grow.block i J y)⟩,
  fun q hq=>(k.rest q hq).trans (h.rest q hq),fun q=>(k.frz q).trans (h.frz q)⟩
theorem D.ja.of_below {sk:Nat} {w w':World} (h:Below w.heap.size w w') (hb:sk < w.heap.size):ja sk w w':=
 ⟨⟨h.os,h.tape,h.output,h.size,fun i y _=>h.block i y⟩,fun q _=>World.cell?_of_block (h.block _ hb),fun q=>World.frozen?_of_block (h.block _ hb)⟩
theorem D.ja.put {sk:Nat} (w:World) (i:Nat) (I:i < 12) (v:Value):ja sk w (w.setCell ⟨sk,4+i,none⟩ v):=
 ⟨⟨rfl,rfl,rfl,by simp [World.setCell],fun k _ y=>π _ _ _ _ (fun e=>y (by rw [e]))⟩,
  fun q hq=>World.cell?_setCell_other _ _ _ _ (fun e=>by injection e with _ e2 _; omega),fun q=>World.frozen?_setCell _ _ _ _⟩
theorem D.iM.wt {vars:List ByteArray} {b:Bd} {sk:Nat} {w w':World} (h:iM vars b sk 18 w) (k:ja sk w w'):iM vars b sk 18 w':=
 ⟨fun i y=>(k.rest _ (by omega)).trans (h.wd i y),fun i y=>by obtain ⟨z,h1,I⟩:=h.bd i y; exact ⟨z,(k.rest _ (by omega)).trans h1,I⟩,(k.rest _ (by omega)).trans h.ct,fun i y=>(k.frz _).trans (h.fz i y)⟩
theorem D.mP.put {sk sb:Nat} {I J:Value} {wt:Nat→Bool} {io:Bool} {ah:Int} {tell:Value} {w:World} (h:mP sk sb I J wt io ah tell w) (j:Nat) (U:j < 12) (y:Nat→Bool) (hw:∀ i,i < 12→y i=(wt i || j == i)):
  mP sk sb I J y io ah tell (w.setCell ⟨sk,4+j,none⟩ (.bool true)):=by
 have k:=ja.put (sk:=sk) w j U (.bool true);have c:=D.kM w sk (4+j) (.bool true) (h.wd j U);refine ⟨(k.rest _ (by omega)).trans h.st,(k.rest _ (by omega)).trans h.p1,(k.rest _ (by omega)).trans h.p2,fun i hi=>?_,(k.rest _ (by omega)).trans h.io,(k.rest _ (by omega)).trans h.ah,(k.rest _ (by omega)).trans h.tl⟩;rw [c,hw i hi];by_cases e:i=j
 ·subst e; simp
 ·rw [if_neg (by omega),h.wd i hi]
  have:(j == i)=false:=beq_eq_false_iff_ne.2 (fun e2=>e e2.symm);rw [this,Bool.or_false]
theorem Nz (vars : List ByteArray) (hv : kC vars) (a : A) (Ae : Option Addr) (ce : Nat) (b1 : List Nat) (sk sb : Nat) (v1 v2 : Value) (wt : Nat → Bool) (io : Bool) (ah : Int) (tell : Value) (w : World) (h : mP sk sb v1 v2 wt io ah tell w)
    (hf : ∀ q, w.frozen? ⟨sk, q, none⟩ = false) (ha : kV vars w [.slice Ae a.args.length ce] a.args b1) (hin : ∀ t ∈ a.args, t.var = true → t.name ∈ vars) (h1 : sk ∉ b1) (am : a.args.length ≤ 1000000) :
    Calls Tryz.prog 115 #[.pointer (some ⟨sk, 0, none⟩), .agg #[.string a.name, .slice Ae a.args.length ce]] w fun e w' => e = .returned (.tuple #[]) ∧ mP sk sb v1 v2 (fun i => wt i || gX vars a.args i) io ah tell w' ∧ ja sk w w' := by
  obtain ⟨an, args⟩ := a;dsimp only at *;have a5 := h.lt;have hA : Below w.heap.size w (w.alloc (.cells #[.string an, .slice Ae args.length ce] 168)) := (Below.refl _ _).alloc (Nat.le_refl _) _
  have a6 : Hid (mP sk sb v1 v2 (fun i => wt i || gX vars (args.take 0) i) io ah tell (w.alloc (.cells #[.string an, .slice Ae args.length ce] 168)) ∧ ja sk w (w.alloc (.cells #[.string an, .slice Ae args.length ce] 168))) :=
    Lib.hid ⟨by have e : (fun i => wt i || gX vars (args.take 0) i) = wt := funext fun i => by simp [gX]
                rw [e]; exact h.keep (hA.block _ a5), ja.of_below hA a5⟩
  have HX := Lib.hid (And.intro ha (And.intro hin hf));clear h ha hin hf hA
  go_enter Tryz.func115, Tryz.ntmps115
  go_wp2;generalize w.alloc (.cells #[.string an, .slice Ae args.length ce] 168) = W at *
  go_loopw [9] (fun i wr => ∃ (k : Nat), k ≤ args.length ∧ i = .int .i64 k ∧ mP sk sb v1 v2 (fun i => wt i || gX vars (args.take k) i) io ah tell wr ∧ ja sk w wr) (fun i _ => args.length - (intOf i).toNat)
  case atStart => exact ⟨0, Nat.zero_le _, rfl, a6.out⟩
  case round =>
    obtain ⟨k, hk, rfl, hI, hK⟩ := hrel;clear a6;by_cases y : k < args.length
    · have ao := hK.grow.size
      have a7 : kV vars wr [.slice Ae args.length ce] args b1 := (dw vars).keep HX.out.1 fun b hb => hK.grow.block b ((dw vars).lt HX.out.1 b hb) (fun e => h1 (by injection e with e; rw [← e]; exact hb))
      obtain ⟨bq, oq, rfl, _, f0, f1, aa⟩ := yQ a7 y;have aq : (0 : Int) ≤ (k : Int) := by omega
      have ab : (k : Int) < (args.length : Int) := by omega
      have a8 := Lib.hid (HX.out.2.1 _ (List.getElem_mem y));have a2 : Hid (∀ i, gX vars (args.take (k + 1)) i = (gX vars (args.take k) i || (args[k].var && vars.idxOf args[k].name == i))) := Lib.hid fun i => PV vars args k i y
      have a3 : Below wr.heap.size wr (wr.alloc (.cells #[.int .i64 (kK vars args[k]), .string (kL args[k])] 244)) := (Below.refl _ _).alloc (Nat.le_refl _) _;have a1 : sk < wr.heap.size := by omega
      have I := hI.keep (a3.block _ a1);have J := Lib.hid (hK.trans (ja.of_below a3 a1));have U := Lib.hid y;have ar : (wr.alloc (.cells #[.int .i64 (kK vars args[k]), .string (kL args[k])] 244)).cell? ⟨wr.heap.size, 0, none⟩ = some (.int .i64 (kK vars args[k])) := by go_simp
      clear hI hK a3 aa hk a7;generalize hsn : kK vars args[k] = sn at *;generalize kL args[k] = ss at *;generalize args[k] = t at *;clear y;have a4 := Lib.hid hsn;have av : Hid (sk ≠ wr.heap.size) := Lib.hid (by omega);clear hsn;cases htv : t.var
      · have hs : sn = -1 := by rw [← a4.out]; unfold kK; simp [htv]
        subst hs
        have a0 : Hid (mP sk sb v1 v2 (fun i => wt i || gX vars (args.take (k + 1)) i) io ah tell (wr.alloc (.cells #[.int .i64 (-1), .string ss] 244))) := Lib.hid (by
          have e : (fun i => wt i || gX vars (args.take (k + 1)) i) = fun i => wt i || gX vars (args.take k) i := funext fun i => by rw [a2.out]; simp [htv]
          rw [e]; exact I)
        clear I;go_wp2;go_roundw
        case rel => exact ⟨k + 1, U.out, by go_num, a0.out, J.out⟩
        case measure => have := U.out; simp [intOf]; omega
      · have hn := a8.out htv
        have hi := List.idxOf_lt_length_of_mem hn;have ag := hv.few;have hs : sn = ((vars.idxOf t.name : Nat) : Int) := by rw [← a4.out]; unfold kK; simp [htv]
        subst hs;have hj : vars.idxOf t.name < 12 := by omega
        have a9 : ∀ i, i < 12 → (wt i || gX vars (args.take (k + 1)) i) = ((wt i || gX vars (args.take k) i) || vars.idxOf t.name == i) := fun i _ => by rw [a2.out]; simp [htv, Bool.or_assoc]
        clear htv a4 hn hi a8 a2;generalize vars.idxOf t.name = j at *;have y0 := I.wd j hj;have y1 : (wr.alloc (.cells #[.int .i64 (j : Nat), .string ss] 244)).frozen? ⟨sk, 4 + j, none⟩ = false := (J.out.frz _).trans (HX.out.2.2 _);have aw : (0 : Int) ≤ (j : Int) := by omega
        have az : (j : Int) < 12 := by omega
        have a0 := Lib.hid (I.put j hj (fun i => wt i || gX vars (args.take (k + 1)) i) a9);have ac := Lib.hid (J.out.trans (ja.put _ j hj (.bool true)));clear I J a9;go_wp2;generalize wr.alloc (.cells #[.int .i64 (j : Nat), .string ss] 244) = W1 at *;go_region;have ae : Hid (mP sk sb v1 v2 (fun i => wt i || gX vars (args.take (k + 1)) i) io ah tell (W1.setCell ⟨sk, 4 + j, none⟩ (.bool true)).drew) := Lib.hid (a0.out.keep rfl);have af : Hid (ja sk w (W1.setCell ⟨sk, 4 + j, none⟩ (.bool true)).drew) := Lib.hid (ac.out.trans (ja.of_below ((Below.refl _ _).drew) a0.out.lt));go_wp2;go_roundw
        case rel => exact ⟨k + 1, U.out, by go_num, ae.out, af.out⟩
        case measure => have := U.out; simp [intOf]; omega
    · have he : k = args.length := by omega
      have ab : ¬ (k : Int) < (args.length : Int) := by omega
      rw [List.take_of_length_le (Nat.le_of_eq he.symm)] at hI;have HP := Lib.hid (And.intro hI hK);clear hI hK;go_wp2
      go_end0
      exact ⟨rfl, HP.out⟩
def D.NC (w:World) (blk o:Nat):Nat:=match w.cell? ⟨blk,o+24,none⟩ with | some (.int _ n)=>n.toNat | _=>0
theorem D.iM.cnt {vars:List ByteArray} {b:Bd} {blk o:Nat} {w:World} (h:iM vars b blk o w):NC w blk o=b.length:=by unfold NC; rw [h.ct]; simp
theorem ND (vars:List ByteArray) (hv:kC vars) (b:Bd) (ac:jZ vars b) (m:Nat) (hm:m≤b.length) (blk o:Nat) (w:World) (hb:iM vars b blk o w):
  Calls Tryz.prog 232 #[.pointer (some ⟨blk,o,none⟩),.int .i64 m] w fun e w'=>e=.returned (.tuple #[])∧kE vars blk o w (b.take m) w':=by
 have a5:=hb.lt;have a6:Hid (kE vars blk o w b w):=η ⟨hb,ac,dK.refl _ _ _⟩;clear hb
 go_enter Tryz.func232,Tryz.ntmps232
 go_wp2
 go_loopw [] (fun wr=>∃ (k:Nat),m≤k∧k≤b.length∧kE vars blk o w (b.take k) wr) (fun wr=>NC wr blk o)
 case atStart=>exact ⟨b.length,hm,ν,by rw [ϕ ν]; exact a6.out⟩
 case round=>
  obtain ⟨k,ae,af,I⟩:=hrel;clear a6;have U:=I.at_.ct;have a0:(b.take k).length=k:=by simp; omega
  rw [a0] at U;by_cases ag:m < k
  ·obtain ⟨k,rfl⟩:∃ k',k=k'+1:=⟨k - 1,by omega⟩
   have a7:k < b.length:=by omega
   have a1:b.take (k+1)=b.take k ++ [(b[k].1,b[k].2)]:=ρ a7;have hok:=I.ok;rw [a1] at hok;have y:(b.take k).length=k:=by simp; omega
   obtain ⟨J,hn,a8⟩:=hok.init;dsimp only at hn a8;have a2:=I.at_;rw [a1] at a2;have a3:=a2.unbind hv hok;rw [y] at a3;have hi:=List.idxOf_lt_length_of_mem hn;have ar:=hv.few;have hlen:=J.len;rw [y] at hlen;obtain ⟨z,a9,aa⟩:=I.at_.bd k (by have:=hok.len; simp at this; omega)
   have am:z=(vars.idxOf b[k].1:Nat):=by
    rw [aa (by omega)];simp
   subst am;have x0:=I.at_.wd (vars.idxOf b[k].1) (by omega);have x1:=I.at_.fz (vars.idxOf b[k].1) (by omega);have x3:=I.at_.fz 24 (by omega);have a4:=I.at_.cnt;rw [a0] at a4;have HK:=η I.kept;have av:k < 12:=by have:=hok.len; simp at this; omega
   clear I a2 aa hok a1 hn a8;generalize vars.idxOf b[k].1=j at *;have aw:(m:Int) < ((k+1:Nat):Int):=by omega
   have az:(0:Int)≤(k:Int):=by omega
   have ao:(k:Int) < 12:=by omega
   have aD:(0:Int)≤(j:Int):=by omega
   have aE:(j:Int) < 12:=by omega
   have e1:((k+1:Nat):Int) - 1=(k:Int):=by omega
   have p1:=D.kM wr blk (o+24) (.int .i64 (k:Nat)) U;have c1:(wr.setCell ⟨blk,o+24,none⟩ (.int .i64 (k:Nat))).cell? ⟨blk,o+24,none⟩=some (.int .i64 (k:Nat)):=(p1 _).trans (if_pos rfl);have c2:(wr.setCell ⟨blk,o+24,none⟩ (.int .i64 (k:Nat))).cell? ⟨blk,o+12+k,none⟩=some (.int .i64 (j:Nat)):=((p1 _).trans (if_neg (by omega))).trans a9;have c3:(wr.setCell ⟨blk,o+24,none⟩ (.int .i64 (k:Nat))).cell? ⟨blk,o+j,none⟩=_:=((p1 _).trans (if_neg (by omega))).trans x0;have c4:(wr.setCell ⟨blk,o+24,none⟩ (.int .i64 (k:Nat))).frozen? ⟨blk,o+j,none⟩=false:=(World.frozen?_setCell _ _ _ _).trans x1
   have ab:dK blk o w (((wr.setCell ⟨blk,o+24,none⟩ (.int .i64 (k:Nat))).setCell ⟨blk,o+j,none⟩ (.string ⟨#[]⟩)).drew):=by
    have k1:=HK.out.trans (dK.put wr 24 (by omega) (.int .i64 (k:Nat)));have k2:=k1.trans (dK.put _ j (by omega) (.string ⟨#[]⟩));exact k2.trans (dK.of_below (ϑ.drew) (κ a5 k2.grow.size))
   have HP:Hid (kE vars blk o w (b.take k) (((wr.setCell ⟨blk,o+24,none⟩ (.int .i64 (k:Nat))).setCell ⟨blk,o+j,none⟩ (.string ⟨#[]⟩)).drew)):=η ⟨a3.keep rfl,J,ab⟩;have HN:=η (ι ae (ι ag af));have aq:=η a4;have HL:=η y;clear a3 J ab p1 a0 y a4;go_wp2;go_region;have HM:Hid (NC (((wr.setCell ⟨blk,o+24,none⟩ (.int .i64 (k:Nat))).setCell ⟨blk,o+j,none⟩ (.string ⟨#[]⟩)).drew) blk o < NC wr blk o):=η (by rw [HP.out.at_.cnt,HL.out,aq.out]; omega);clear c1 c2 c3 c4 x0 x1 x3 U a9;generalize (((wr.setCell ⟨blk,o+24,none⟩ (.int .i64 (k:Nat))).setCell ⟨blk,o+j,none⟩ (.string ⟨#[]⟩)).drew)=S1 at *;go_wp2;go_roundw
   case rel=>exact ⟨k,by have:=HN.out; omega,by have:=HN.out; omega,HP.out⟩
   case measure=>exact HM.out
  ·have he:k=m:=by omega
   subst he;have ao:¬ (k:Int) < (k:Int):=by omega
   have HP:=η I;clear I;go_wp2
   go_end0
   exact ⟨rfl,HP.out⟩
theorem VH:(Tryz.prog.info? 3).map (fun i=>(i.zero,i.size,i.bytes))=some (some (.int .i64 0),1,8):=by kernel_rfl
abbrev D.Rd:=List A × List Nat
def D.iK (r:Rd) (a:A) (n:Nat):Rd:=if hasB r.1 a then r else (eG r.1 a,r.2.take (pl r.1 a) ++ [n] ++ r.2.drop (pl r.1 a))
def D.sS:Rel Rd:=fun w cs r bs=>∃ s b o c y I,cs = [s,.slice (some ⟨b,o,none⟩) r.2.length c]∧bs=y ++ I∧aC w [s] r.1 y∧jT w [.slice (some ⟨b,o,none⟩) r.2.length c] r.2 I∧r.2.length=r.1.length
theorem D.qj:Good sS:=
 ⟨fun h J=>by
   obtain ⟨s,b,o,c,U,b2,h1,rfl,y,I,h5⟩:=h
   exact ⟨s,b,o,c,U,b2,h1,rfl,au.keep y fun b hb=>J b (Ξ _ hb),dS.keep I fun b hb=>J b (Ω _ hb),h5⟩,
  fun h b hb=>by
   obtain ⟨s,b',o,c,U,b2,h1,rfl,y,I,h5⟩:=h
   rcases μ.1 hb with hb | hb
   ·exact au.lt y b hb
   ·exact dS.lt I b hb⟩
def D.jq (xs:List Nat):List Value:=xs.map fun x=>.int .i64 (x:Nat)
theorem D.NE {base e:Nat} {w:World} {v:Value} {ys:List Nat} (h:w.ownsRow base e 1 v ys.length (jq ys)):∃ y,jT w [v] ys y∧∀ b ∈ y,base≤b:=by
 have hr:aT 1 yT w (jq ys) ys []:=by
  refine ⟨by simp [jq],fun u I=>?_,fun _=>[],by simp,fun j J=>⟨?_,rfl⟩⟩
  ·obtain ⟨s,_,rfl⟩:=List.mem_map.1 I
   rfl
  ·rw [Nat.mul_one]
   refine List.ext_getElem? fun i=>?_
   rcases i with _ | i
   ·simp [jq,List.getElem?_drop,J]
   ·simp [jq]; omega
 obtain ⟨y,U,h3⟩:=hr.slice h;exact ⟨y,U,fun b hb=>(h3 b hb).elim id fun h=>by cases h⟩
def D.PJ (Bk:List Nat) (w U:World) (xs X:List A) (ns:List Nat) (Ax:Option Addr) (px b o pr k:Nat) (n:Nat) (d0 d1 ao aq:Value) (L1 L2:List Value) (f:Nat→Bool) (a:Act) (w':World):Prop:=
 ∃ (a0 a1 a2 y a3 a4 a5 a6 a7 a8 a9 aa ab ac ae af ag I am:Value) (o1 o2:Option Nat) (bl:List Nat) (J:World),a=⟨#[.agg #[.slice Ax xs.length px,.slice (some ⟨b,o,none⟩) ns.length pr],.agg #[d0,d1],.int .i64 n,.pointer (some ⟨w.heap.size,0,none⟩),.pointer (some ⟨w.heap.size+1,0,none⟩),undef,.pointer (some ⟨w.heap.size+1+1,0,none⟩),.int .i64 k,.bool false,.tuple #[.int .i64 k,.bool false],.pointer (some ⟨w.heap.size,0,none⟩),.slice Ax xs.length px,.agg #[d0,d1],.tuple #[.int .i64 k,.bool false],.int .i64 k,.bool false,.bool false,undef,a0,a1,a2,y,a3,a4,a5,a6,a7,a8,a9,aa,ab,ac,ae,af,ag,I,am],[]⟩∧Below U.heap.size U J∧
  (f 17=false→ug U.heap.size 3 k L1 (.int .i64 n) (f 4) (f 9) (f 11) (f 12) a3 a8 aa ab o1 o2 J)∧(f 17=true→Em U.heap.size 3 J I (k+1+L2.length) (L1 ++ [.int .i64 n] ++ L2) o1)∧(KR U.heap.size J o1∧KR U.heap.size J o2∧(f 17=true→f 4=true∧f 9=true∧f 11=true∧f 12=true))∧
  (f 3=true→(∃ A cap,y=.slice A X.length cap)∧aC J [y] X bl∧∀ c ∈ bl,o1 ≠ some c∧o2 ≠ some c∧(c ∈ Bk∨U.heap.size≤c))∧
  ((f 0=true→a0=.pointer (some ⟨w.heap.size,0,none⟩))∧(f 1=true→a1=.slice Ax xs.length px)∧(f 2=true→a2=.agg #[d0,d1])∧(f 5=true→a4=.pointer (some ⟨w.heap.size,1,none⟩))∧(f 6=true→a5=.slice (some ⟨b,o,none⟩) ns.length pr)∧(f 7=true→a6=.int .i64 k)∧(f 8=true→a7=ao)∧(f 10=true→a9=.int .i64 n)∧(f 13=true→ac=.pointer (some ⟨w.heap.size,1,none⟩))∧(f 14=true→ae=.slice (some ⟨b,o,none⟩) ns.length pr)∧(f 15=true→af=.int .i64 k)∧(f 16=true→ag=aq)∧(f 18=true→am=.agg #[y,I]∧f 3=true∧f 17=true))∧
  (f 19=false→w'=J)∧(f 19=true→w'=(J.setCell ⟨w.heap.size+1+1,0,none⟩ y).setCell ⟨w.heap.size+1+1,1,none⟩ I)∧(f 19=true→∀ i,i < 19→f i=true)
theorem VI (xs:List A) (J:List Nat) (a:A) (n:Nat) (c0 d0 d1:Value) (b o pr:Nat) (b0 b1 b2:List Nat) (w:World) (hx:aC w [c0] xs b0) (hi:jT w [.slice (some ⟨b,o,none⟩) J.length pr] J b1) (h2:aJ w [d0,d1] a b2) (hlen:J.length=xs.length)
  (bv:gm xs=true) (hm:xs.length≤100000000000):
  Calls Tryz.prog 111 #[.agg #[c0,.slice (some ⟨b,o,none⟩) J.length pr],.agg #[d0,d1],.int .i64 n] w fun e w'=>Below w.heap.size w w'∧∃ e0 e1 bs',e=.returned (.agg #[e0,e1])∧sS w' [e0,e1] (iK (xs,J) a n) bs'∧∀ c ∈ bs',c ∈ b0 ++ b1 ++ b2∨w.heap.size≤c:=by
 obtain ⟨Ax,px,rfl,d2,d3⟩:=aj hx;obtain ⟨Ab,pb,cG,d4,cI⟩:=aj hi;simp only [Value.slice.injEq,true_and] at cG;obtain ⟨rfl,rfl⟩:=cG;obtain ⟨Aa,ca,rfl,rfl⟩:=bG h2;obtain ⟨i0,bw,cj,ck,cl⟩:=info_parts VH;have HX:=η hx;have HI:=η hi;have cJ:=η h2;have hA:Below w.heap.size w (((w.alloc (.cells #[.slice Ax xs.length px,.slice (some ⟨b,o,none⟩) J.length pr] 96)).alloc (.cells #[.string a.name,.slice Aa a.args.length ca] 33)).alloc (.cells #[.slice none 0 0,.slice none 0 0] 96)):=((ζ).alloc (by simp) _).alloc (by simp; omega) _;have bq:(((w.alloc (.cells #[.slice Ax xs.length px,.slice (some ⟨b,o,none⟩) J.length pr] 96)).alloc (.cells #[.string a.name,.slice Aa a.args.length ca] 33)).alloc (.cells #[.slice none 0 0,.slice none 0 0] 96)).heap[w.heap.size]? = some (.cells #[.slice Ax xs.length px,.slice (some ⟨b,o,none⟩) J.length pr] 96 (0,0)):=by rw [Below.heap_alloc _ _ _ (by simp; omega),Below.heap_alloc _ _ _ (by simp)]; exact ω w _
 have c5:(((w.alloc (.cells #[.slice Ax xs.length px,.slice (some ⟨b,o,none⟩) J.length pr] 96)).alloc (.cells #[.string a.name,.slice Aa a.args.length ca] 33)).alloc (.cells #[.slice none 0 0,.slice none 0 0] 96)).heap[w.heap.size+1]? = some (.cells #[.string a.name,.slice Aa a.args.length ca] 33 (0,0)):=by
  rw [Below.heap_alloc _ _ _ (by simp)];simpa using ω (w.alloc (.cells #[.slice Ax xs.length px,.slice (some ⟨b,o,none⟩) J.length pr] 96)) (.cells #[.string a.name,.slice Aa a.args.length ca] 33)
 have br:(((w.alloc (.cells #[.slice Ax xs.length px,.slice (some ⟨b,o,none⟩) J.length pr] 96)).alloc (.cells #[.string a.name,.slice Aa a.args.length ca] 33)).alloc (.cells #[.slice none 0 0,.slice none 0 0] 96)).heap[w.heap.size+1+1]? = some (.cells #[.slice none 0 0,.slice none 0 0] 96 (0,0)):=by
  simpa using ω ((w.alloc (.cells #[.slice Ax xs.length px,.slice (some ⟨b,o,none⟩) J.length pr] 96)).alloc (.cells #[.string a.name,.slice Aa a.args.length ca] 33)) (.cells #[.slice none 0 0,.slice none 0 0] 96)
 have q3:=yE xs a _ _ _ b0 b2 _ (au.below hx hA) (ak.below h2 hA) bv
 have cm:J ≠ []→b < w.heap.size:=fun d5=>by
  obtain ⟨b',o',e',bi,_⟩:=qP hi (k:=0) (by cases J with | nil=>exact absurd rfl d5 | cons=>simp);simp only [Option.some.injEq,Addr.mk.injEq,and_true] at e';rw [e'.1];exact dS.lt hi b' bi
 have cn:∀ j (hj:j < J.length),w.cell? ⟨b,o+j,none⟩=some (.int .i64 (J[j]:Nat)):=fun j hj=>by
  obtain ⟨b',o',e',bi,hc⟩:=qP hi hj;simp only [Option.some.injEq,Addr.mk.injEq,and_true] at e';obtain ⟨rfl,rfl⟩:=e';exact hc
 have dT:pl xs a≤xs.length:=(qG bv a).2.2;have bx:Hid (iK (xs,J) a n=if hasB xs a then (xs,J) else (eG xs a,J.take (pl xs a) ++ [n] ++ J.drop (pl xs a))):=η rfl
 have cK:Hid (∀ w',Below w.heap.size w w'→Lies w' (some ⟨b,o,none⟩) (jq (J.take (pl xs a)))):=η fun w' bi=>Lies.mk fun j u hj=>by
  have c6:=(List.getElem?_eq_some_iff.1 hj).1;simp [jq] at c6;have bh:j < J.length:=by omega
  refine ((bi.cell (p:=⟨b,o+j,none⟩) (cm (by intro e'; rw [e'] at bh; simp at bh))).trans (cn j bh)).trans ?_;rw [← hj]; simp [jq,c6]
 have cL:Hid (∀ w',Below w.heap.size w w'→Lies w' (some ⟨b,o+pl xs a,none⟩) (jq (J.drop (pl xs a)))):=η fun w' bi=>Lies.mk fun j u hj=>by
  have c6:=(List.getElem?_eq_some_iff.1 hj).1;simp [jq] at c6;have bh:pl xs a+j < J.length:=by omega
  rw [Nat.add_assoc];refine ((bi.cell (p:=⟨b,o+(pl xs a+j),none⟩) (cm (by intro e'; rw [e'] at bh; simp at bh))).trans (cn _ bh)).trans ?_;rw [← hj]; simp [jq,bh]
 have bp:=η (au.lt hx);have cg:=η (dS.lt hi);have bz:=η (ak.lt h2);have d6:=τ d4 cI;have bj:=η hlen;clear hx hi h2 d2 d3 cm cn hlen
 cases hh:hasB xs a with
 | true=>
  rw [hh] at q3 bx;have co:Hid (iK (xs,J) a n=(xs,J)):=bx;clear hh bx
  go_enter Tryz.func111,Tryz.ntmps111
  go_wp2_with fail
  refine q3.mono ?_;rintro e w1 ⟨rfl,bf⟩;have B1:=η (hA.trans (bf.mono hA.size));have bk:=(bf.block _ (ψ bq)).trans bq;have bg:=(bf.block _ (ψ br)).trans br;have y0:w1.cell? ⟨w.heap.size,0,none⟩=some (.slice Ax xs.length px):=ai bk;have y1:w1.cell? ⟨w.heap.size,1,none⟩=some (.slice (some ⟨b,o,none⟩) J.length pr):=ai bk;have z0:w1.cell? ⟨w.heap.size+1+1,0,none⟩=some (.slice none 0 0):=ai bg;have z1:w1.cell? ⟨w.heap.size+1+1,1,none⟩=some (.slice none 0 0):=ai bg;have z2:w1.frozen? ⟨w.heap.size+1+1,0,none⟩=false:=ax bg;have z3:w1.frozen? ⟨w.heap.size+1+1,1,none⟩=false:=ax bg;have b9:=bY (o:=1) (u:=.slice (some ⟨b,o,none⟩) J.length pr) (bY (o:=0) (u:=.slice Ax xs.length px) bg);have c7:((w1.setCell ⟨w.heap.size+1+1,0,none⟩ (.slice Ax xs.length px)).setCell ⟨w.heap.size+1+1,1,none⟩ (.slice (some ⟨b,o,none⟩) J.length pr)).cell? ⟨w.heap.size+1+1,0,none⟩=some (.slice Ax xs.length px):=ai b9
  have c8:((w1.setCell ⟨w.heap.size+1+1,0,none⟩ (.slice Ax xs.length px)).setCell ⟨w.heap.size+1+1,1,none⟩ (.slice (some ⟨b,o,none⟩) J.length pr)).cell? ⟨w.heap.size+1+1,1,none⟩=some (.slice (some ⟨b,o,none⟩) J.length pr):=ai b9;have bt:∀ c,c < w.heap.size→((w1.setCell ⟨w.heap.size+1+1,0,none⟩ (.slice Ax xs.length px)).setCell ⟨w.heap.size+1+1,1,none⟩ (.slice (some ⟨b,o,none⟩) J.length pr)).heap[c]? = w.heap[c]?:=fun c hc=>by rw [π _ _ _ _ (by show c ≠ w.heap.size+1+1; omega),π _ _ _ _ (by show c ≠ w.heap.size+1+1; omega)]; exact B1.out.block c hc
  have cP:=η bt;have d7:=η ((B1.out.setCell (p:=⟨w.heap.size+1+1,0,none⟩) (by show w.heap.size≤w.heap.size+1+1; omega) (.slice Ax xs.length px)).setCell (p:=⟨w.heap.size+1+1,1,none⟩) (by show w.heap.size≤w.heap.size+1+1; omega) (.slice (some ⟨b,o,none⟩) J.length pr));clear q3 bf b9 bt bq c5 br hA;go_wp2;refine bodyPost_ret (v:=.agg #[.slice Ax xs.length px,.slice (some ⟨b,o,none⟩) J.length pr]) (by simp [results,Tryz.results111,go_sem,c7,c8]) rfl ⟨d7.out,_,_,b0 ++ b1,rfl,?_,fun c hc=>.inl (Ξ _ hc)⟩;rw [co.out];exact ⟨.slice Ax xs.length px,b,o,pr,b0,b1,rfl,rfl,au.keep HX.out fun c hc=>cP.out c (bp.out c hc),dS.keep HI.out fun c hc=>cP.out c (cg.out c hc),bj.out⟩
 | false=>
  rw [hh] at q3;have co:Hid (iK (xs,J) a n=(eG xs a,J.take (pl xs a) ++ [n] ++ J.drop (pl xs a))):=η (by rw [bx.out,hh]; rfl);have d8:Hid ((eG xs a).length=xs.length+1):=η (by unfold eG; rw [hh]; simp; omega);clear hh bx;generalize pl xs a=k at *;clear d6
  go_enter Tryz.func111,Tryz.ntmps111
  go_wp2_with fail
  refine q3.mono ?_;rintro e w1 ⟨rfl,bf⟩;have B1:=η (hA.trans (bf.mono hA.size));have bk:=(bf.block _ (ψ bq)).trans bq;have cp:=(bf.block _ (ψ c5)).trans c5;have bg:=(bf.block _ (ψ br)).trans br;have cQ:w.heap.size+3≤w1.heap.size:=by have:=ψ bg; omega
  have e3:(0:Int)≤(k:Int):=by omega
  have e4:(k:Int)≤(J.length:Int):=by have:=bj.out; omega
  have e9:(k:Int)≤(pr:Int):=by omega
  have ea:(J.length:Int)≤(pr:Int):=by omega
  have dC:=ay cI;have d9:(jq (J.take k)).length=k:=by have:=bj.out; simp [jq]; omega
  have bA:(jq (J.drop k)).length=J.length - k:=by simp [jq]
  have bB:∀ l:List Nat,∀ u ∈ jq l,Value.oneCell' u=true:=fun l u hu=>by obtain ⟨t,_,rfl⟩:=List.mem_map.1 hu; rfl
  clear q3 bq c5 br hA bf
  go_wp2_with fail
  obtain ⟨cT,b6⟩:∃ V:Value,V=if pr=k then (.slice (some ⟨b,o,none⟩) (J.length - k) 0) else (.slice (some ⟨b,o+k,none⟩) (J.length - k) (pr - k)):=⟨_,rfl⟩
  have cU:∃ Ay c,cT=.slice Ay (J.length - k) c∧∀ w',Below w.heap.size w w'→Lies w' Ay (jq (J.drop k)):=by
   by_cases hce:pr=k
   ·rw [if_pos hce] at b6
    exact ⟨_,_,b6,fun w' bi=>by rw [List.drop_eq_nil_of_le (by omega)]; exact Lies.nil _ _⟩
   ·rw [if_neg hce] at b6
    exact ⟨_,_,b6,cL.out⟩
  refine qo (PJ (b0 ++ b2) w w1 xs (eG xs a) J Ax px b o pr k n (.string a.name) (.slice Aa a.args.length ca) (.slice (some ⟨b,o,none⟩) k pr) cT (jq (J.take k)) (jq (J.drop k))) (by kernel_rfl) (by kernel_rfl) ?h0 ?hs ?hd
  case h0=>exact ⟨undef,undef,undef,undef,undef,undef,undef,undef,undef,undef,undef,undef,undef,undef,undef,undef,undef,undef,undef,none,none,[],_,rfl,ϑ.drew,fun _=>ug.start,fun h=>(by cases h),⟨fun b h=>(by cases h),fun b h=>(by cases h),fun h=>(by cases h)⟩,fun h=>(by cases h),⟨fun h=>(by cases h),fun h=>(by cases h),fun h=>(by cases h),fun h=>(by cases h),fun h=>(by cases h),fun h=>(by cases h),fun h=>(by cases h),fun h=>(by cases h),fun h=>(by cases h),fun h=>(by cases h),fun h=>(by cases h),fun h=>(by cases h),fun h=>(by cases h)⟩,fun _=>rfl,fun h=>(by cases h),fun h=>(by cases h)⟩
  case hd=>
   intro f aa w3 hf hJ;obtain ⟨ag,am,ao,a2,a3,aq,ar,av,aw,a4,az,ae,a5,aD,aM,aR,b3,aE,af,o1,o2,bl,w2,rfl,hB,hC,hR,⟨a1,U,a0⟩,h3,⟨e0,e1,e2,e5,e6,e7,e8,a6,a7,a8,a9,ac,ab⟩,c9,bE,bL⟩:=hJ;obtain rfl:=bE (hf 19 (by simp));obtain ⟨⟨A3,q3,rfl⟩,cV,cq⟩:=h3 (hf 3 (by simp));obtain ⟨⟨A4,q4,b7⟩,bO,da⟩:=hR (hf 17 (by simp));rw [bA] at b7 bO;subst b7;have cQ:w.heap.size+3≤w2.heap.size:=τ cQ hB.size;have bn:w2.heap[w.heap.size+1+1]? = some (.cells #[.slice none 0 0,.slice none 0 0] 96 (0,0)):=(hB.block _ (by omega)).trans bg;have b9:=bY (o:=1) (u:=.slice A4 (k+1+(J.length - k)) q4) (bY (o:=0) (u:=.slice A3 (eG xs a).length q3) bn);have c7:((w2.setCell ⟨w.heap.size+1+1,0,none⟩ (.slice A3 (eG xs a).length q3)).setCell ⟨w.heap.size+1+1,1,none⟩ (.slice A4 (k+1+(J.length - k)) q4)).cell? ⟨w.heap.size+1+1,0,none⟩=some (.slice A3 (eG xs a).length q3):=ai b9
   have c8:((w2.setCell ⟨w.heap.size+1+1,0,none⟩ (.slice A3 (eG xs a).length q3)).setCell ⟨w.heap.size+1+1,1,none⟩ (.slice A4 (k+1+(J.length - k)) q4)).cell? ⟨w.heap.size+1+1,1,none⟩=some (.slice A4 (k+1+(J.length - k)) q4):=ai b9;have bt:∀ c,c ≠ w.heap.size+1+1→((w2.setCell ⟨w.heap.size+1+1,0,none⟩ (.slice A3 (eG xs a).length q3)).setCell ⟨w.heap.size+1+1,1,none⟩ (.slice A4 (k+1+(J.length - k)) q4)).heap[c]? = w2.heap[c]?:=fun c hc=>by rw [π _ _ _ _ hc,π _ _ _ _ hc]
   have db:=η (((B1.out.trans (hB.mono B1.out.size)).setCell (p:=⟨w.heap.size+1+1,0,none⟩) (by show w.heap.size≤w.heap.size+1+1; omega) (.slice A3 (eG xs a).length q3)).setCell (p:=⟨w.heap.size+1+1,1,none⟩) (by show w.heap.size≤w.heap.size+1+1; omega) (.slice A4 (k+1+(J.length - k)) q4))
   have cb:Hid (∃ bs',sS ((w2.setCell ⟨w.heap.size+1+1,0,none⟩ (.slice A3 (eG xs a).length q3)).setCell ⟨w.heap.size+1+1,1,none⟩ (.slice A4 (k+1+(J.length - k)) q4)) [.slice A3 (eG xs a).length q3,.slice A4 (k+1+(J.length - k)) q4] (iK (xs,J) a n) bs'∧∀ c ∈ bs',c ∈ b0 ++ b1 ++ b2∨w.heap.size≤c):=η (by
    have cc:(J.take k ++ [n] ++ J.drop k).length=k+1+(J.length - k):=by have:=bj.out; simp; omega
    have dc:jq (J.take k ++ [n] ++ J.drop k)=jq (J.take k) ++ [.int .i64 n] ++ jq (J.drop k):=by simp [jq]
    have cr:=uy (w':=((w2.setCell ⟨w.heap.size+1+1,0,none⟩ (.slice A3 (eG xs a).length q3)).setCell ⟨w.heap.size+1+1,1,none⟩ (.slice A4 (k+1+(J.length - k)) q4))) bO fun t ht=>bt t (by have:=(jJ bO t ht).1; omega)
    obtain ⟨g2,k2,r2⟩:=NE (ys:=J.take k ++ [n] ++ J.drop k) (by rw [cc,dc]; exact cr)
    obtain ⟨gg,gc,cW⟩:∃ gg gc,Value.slice A4 (k+1+(J.length - k)) q4=.slice (some ⟨gg,0,none⟩) (k+1+(J.length - k)) gc:=by
     rcases bO.2 with ⟨h,_⟩ | ⟨g,cap,_,h,_⟩
     ·simp at h
     ·exact ⟨g,cap,h⟩
    rw [co.out];refine ⟨bl ++ g2,⟨.slice A3 (eG xs a).length q3,gg,0,gc,bl,g2,by rw [cc,cW],rfl,au.keep cV fun c hc=>bt c (fun e=>?_),by rw [cc,← cW]; exact k2,?_⟩,fun c hc=>?_⟩
    ·rcases (cq c hc).2.2 with h | h
     ·rcases μ.1 h with h | h
      ·have:=bp.out c h; omega
      ·have:=bz.out c h; omega
     ·omega
    ·show (J.take k ++ [n] ++ J.drop k).length=(eG xs a).length
     rw [cc,d8.out]; have:=bj.out; omega
    ·rcases μ.1 hc with hc | hc
     ·rcases (cq c hc).2.2 with h | h
      ·left; rcases μ.1 h with h | h
       ·exact Ξ _ (Ξ _ h)
       ·exact Ω _ h
      ·right; omega
     ·right; have:=r2 c hc; omega)
   clear hC hR h3 e0 e1 e2 e5 e6 e7 e8 a6 a7 a8 a9 ac ab c9 bE bL bO da cV cq hB bn b9 bt a1 U a0 HX HI cJ cK cL bp cg bz bk cp bg cU bB;go_wp2;exact bodyPost_ret (v:=.agg #[.slice A3 (eG xs a).length q3,.slice A4 (k+1+(J.length - k)) q4]) (by simp [results,Tryz.results111,go_sem,c7,c8]) rfl ⟨db.out,_,_,_,rfl,cb.out.choose_spec⟩
  case hs=>
   intro i oo ho f aa w2 hJ hf I;obtain ⟨ag,am,ao,a2,a3,aq,ar,av,aw,a4,az,ae,a5,aD,aM,aR,b3,aE,af,o1,o2,bl,wi,rfl,hB,hC,hR,⟨a1,U,a0⟩,h3,⟨e0,e1,e2,e5,e6,e7,e8,a6,a7,a8,a9,ac,ab⟩,c9,bE,bL⟩:=hJ;by_cases de:i=19
   case pos=>
    subst de;obtain rfl:=Option.some.inj ho;simp [Region.binds] at I;obtain ⟨cX,bu,f0,f1,f2,f3,f4,f5,f6,f7,f8,f9,cv,cd,f12,cw,cx,cz,cA,_⟩:=I;obtain rfl:=c9 hf;have dg:=(ab cX).1;subst dg;obtain ⟨⟨A3,q3,rfl⟩,_⟩:=h3 f3;obtain ⟨⟨A4,q4,b7⟩,_⟩:=hR bu;rw [bA] at b7;subst b7;have bn:w2.heap[w.heap.size+1+1]? = some (.cells #[.slice none 0 0,.slice none 0 0] 96 (0,0)):=(hB.block _ (by omega)).trans bg;have eb:w2.frozen? ⟨w.heap.size+1+1,0,none⟩=false:=ax bn;have ec:w2.frozen? ⟨w.heap.size+1+1,1,none⟩=false:=ax bn;have c7:w2.cell? ⟨w.heap.size+1+1,0,none⟩=some (.slice none 0 0):=ai bn;have c8:w2.cell? ⟨w.heap.size+1+1,1,none⟩=some (.slice none 0 0):=ai bn;refine wpOp_step rfl (fun K' hK=>?_);go_simp;refine hK _ _ ?_
    refine ⟨_,_,_,_,_,_,_,_,_,_,_,_,_,_,_,_,_,_,_,o1,o2,bl,w2,rfl,hB,hC,hR,⟨a1,U,a0⟩,h3,⟨fun _=>rfl,fun _=>rfl,fun _=>rfl,fun _=>rfl,fun _=>rfl,fun _=>rfl,fun _=>rfl,fun _=>rfl,fun _=>rfl,fun _=>rfl,fun _=>rfl,fun _=>b6.symm,fun _=>⟨rfl,f3,bu⟩⟩,fun h=>(by cases h),fun _=>rfl,fun _ i hi=>?_⟩
    match i,hi with
    | 0,_=>exact f0
    | 1,_=>exact f1
    | 2,_=>exact f2
    | 3,_=>exact f3
    | 4,_=>exact f4
    | 5,_=>exact f5
    | 6,_=>exact f6
    | 7,_=>exact f7
    | 8,_=>exact f8
    | 9,_=>exact f9
    | 10,_=>exact cv
    | 11,_=>exact cd
    | 12,_=>exact f12
    | 13,_=>exact cw
    | 14,_=>exact cx
    | 15,_=>exact cz
    | 16,_=>exact cA
    | 17,_=>exact bu
    | 18,_=>exact cX
    | q+19,h=>omega
   case neg=>
    have y:f 19=false:=by
     cases hc:f 19 with
     | false=>rfl
     | true=>
      by_cases di:i < 19
      ·exact absurd (bL hc i di) (by simp [hf])
      ·exfalso
       rw [Array.getElem?_eq_none (by simp; omega)] at ho;cases ho
    obtain rfl:=c9 y;have ce:=B1.out.trans (hB.mono B1.out.size);have b4:=hB.size
    match i,ho,hf,I with
    | 0,ho,hf,I=>
     obtain rfl:=Option.some.inj ho;refine wpOp_step rfl (fun K' hK=>?_);go_simp;refine hK _ _ ?_;exact ⟨(.pointer (some ⟨w.heap.size,0,none⟩)),am,ao,a2,a3,aq,ar,av,aw,a4,az,ae,a5,aD,aM,aR,b3,aE,af,o1,o2,bl,_,rfl,hB,hC,hR,⟨a1,U,a0⟩,h3,⟨fun _=>rfl,e1,e2,e5,e6,e7,e8,a6,a7,a8,a9,ac,ab⟩,fun _=>rfl,Φ y,Φ y⟩
    | 1,ho,hf,I=>
     obtain rfl:=Option.some.inj ho;simp [Region.binds] at I;have f0:=I;have g0:=e0 f0;subst g0;have hc:w2.cell? ⟨w.heap.size,0,none⟩=some (.slice Ax xs.length px):=(hB.cell (p:=⟨w.heap.size,0,none⟩) (by simp; omega)).trans (ai bk);refine wpOp_step rfl (fun K' hK=>?_);go_simp;refine hK _ _ ?_;exact ⟨_,(.slice Ax xs.length px),ao,a2,a3,aq,ar,av,aw,a4,az,ae,a5,aD,aM,aR,b3,aE,af,o1,o2,bl,_,rfl,hB,hC,hR,⟨a1,U,a0⟩,h3,⟨e0,fun _=>rfl,e2,e5,e6,e7,e8,a6,a7,a8,a9,ac,ab⟩,fun _=>rfl,Φ y,Φ y⟩
    | 2,ho,hf,I=>
     obtain rfl:=Option.some.inj ho;have hc:w2.cell? ⟨w.heap.size+1,0,none⟩=some (.string a.name):=(hB.cell (p:=⟨w.heap.size+1,0,none⟩) (by simp; omega)).trans (ai cp);have ed:w2.cell? ⟨w.heap.size+1,1,none⟩=some (.slice Aa a.args.length ca):=(hB.cell (p:=⟨w.heap.size+1,1,none⟩) (by simp; omega)).trans (ai cp);refine wpOp_step rfl (fun K' hK=>?_);go_simp;refine hK _ _ ?_;exact ⟨ag,am,(.agg #[.string a.name,.slice Aa a.args.length ca]),a2,a3,aq,ar,av,aw,a4,az,ae,a5,aD,aM,aR,b3,aE,af,o1,o2,bl,_,rfl,hB,hC,hR,⟨a1,U,a0⟩,h3,⟨e0,e1,fun _=>rfl,e5,e6,e7,e8,a6,a7,a8,a9,ac,ab⟩,fun _=>rfl,Φ y,Φ y⟩
    | 3,ho,hf,I=>
     obtain rfl:=Option.some.inj ho;simp [Region.binds] at I;obtain ⟨f1,f2⟩:=I;have g1:=e1 f1;subst g1;have g2:=e2 f2;subst g2;have g0:=au.below HX.out ce;have q:=Bz xs a _ _ _ b0 b2 w2 g0 (ak.below cJ.out ce) bv (by omega);refine wpOp_step rfl (fun K' hK=>?_);go_simp;refine q.mono ?_;rintro e w3 hr;obtain ⟨bR,A3,q3,dj,rfl,dk,cB⟩:=IG hr g0 (fun c hc=>Ξ _ hc)
     have cY:∀ c ∈ b0 ++ b2,c < w1.heap.size:=fun c hc=>by have:=B1.out.size; rcases μ.1 hc with hc | hc; have:=bp.out c hc; omega; have:=bz.out c hc; omega
     refine hK _ _ ?_;exact ⟨ag,_,_,(.slice A3 (eG xs a).length q3),a3,aq,ar,av,aw,a4,az,ae,a5,aD,aM,aR,b3,aE,af,o1,o2,dj,_,rfl,hB.trans (bR.mono b4),fun h=>(hC h).below bR,fun h=>(hR h).keep fun b hb=>bR.block b (a1 b hb).2,⟨a1.keep bR.size,U.keep bR.size,a0⟩,fun _=>⟨⟨_,_,rfl⟩,dk,fun c hc=>⟨fun e=>by have:=a1 c e; rcases cB c hc with h | h; have:=cY c h; omega; omega,fun e=>by have:=U c e; rcases cB c hc with h | h; have:=cY c h; omega; omega,(cB c hc).imp id fun h=>τ b4 h⟩⟩,⟨e0,e1,e2,e5,e6,e7,e8,a6,a7,a8,a9,ac,fun h=>absurd ((ab h).2.1.symm.trans hf) (by decide)⟩,fun _=>rfl,Φ y,Φ y⟩
    | 4,ho,hf,I=>
     obtain rfl:=Option.some.inj ho
     have b5:f 17=false:=by
      cases hc:f 17 with
      | false=>rfl
      | true=>exact absurd (a0 hc).1 (by simp [hf])
     have C:=hC b5;rw [hf] at C;have bX:Below w2.heap.size w2 (w2.alloc (.cells #[] 3)):=ζ;have cD:KR w1.heap.size (w2.alloc (.cells #[] 3)) (some w2.heap.size):=fun c e=>by simp at e; subst e; simp; exact b4
     refine wpOp_step rfl (fun K' hK=>?_);go_simp;refine hK _ _ ?_;exact ⟨ag,am,ao,a2,(.slice (some ⟨w2.heap.size,0,none⟩) 0 0),aq,ar,av,aw,a4,az,ae,a5,aD,aM,aR,b3,aE,af,some w2.heap.size,o2,bl,_,rfl,hB.alloc b4 _,fun _=>C.UK b4,Φ b5,⟨cD,U.keep bX.size,Φ b5⟩,fun f3=>⟨(h3 f3).1,au.below (h3 f3).2.1 bX,fun c hc=>⟨fun e=>by have:=au.lt (h3 f3).2.1 c hc; simp at e; omega,((h3 f3).2.2 c hc).2⟩⟩,⟨e0,e1,e2,e5,e6,e7,e8,a6,a7,a8,a9,ac,ab⟩,fun _=>rfl,Φ y,Φ y⟩
    | 5,ho,hf,I=>
     obtain rfl:=Option.some.inj ho;refine wpOp_step rfl (fun K' hK=>?_);go_simp;refine hK _ _ ?_;exact ⟨ag,am,ao,a2,a3,(.pointer (some ⟨w.heap.size,1,none⟩)),ar,av,aw,a4,az,ae,a5,aD,aM,aR,b3,aE,af,o1,o2,bl,_,rfl,hB,hC,hR,⟨a1,U,a0⟩,h3,⟨e0,e1,e2,fun _=>rfl,e6,e7,e8,a6,a7,a8,a9,ac,ab⟩,fun _=>rfl,Φ y,Φ y⟩
    | 6,ho,hf,I=>
     obtain rfl:=Option.some.inj ho;simp [Region.binds] at I;have f5:=I;have g5:=e5 f5;subst g5;have hc:w2.cell? ⟨w.heap.size,1,none⟩=some (.slice (some ⟨b,o,none⟩) J.length pr):=(hB.cell (p:=⟨w.heap.size,1,none⟩) (by simp; omega)).trans (ai bk);refine wpOp_step rfl (fun K' hK=>?_);go_simp;refine hK _ _ ?_;exact ⟨ag,am,ao,a2,a3,_,(.slice (some ⟨b,o,none⟩) J.length pr),av,aw,a4,az,ae,a5,aD,aM,aR,b3,aE,af,o1,o2,bl,_,rfl,hB,hC,hR,⟨a1,U,a0⟩,h3,⟨e0,e1,e2,e5,fun _=>rfl,e7,e8,a6,a7,a8,a9,ac,ab⟩,fun _=>rfl,Φ y,Φ y⟩
    | 7,ho,hf,I=>
     obtain rfl:=Option.some.inj ho;refine wpOp_step rfl (fun K' hK=>?_);go_simp;refine hK _ _ ?_;exact ⟨ag,am,ao,a2,a3,aq,ar,(.int .i64 k),aw,a4,az,ae,a5,aD,aM,aR,b3,aE,af,o1,o2,bl,_,rfl,hB,hC,hR,⟨a1,U,a0⟩,h3,⟨e0,e1,e2,e5,e6,fun _=>rfl,e8,a6,a7,a8,a9,ac,ab⟩,fun _=>rfl,Φ y,Φ y⟩
    | 8,ho,hf,I=>
     obtain rfl:=Option.some.inj ho;simp [Region.binds] at I;obtain ⟨f6,f7⟩:=I;have g6:=e6 f6;subst g6;have g7:=e7 f7;subst g7;refine wpOp_step rfl (fun K' hK=>?_);go_simp;refine hK _ _ ?_;exact ⟨ag,am,ao,a2,a3,aq,_,_,_,a4,az,ae,a5,aD,aM,aR,b3,aE,af,o1,o2,bl,_,rfl,hB,hC,hR,⟨a1,U,a0⟩,h3,⟨e0,e1,e2,e5,e6,e7,fun _=>rfl,a6,a7,a8,a9,ac,ab⟩,fun _=>rfl,Φ y,Φ y⟩
    | 9,ho,hf,I=>
     obtain rfl:=Option.some.inj ho;simp [Region.binds] at I;obtain ⟨f4,f8,f3⟩:=I;have g8:=e8 f8;subst g8
     have b5:f 17=false:=by
      cases hc:f 17 with
      | false=>rfl
      | true=>exact absurd (a0 hc).2.1 (by simp [hf])
     have C:=hC b5;rw [hf,f4] at C;have hE:=C.e_ rfl rfl;refine wpOp_step rfl (fun K' hK=>?_);refine iJ rfl (.tmp 22) (.tmp 26) 49 rfl w1.heap.size 3 i0 (.int .i64 0) 1 8 Tryz.underlying49 bw cj ck cl rfl (by omega) a3 0 [] rfl hE.2.1 (some ⟨b,o,none⟩) k pr (jq (J.take k)) rfl (by rw [d9,Nat.mul_one]) (cK.out w2 ce) (bB _) (by unfold maxLen; omega) (by omega) b4 (fun A cap w3 aL hg b8=>hK _ _ ?_);rw [Nat.zero_add] at aL b8 ⊢;rw [List.nil_append] at aL;have bo:=hg.size;have c3:=iQ hB hE.2.1 ν b4 hg
     have c4:f 3=true→((∃ A cap,a2=.slice A (eG xs a).length cap)∧aC w3 [a2] (eG xs a) bl∧∀ c ∈ bl,(Value.slice A (k) cap).ownBlock ≠ some c∧o2 ≠ some c∧(c ∈ b0 ++ b2∨w1.heap.size≤c)):=fun f3=>⟨(h3 f3).1,au.keep (h3 f3).2.1 fun c hc=>hg.block c (au.lt (h3 f3).2.1 c hc) fun e=>((h3 f3).2.2 c hc).1 (hE.2.2 c e.symm),fun c hc=>⟨fun e=>by
      rcases b8 with bc | bc
      ·rw [bc] at e; exact ((h3 f3).2.2 c hc).1 (hE.2.2 c e)
      ·rw [bc] at e; have:=au.lt (h3 f3).2.1 c hc; simp at e; omega,((h3 f3).2.2 c hc).2⟩⟩
     have hN:ug w1.heap.size 3 k (jq (J.take k)) (.int .i64 n) (f 4) true (f 11) (f 12) a3 (.slice A k cap) ae a5 (Value.slice A k cap).ownBlock o2 w3:=by rw [f4]; exact C.fU b4 aL hg bo b8 (jJ aL)
     exact ⟨ag,am,ao,a2,a3,aq,ar,av,_,(.slice A k cap),az,ae,a5,aD,aM,aR,b3,aE,af,(Value.slice A k cap).ownBlock,o2,bl,_,rfl,c3,fun _=>hN,Φ b5,⟨jJ aL,U.keep bo,Φ b5⟩,c4,⟨e0,e1,e2,e5,e6,e7,e8,a6,a7,a8,a9,ac,ab⟩,fun _=>rfl,Φ y,Φ y⟩
    | 10,ho,hf,I=>
     obtain rfl:=Option.some.inj ho;refine wpOp_step rfl (fun K' hK=>?_);go_simp;refine hK _ _ ?_;exact ⟨ag,am,ao,a2,a3,aq,ar,av,aw,a4,(.int .i64 n),ae,a5,aD,aM,aR,b3,aE,af,o1,o2,bl,_,rfl,hB,hC,hR,⟨a1,U,a0⟩,h3,⟨e0,e1,e2,e5,e6,e7,e8,fun _=>rfl,a7,a8,a9,ac,ab⟩,fun _=>rfl,Φ y,Φ y⟩
    | 11,ho,hf,I=>
     obtain rfl:=Option.some.inj ho;simp [Region.binds] at I;have cv:=I;have dl:=a6 cv;subst dl
     have b5:f 17=false:=by
      cases hc:f 17 with
      | false=>rfl
      | true=>exact absurd (a0 hc).2.2.1 (by simp [hf])
     have C:=hC b5;rw [hf] at C;have bX:Below w2.heap.size w2 (w2.alloc (.cells #[.int .i64 n] 3)):=ζ;have cD:KR w1.heap.size (w2.alloc (.cells #[.int .i64 n] 3)) (some w2.heap.size):=fun c e=>by simp at e; subst e; simp; exact b4
     refine wpOp_step rfl (fun K' hK=>?_);go_simp;refine hK _ _ ?_;exact ⟨ag,am,ao,a2,a3,aq,ar,av,aw,a4,_,(.slice (some ⟨w2.heap.size,0,none⟩) 1 1),a5,aD,aM,aR,b3,aE,af,o1,some w2.heap.size,bl,_,rfl,hB.alloc b4 _,fun _=>C.stepS b4,Φ b5,⟨a1.keep bX.size,cD,Φ b5⟩,fun f3=>⟨(h3 f3).1,au.below (h3 f3).2.1 bX,fun c hc=>⟨((h3 f3).2.2 c hc).1,fun e=>by have:=au.lt (h3 f3).2.1 c hc; simp at e; omega,((h3 f3).2.2 c hc).2.2⟩⟩,⟨e0,e1,e2,e5,e6,e7,e8,a6,a7,a8,a9,ac,ab⟩,fun _=>rfl,Φ y,Φ y⟩
    | 12,ho,hf,I=>
     obtain rfl:=Option.some.inj ho;simp [Region.binds] at I;obtain ⟨f9,cd,_⟩:=I
     have b5:f 17=false:=by
      cases hc:f 17 with
      | false=>rfl
      | true=>exact absurd (a0 hc).2.2.2 (by simp [hf])
     have C:=hC b5;have ci:f 4=true:=C.hr f9;rw [hf,f9,cd,ci] at C;have hE:=C.r_ rfl rfl;obtain ⟨l,rfl,hl,_⟩:=C.s_ rfl rfl;refine wpOp_step rfl (fun K' hK=>?_);refine iJ rfl (.tmp 27) (.tmp 29) 49 rfl w1.heap.size 3 i0 (.int .i64 0) 1 8 Tryz.underlying49 bw cj ck cl rfl (by omega) a4 k (jq (J.take k)) rfl hE.2.1 (some ⟨l,0,none⟩) 1 1 [.int .i64 n] rfl rfl (aP hl) (fun u hu=>by rw [ώ.1 hu]; rfl) (by unfold maxLen; omega) (by omega) b4 (fun A cap w3 aL hg b8=>hK _ _ ?_);have bo:=hg.size;have c3:=iQ hB hE.2.1 ν b4 hg
     have c4:f 3=true→((∃ A cap,a2=.slice A (eG xs a).length cap)∧aC w3 [a2] (eG xs a) bl∧∀ c ∈ bl,(Value.slice A (k+1) cap).ownBlock ≠ some c∧o2 ≠ some c∧(c ∈ b0 ++ b2∨w1.heap.size≤c)):=fun f3=>⟨(h3 f3).1,au.keep (h3 f3).2.1 fun c hc=>hg.block c (au.lt (h3 f3).2.1 c hc) fun e=>((h3 f3).2.2 c hc).1 (hE.2.2 c e.symm),fun c hc=>⟨fun e=>by
      rcases b8 with bc | bc
      ·rw [bc] at e; exact ((h3 f3).2.2 c hc).1 (hE.2.2 c e)
      ·rw [bc] at e; have:=au.lt (h3 f3).2.1 c hc; simp at e; omega,((h3 f3).2.2 c hc).2⟩⟩
     have hN:ug w1.heap.size 3 k (jq (J.take k)) (.int .i64 n) (f 4) (f 9) (f 11) true a3 a4 (.slice (some ⟨l,0,none⟩) 1 1) (.slice A (k+1) cap) (Value.slice A (k+1) cap).ownBlock o2 w3:=by rw [ci,f9,cd]; exact C.UL b4 aL hg bo b8 (jJ aL)
     exact ⟨ag,am,ao,a2,a3,aq,ar,av,aw,a4,az,_,(.slice A (k+1) cap),aD,aM,aR,b3,aE,af,(Value.slice A (k+1) cap).ownBlock,o2,bl,_,rfl,c3,fun _=>hN,Φ b5,⟨jJ aL,U.keep bo,Φ b5⟩,c4,⟨e0,e1,e2,e5,e6,e7,e8,a6,a7,a8,a9,ac,ab⟩,fun _=>rfl,Φ y,Φ y⟩
    | 13,ho,hf,I=>
     obtain rfl:=Option.some.inj ho;refine wpOp_step rfl (fun K' hK=>?_);go_simp;refine hK _ _ ?_;exact ⟨ag,am,ao,a2,a3,aq,ar,av,aw,a4,az,ae,a5,(.pointer (some ⟨w.heap.size,1,none⟩)),aM,aR,b3,aE,af,o1,o2,bl,_,rfl,hB,hC,hR,⟨a1,U,a0⟩,h3,⟨e0,e1,e2,e5,e6,e7,e8,a6,fun _=>rfl,a8,a9,ac,ab⟩,fun _=>rfl,Φ y,Φ y⟩
    | 14,ho,hf,I=>
     obtain rfl:=Option.some.inj ho;simp [Region.binds] at I;have cw:=I;have dp:=a7 cw;subst dp;have hc:w2.cell? ⟨w.heap.size,1,none⟩=some (.slice (some ⟨b,o,none⟩) J.length pr):=(hB.cell (p:=⟨w.heap.size,1,none⟩) (by simp; omega)).trans (ai bk);refine wpOp_step rfl (fun K' hK=>?_);go_simp;refine hK _ _ ?_;exact ⟨ag,am,ao,a2,a3,aq,ar,av,aw,a4,az,ae,a5,_,(.slice (some ⟨b,o,none⟩) J.length pr),aR,b3,aE,af,o1,o2,bl,_,rfl,hB,hC,hR,⟨a1,U,a0⟩,h3,⟨e0,e1,e2,e5,e6,e7,e8,a6,a7,fun _=>rfl,a9,ac,ab⟩,fun _=>rfl,Φ y,Φ y⟩
    | 15,ho,hf,I=>
     obtain rfl:=Option.some.inj ho;refine wpOp_step rfl (fun K' hK=>?_);go_simp;refine hK _ _ ?_;exact ⟨ag,am,ao,a2,a3,aq,ar,av,aw,a4,az,ae,a5,aD,aM,(.int .i64 k),b3,aE,af,o1,o2,bl,_,rfl,hB,hC,hR,⟨a1,U,a0⟩,h3,⟨e0,e1,e2,e5,e6,e7,e8,a6,a7,a8,fun _=>rfl,ac,ab⟩,fun _=>rfl,Φ y,Φ y⟩
    | 16,ho,hf,I=>
     obtain rfl:=Option.some.inj ho;simp [Region.binds] at I;obtain ⟨cx,cz⟩:=I;have ds:=a8 cx;subst ds;have dt:=a9 cz;subst dt;by_cases hce:pr=k
     ·have du:(pr=k)=True:=eq_true hce
      rw [if_pos hce] at b6;refine wpOp_step rfl (fun K' hK=>?_);go_simp;refine hK _ _ ?_;subst hce;exact ⟨ag,am,ao,a2,a3,aq,ar,av,aw,a4,az,ae,a5,aD,_,_,_,aE,af,o1,o2,bl,_,rfl,hB,hC,hR,⟨a1,U,a0⟩,h3,⟨e0,e1,e2,e5,e6,e7,e8,a6,a7,a8,a9,fun _=>b6.symm,ab⟩,fun _=>rfl,Φ y,Φ y⟩
     ·have du:(pr=k)=False:=eq_false hce
      rw [if_neg hce] at b6;have dE:¬ (pr:Int)=(k:Int):=by omega
      refine wpOp_step rfl (fun K' hK=>?_);go_simp;refine hK _ _ ?_;exact ⟨ag,am,ao,a2,a3,aq,ar,av,aw,a4,az,ae,a5,aD,_,_,_,aE,af,o1,o2,bl,_,rfl,hB,hC,hR,⟨a1,U,a0⟩,h3,⟨e0,e1,e2,e5,e6,e7,e8,a6,a7,a8,a9,fun _=>b6.symm,ab⟩,fun _=>rfl,Φ y,Φ y⟩
    | 17,ho,hf,I=>
     obtain rfl:=Option.some.inj ho;simp [Region.binds] at I;obtain ⟨f12,cA,_⟩:=I;have dv:=ac cA;subst dv;have C:=hC hf;rw [f12] at C;have hE:=C.f_ rfl;have cE:=C.hf rfl;have dx:=C.hr cE.1;obtain ⟨Ay,cy,dy,dz⟩:=cU;refine wpOp_step rfl (fun K' hK=>?_);refine iJ rfl (.tmp 30) (.tmp 34) 49 rfl w1.heap.size 3 i0 (.int .i64 0) 1 8 Tryz.underlying49 bw cj ck cl rfl (by omega) a5 (k+1) (jq (J.take k) ++ [.int .i64 n]) rfl hE.2.1 Ay (J.length - k) cy (jq (J.drop k)) dy (by rw [bA,Nat.mul_one]) (dz w2 ce) (bB _) (by have:=bj.out; unfold maxLen; omega) (by have:=bj.out; omega) b4 (fun A cap w3 aL hg b8=>hK _ _ ?_);have bo:=hg.size;have c3:=iQ hB hE.2.1 ν b4 hg
     have c4:f 3=true→((∃ A cap,a2=.slice A (eG xs a).length cap)∧aC w3 [a2] (eG xs a) bl∧∀ c ∈ bl,(Value.slice A (k+1+(J.length - k)) cap).ownBlock ≠ some c∧o2 ≠ some c∧(c ∈ b0 ++ b2∨w1.heap.size≤c)):=fun f3=>⟨(h3 f3).1,au.keep (h3 f3).2.1 fun c hc=>hg.block c (au.lt (h3 f3).2.1 c hc) fun e=>((h3 f3).2.2 c hc).1 (hE.2.2 c e.symm),fun c hc=>⟨fun e=>by
      rcases b8 with bc | bc
      ·rw [bc] at e; exact ((h3 f3).2.2 c hc).1 (hE.2.2 c e)
      ·rw [bc] at e; have:=au.lt (h3 f3).2.1 c hc; simp at e; omega,((h3 f3).2.2 c hc).2⟩⟩
     exact ⟨ag,am,ao,a2,a3,aq,ar,av,aw,a4,az,ae,a5,aD,aM,aR,_,(.slice A (k+1+(J.length - k)) cap),af,(Value.slice A (k+1+(J.length - k)) cap).ownBlock,o2,bl,_,rfl,c3,fun h=>(by cases h),fun _=>by rw [bA]; exact ⟨⟨_,_,rfl⟩,aL,fun b hb=>hb⟩,⟨jJ aL,U.keep bo,fun _=>⟨dx,cE.1,cE.2,f12⟩⟩,c4,⟨e0,e1,e2,e5,e6,e7,e8,a6,a7,a8,a9,ac,fun h=>absurd ((ab h).2.2.symm.trans hf) (by decide)⟩,fun _=>rfl,Φ y,Φ y⟩
    | 18,ho,hf,I=>
     obtain rfl:=Option.some.inj ho;simp [Region.binds] at I;obtain ⟨f3,bu⟩:=I;obtain ⟨⟨A3,q3,rfl⟩,_⟩:=h3 f3;obtain ⟨⟨A4,q4,b7⟩,_⟩:=hR bu;rw [bA] at b7;subst b7;refine wpOp_step rfl (fun K' hK=>?_);go_simp;refine hK _ _ ?_;exact ⟨ag,am,ao,_,a3,aq,ar,av,aw,a4,az,ae,a5,aD,aM,aR,b3,_,_,o1,o2,bl,_,rfl,hB,hC,hR,⟨a1,U,a0⟩,h3,⟨e0,e1,e2,e5,e6,e7,e8,a6,a7,a8,a9,ac,fun _=>⟨rfl,f3,bu⟩⟩,fun _=>rfl,Φ y,Φ y⟩
    | q+19,ho,hf,I=>
     rw [Array.getElem?_eq_none (by simp; omega)] at ho;cases ho
theorem sU (rs:List Ru) (v:Value) (bs:List Nat) (w:World) (h:dW w [v] rs bs) (y:oC w):
  Calls Tryz.prog 68 #[v] w fun e w'=>e=.returned (.bool (decide (eU rs=0)))∧Below w.heap.size w w':=by
 have c1:=FP rs v bs w h y;have I:(eU rs:Int)≤5:=by have:=LM rs; omega
 clear h y;generalize eU rs=c at *;by_cases h0:c=0
 ·subst h0
  go_enter Tryz.func68,Tryz.ntmps68
  go_wp2_with fail
  refine c1.mono ?_;rintro e J ⟨rfl,hb⟩;go_wp2;go_ret;exact ⟨rfl,hb⟩
 ·have h1:¬ (c:Int)=0:=by omega
  have U:Hid (decide (c=0)=false):=η (decide_eq_false h0);clear h0
  go_enter Tryz.func68,Tryz.ntmps68
  go_wp2_with fail
  refine c1.mono ?_;rintro e J ⟨rfl,hb⟩;go_wp2;go_ret;exact ⟨aH (by rw [U.out]; exact beq_eq_false_iff_ne.2 h1),hb⟩
end Go.Proofs.YtkjinanbccloeaaGreatDoor
