/- Of the proof of FnExactDelta: StoP, OfP, BothP, HRule, VarsI, WdI. -/
import Derived.Test.YtiidmgchadagbaaGreatDoorM18
import Derived.Test.YtiidmgchadagbaaGreatDoorM23
import Derived.Test.YtiidmgchadagbaaGreatDoorM19
set_option linter.unusedVariables false
set_option maxHeartbeats 4000000
set_option maxRecDepth 100000
namespace Go.Proofs.YtiidmgchadagbaaGreatDoor
open Go.RowKit D
def D.eu (a:A):ByteArray:=⟨(xg a).toArray⟩
theorem D.y8 {a b:A} (ha:aZ a=true) (hb:aZ b=true) (h:eu a=eu b):a=b:=by
 have e:xg a=xg b:=by have:=congrArg (fun x=>x.data.toList) h; simpa [eu] using this
 have h1:=EX ha;rw [e,EX hb] at h1;exact (Prod.mk.inj h1).1.symm
theorem D.ru {a:A} (ha:aZ a=true):(eu a).size≤maxLen:=by
 have:=EW ha;have e:(eu a).size=(xg a).length:=List.size_toArray;unfold maxLen; omega
theorem D.Dk:∀ (ts:List T),(∀ t ∈ ts,t.name.size≤8)→iT ts≤8 * ts.length
 | [],_=>by simp [iT]
 | t :: ts,h=>by
  have h1:=h t (List.mem_cons_self ..);have h2:=Dk ts fun u hu=>h u (List.mem_cons_of_mem _ hu)
  unfold iT at *;simp only [List.map_cons,List.sum_cons,List.length_cons];omega
theorem D.G7 {a:A} (h:aZ a=true):jm a≤100:=by
 unfold aZ at h;simp only [Bool.and_eq_true,decide_eq_true_eq,List.all_eq_true] at h;have h1:=Jv h.1.1;have hz:a.name.data.toList.length=a.name.size:=Array.length_toList
 have h2:=Dk a.args fun t ht=>by
  have:=(uN (h.2 t ht)).2.2;have hz:t.name.data.toList.length=t.name.size:=Array.length_toList;omega
 unfold jm;omega
def D.keysOf (a:A):List WK:=⟨a.name,a.args.length,-1,⟨#[]⟩⟩ :: a.args.mapIdx fun i t=>⟨a.name,a.args.length,i,t.name⟩
theorem D.Qj {a:A} {i:Nat} (h:i < a.args.length):(⟨a.name,a.args.length,i,a.args[i].name⟩:WK) ∈ keysOf a:=by
 refine List.mem_cons_of_mem _ (List.mem_mapIdx.2 ⟨i,h,rfl⟩)
def D.idxs (fs:List A) (k:WK):List Nat:=(List.range fs.length).filter fun i=>match fs[i]? with | some a=>decide (k ∈ keysOf a) | none=>false
theorem D.Dl {fs:List A} {k:WK} {i:Nat}:i ∈ idxs fs k ↔ ∃ h:i < fs.length,k ∈ keysOf fs[i]:=by
 unfold idxs;rw [List.mem_filter,List.mem_range];constructor
 ·rintro ⟨h,h2⟩
  rw [List.getElem?_eq_getElem h] at h2;exact ⟨h,by simpa using h2⟩
 ·rintro ⟨h,h2⟩
  exact ⟨h,by rw [List.getElem?_eq_getElem h]; simpa using h2⟩
theorem D.Qk (fs:List A) (a:A) (k:WK):idxs (fs ++ [a]) k=idxs fs k ++ (if k ∈ keysOf a then [fs.length] else []):=by
 unfold idxs;rw [List.length_append,List.length_singleton,List.range_succ,List.filter_append]
 congr 1
 ·refine List.filter_congr fun i hi=>?_
  rw [List.getElem?_append_left (List.mem_range.1 hi)]
 ·by_cases h:k ∈ keysOf a <;> simp [h]
theorem D.ng (fs:List A) (k:WK):(idxs fs k).length≤fs.length:=by
 unfold idxs;refine Nat.le_trans (List.length_filter_le _ _) ?_;simp
structure D.kE (sb:Nat) (fs:List A) (rn:List Nat) (bs:List Nat) (w:World):Prop where
 ex:∃ Af cf Ar cr mu mp bf br Lu Lp,w.heap[sb]? = some (.cells #[.slice Af fs.length cf,.slice Ar rn.length cr,.map (some mu),.map (some mp)] 87 (0,0))∧
  aI w [.slice Af fs.length cf] fs bf∧jD w [.slice Ar rn.length cr] rn br∧nK GI mu Lu w∧nK isStr mp Lp w∧
  (∀ k,(∃ v b,(EO k,v) ∈ Lu∧jD w [v] (idxs fs k) b∧∀ x ∈ b,x ∈ bs)∨((∀ p ∈ Lu,p.1 ≠ EO k)∧idxs fs k = []))∧
  (∀ s:ByteArray,(∃ i:Nat,((.string s:Value),(.int .i64 i:Value)) ∈ Lp) ↔ s ∈ fs.map eu)∧(∀ p ∈ Lp,∃ i:Nat,p.2=.int .i64 i)∧
  mu ∈ bs∧mp ∈ bs∧(∀ b ∈ bf,b ∈ bs)∧∀ b ∈ br,b ∈ bs
 own:sb ∈ bs
 lt:∀ b ∈ bs,b < w.heap.size
theorem D.kE.keep {sb:Nat} {fs:List A} {rn:List Nat} {bs:List Nat} {w w':World} (h:kE sb fs rn bs w) (hk:∀ b ∈ bs,w'.heap[b]? = w.heap[b]?) (hs:w.heap.size≤w'.heap.size):kE sb fs rn bs w':=by
 obtain ⟨⟨Af,cf,Ar,cr,mu,mp,bf,br,Lu,Lp,h1,h2,h3,h4,h5,h6,h7,h8,h9,h10,h11,h12⟩,ho,hl⟩:=h;refine ⟨⟨Af,cf,Ar,cr,mu,mp,bf,br,Lu,Lp,(hk _ ho).trans h1,ai.keep h2 fun b hb=>hk b (h11 b hb),dL.keep h3 fun b hb=>hk b (h12 b hb),h4.same (hk _ h9),h5.same (hk _ h10),fun k=>?_,h7,h8,h9,h10,h11,h12⟩,ho,fun b hb=>Nat.lt_of_lt_of_le (hl b hb) hs⟩
 rcases h6 k with ⟨v,b,g1,g2,g3⟩ | g
 ·exact .inl ⟨v,b,g1,dL.keep g2 fun x hx=>hk x (g3 x hx),g3⟩
 ·exact .inr g
theorem D.kE.below {sb:Nat} {fs:List A} {rn:List Nat} {bs:List Nat} {w w':World} (h:kE sb fs rn bs w) (hb:Below w.heap.size w w'):kE sb fs rn bs w':=h.keep (fun b hb'=>hb.block b (h.lt b hb')) hb.size
section
variable {P:Program} {ops:Array Oper} {rest:List Oper} {o:Oper} {a:Act} {Q:Exit→Act→World→Prop}
end
structure D.Ql (mu:Nat) (fs:List A) (bs:List Nat) (w:World):Prop where
 ex:∃ Lu,nK GI mu Lu w∧∀ k,(∃ v b,(EO k,v) ∈ Lu∧jD w [v] (idxs fs k) b∧∀ x ∈ b,x ∈ bs)∨((∀ p ∈ Lu,p.1 ≠ EO k)∧idxs fs k = [])
 own:mu ∈ bs
 lt:∀ b ∈ bs,b < w.heap.size
theorem D.Ql.below {mu:Nat} {fs:List A} {bs:List Nat} {w w':World} (h:Ql mu fs bs w) {B:Nat} (hb:Below B w w') (hB:∀ b ∈ bs,b < B):Ql mu fs bs w':=by
 obtain ⟨⟨Lu,h1,h2⟩,h3,h4⟩:=h;refine ⟨⟨Lu,h1.below hb (hB _ h3),fun k=>?_⟩,h3,fun b hb'=>Nat.lt_of_lt_of_le (h4 b hb') hb.size⟩
 rcases h2 k with ⟨v,b',g1,g2,g3⟩ | g
 ·exact .inl ⟨v,b',g1,dL.QY g2 hb fun x hx=>hB x (g3 x hx),g3⟩
 ·exact .inr g
theorem D.Ql.look {mu:Nat} {fs:List A} {bs:List Nat} {w:World} (h:Ql mu fs bs w) (k:WK):
  ∃ A9 c9 b,(Instr.lookup 84 (.map (some mu)) (.agg #[.string k.name,.int .i64 k.size,.int .i64 k.place,.string k.word]) false).run Tryz.prog w=.ok (.slice A9 (idxs fs k).length c9) w∧jD w [.slice A9 (idxs fs k).length c9] (idxs fs k) b∧∀ x ∈ b,x ∈ bs:=by
 obtain ⟨⟨Lu,h4,h6⟩,_,_⟩:=h;show ∃ A9 c9 b,(Instr.lookup 84 (.map (some mu)) (EO k) false).run Tryz.prog w=.ok (.slice A9 (idxs fs k).length c9) w∧_
 rcases h6 k with ⟨v,b,g1,g2,g3⟩ | ⟨g1,g2⟩
 ·obtain ⟨A9,c9,rfl,_⟩:=af g2
  exact ⟨A9,c9,b,qN xH trivial false Tryz.underlying84 h4 g1,g2,g3⟩
 ·refine ⟨none,0,[],?_,by rw [g2]; exact ⟨none,0,rfl,Nat.le_refl _,Nat.zero_le _,fun _=>rfl,fun h=>absurd rfl h⟩,fun x hx=>by simp at hx⟩
  obtain ⟨⟨es,ck,hb,rfl⟩,h2,h3⟩:=h4;have hSs:∀ e ∈ es.toList,GI e.key:=fun e he=>h2 (e.key,e.val) (List.mem_map.2 ⟨e,he,rfl⟩)
  rcases lW xH (w:=w) trivial (k:=EO k) ⟨k,rfl⟩ es.toList hSs with ⟨h5,h6⟩ | ⟨i,e1,h5,h6,h7⟩
  ·simp [g2,Instr.lookup,run_underlying Tryz.underlying84,MapKept.run_getObj_map hb,xH.check w _ ⟨k,rfl⟩,h5,Result.andThen]
  ·exact absurd h7 (g1 (e1.key,e1.val) (List.mem_map.2 ⟨e1,List.mem_of_getElem? h6,rfl⟩))
theorem D.JU {fs:List A} {mp:Nat} {Lp:List (Value × Value)} {w:World} (h5:nK isStr mp Lp w) (h7:∀ s:ByteArray,(∃ i:Nat,((.string s:Value),(.int .i64 i:Value)) ∈ Lp) ↔ s ∈ fs.map eu) (h8:∀ p ∈ Lp,∃ i:Nat,p.2=.int .i64 i)
  (s:ByteArray) (hs:s.size≤maxLen):∃ v,(Instr.lookup 85 (.map (some mp)) (.string s) true).run Tryz.prog w=.ok (.tuple #[v,.bool (decide (s ∈ fs.map eu))]) w:=by
 by_cases hm:s ∈ fs.map eu
 ·obtain ⟨i,hi⟩:=(h7 s).2 hm
  refine ⟨.int .i64 i,?_⟩;rw [decide_eq_true hm];exact qN mP trivial true Tryz.underlying85 h5 hi
 ·refine ⟨.int .i64 0,?_⟩
  rw [decide_eq_false hm]
  have hno:∀ p ∈ Lp,p.1 ≠ .string s:=fun p hp e=>by
   obtain ⟨i,hi⟩:=h8 p hp;exact hm ((h7 s).1 ⟨i,by rw [← e,← hi]; exact hp⟩)
  obtain ⟨⟨es,ck,hb,rfl⟩,h2,h3⟩:=h5;have hSs:∀ e ∈ es.toList,isStr e.key:=fun e he=>h2 (e.key,e.val) (List.mem_map.2 ⟨e,he,rfl⟩)
  rcases lW mP (w:=w) trivial (k:=.string s) ⟨s,rfl,hs⟩ es.toList hSs with ⟨h5,h6⟩ | ⟨i,e1,h5,h6,h7⟩
  ·simp [Instr.lookup,run_underlying Tryz.underlying85,MapKept.run_getObj_map hb,mP.check w _ ⟨s,rfl,hs⟩,h5,Result.andThen]
  ·exact absurd h7 (hno (e1.key,e1.val) (List.mem_map.2 ⟨e1,List.mem_of_getElem? h6,rfl⟩))
end Go.Proofs.YtiidmgchadagbaaGreatDoor
namespace Go.Proofs.YtiidmgchadagbaaGreatDoor
open Go.RowKit D
def D.Va (p:Ch × Bool) (B:Nat) (w:World) (e:Ending) (w':World):Prop:=Below B w w'∧∃ cs bs,e=.returned (.tuple #[.agg cs,.bool p.2])∧dU w' cs.toList p.1 bs
def D.Vb (p:Ch × Bool) (B:Nat) (w:World) (e:Ending) (w':World):Prop:=Below B w w'∧∃ cs bs,e=.returned (.tuple #[.agg cs,.bool p.2])∧dU w' cs.toList p.1 bs∧New B w' bs
theorem D.Td {w:World} {t:Nat} {ty:TypeId} {u1 u2:Value} (v1 v2:Value) (hT:w.heap[t]? = some (.cells #[u1,u2] ty (0,0))):
  ((w.setCell ⟨t,0,none⟩ v1).setCell ⟨t,1,none⟩ v2).heap[t]? = some (.cells #[v1,v2] ty (0,0)):=by
 have hl:t < w.heap.size:=lt_of_block hT;have hT':w.heap[t]=.cells #[u1,u2] ty (0,0):=by rw [Array.getElem?_eq_getElem hl] at hT; exact Option.some.inj hT
 simp [World.setCell,hl,Array.getElem_modify,hT']
theorem D.Fp {w w0 : World} {B t : Nat} {ty : TypeId} {v1 v2 : Value} {c : Ch} {b1 b2 : List Nat} (hT : w.heap[t]? = some (.cells #[.slice none 0 0, .slice none 0 0] ty (0, 0))) (hB : Below B w0 w) (ht : B ≤ t) (h1 : aI w [v1] c.comes b1) (h2 : aI w [v2] c.goes b2) :
    ((w.setCell ⟨t, 0, none⟩ v1).setCell ⟨t, 1, none⟩ v2).cell? ⟨t, 0, none⟩ = some v1 ∧ ((w.setCell ⟨t, 0, none⟩ v1).setCell ⟨t, 1, none⟩ v2).cell? ⟨t, 1, none⟩ = some v2 ∧ dU ((w.setCell ⟨t, 0, none⟩ v1).setCell ⟨t, 1, none⟩ v2) [v1, v2] c (b1 ++ b2) ∧
      Below B w0 ((w.setCell ⟨t, 0, none⟩ v1).setCell ⟨t, 1, none⟩ v2) ∧ t < ((w.setCell ⟨t, 0, none⟩ v1).setCell ⟨t, 1, none⟩ v2).heap.size ∧ ∀ B', New B' w (b1 ++ b2) → New B' ((w.setCell ⟨t, 0, none⟩ v1).setCell ⟨t, 1, none⟩ v2) (b1 ++ b2) := by
  have hP := Td v1 v2 hT;exact ⟨aP hP, aP hP, fF hT h1 h2, (hB.setCell (p := ⟨t, 0, none⟩) ht _).setCell (p := ⟨t, 1, none⟩) ht _, lt_of_block hP, fun B' h => (h.U3 _ _).U3 _ _⟩
theorem D.JV {w w0:World} {B:Nat} {ty:TypeId} {v1 v2:Value} {c:Ch} {b1 b2:List Nat} (hB:Below B w0 w) (hs:B≤w.heap.size) (h1:aI w [v1] c.comes b1) (h2:aI w [v2] c.goes b2):
  (w.alloc (.cells #[v1,v2] ty)).cell? ⟨w.heap.size,0,none⟩=some v1∧(w.alloc (.cells #[v1,v2] ty)).cell? ⟨w.heap.size,1,none⟩=some v2∧dU (w.alloc (.cells #[v1,v2] ty)) [v1,v2] c (b1 ++ b2)∧
   Below B w0 (w.alloc (.cells #[v1,v2] ty))∧w.heap.size < (w.alloc (.cells #[v1,v2] ty)).heap.size∧∀ B',New B' w (b1 ++ b2)→New B' (w.alloc (.cells #[v1,v2] ty)) (b1 ++ b2):=by
 have hA:Below w.heap.size w (w.alloc (.cells #[v1,v2] ty)):=(Below.refl _ _).alloc (Nat.le_refl _) _;have hP:=heap_alloc_new w (.cells #[v1,v2] ty);exact ⟨aP hP,aP hP,⟨v1,v2,b1,b2,rfl,rfl,ai.below h1 hA,ai.below h2 hA⟩,hB.alloc hs _,by simp,fun B' h=>h.below hA⟩
theorem NH (r:Ru) (c0 c1 c2:Value) (bs:List Nat) (left:Int) (w:World) (h:jK w [c0,c1,c2] r bs) (h0:0≤left) (h1:left≤1048576):
  Calls Tryz.prog 29 #[.agg #[c0,c1,c2],.int .i64 left] w (Left left (rP r) w.heap.size w):=by
 obtain ⟨b1,b2,rfl,hp,hq⟩:=gu h;obtain ⟨Ad,cap,Ae,cape,rfl,rfl,rfl⟩:=jo h;have q1:=fun w' (hb:Below w.heap.size w w')=>wz r.head _ _ b1 left w' (aj.below hp hb) h0 h1
 have q2:=fun l (g0:0≤l) (g1:l≤1048576) w' (hb:Below w.heap.size w w')=>JQ r.body _ b2 l w' (aY.below hq hb) g0 g1
 have hbk:rP r=jm r.head+oO r.body:=rfl;have HB:=η hbk;clear h hp hq hbk;have hA:=(Below.refl w.heap.size w).alloc (Nat.le_refl _) (.cells #[.string r.head.name,.slice Ad r.head.args.length cap,.slice Ae r.body.length cape] 59)
 go_enter Tryz.func29,Tryz.ntmps29
 go_wp2_with fail
 refine (q1 _ hA).mono ?_;rintro e w1 ⟨hb1,z,rfl,hr⟩;have B1:=hA.trans (hb1.mono hA.size);have x0:w1.cell? ⟨w.heap.size,0,none⟩=some (.string r.head.name):=cell_later hb1 (by go_simp);have x1:w1.cell? ⟨w.heap.size,1,none⟩=some (.slice Ad r.head.args.length cap):=cell_later hb1 (by go_simp);have x2:w1.cell? ⟨w.heap.size,2,none⟩=some (.slice Ae r.body.length cape):=cell_later hb1 (by go_simp);clear q1 hA
 rcases hr with rfl | ⟨hr0,hr1⟩
 ·go_wp2
  go_ret;exact ⟨B1,_,rfl,.inl rfl⟩
 ·go_wp2_with fail
  refine (q2 z hr0 (by omega) _ B1).mono ?_;rintro e w2 ⟨hb2,z2,rfl,hr2⟩;have B2:=B1.trans (hb2.mono B1.size)
  rcases hr2 with rfl | ⟨hr3,hr4⟩
  ·go_wp2
   go_ret;exact ⟨B2,_,rfl,.inl rfl⟩
  ·go_wp2
   go_ret;exact ⟨B2,_,rfl,.inr ⟨hr3,by rw [HB.out]; omega⟩⟩
theorem Tf (r : Ru) (c0 c1 c2 : Value) (bs : List Nat) (w : World) (h : jK w [c0, c1, c2] r bs) (hn : rP r ≤ 1048576) :
    Calls Tryz.prog 33 #[.agg #[c0, c1, c2]] w (vJ jK r w.heap.size w) := by
  obtain ⟨b1, b2, rfl, hp, hq⟩ := gu h;obtain ⟨Ad, cap, Ae, cape, rfl, rfl, rfl⟩ := jo h;have hbk : jm r.head + oO r.body ≤ 1048576 := hn;have q1 := fun w' (hb : Below w.heap.size w w') => Cb r.head _ _ b1 w' (aj.below hp hb) (by omega)
  have q2 := fun w' (hb : Below w.heap.size w w') => JR r.body _ b2 w' (aY.below hq hb) (by omega)
  clear h hp hq;have hA := (((Below.refl w.heap.size w).alloc (Nat.le_refl _) (.cells #[.string r.head.name, .slice Ad r.head.args.length cap, .slice Ae r.body.length cape] 59)).alloc (by simp) (.cells #[.string ⟨#[]⟩, .slice none 0 0, .slice none 0 0] 71)).alloc (by simp; omega) (.cells #[.string ⟨#[]⟩, .slice none 0 0, .slice none 0 0] 71)
  go_enter Tryz.func33, Tryz.ntmps33
  go_wp2_with fail
  refine (q1 _ hA).mono ?_;rintro e w1 ⟨hb1, cs1, bs1, rfl, hR1, hN1⟩;obtain ⟨Ad3, cap3, rfl⟩ := lQ hR1;have hnm : r.head.name.size ≤ maxLen := by obtain ⟨_, _, hn, _⟩ := hR1; exact hn
  have B1 := hA.trans (hb1.mono hA.size);have x0 : w1.cell? ⟨w.heap.size, 0, none⟩ = some (.string r.head.name) := cell_later hb1 (by go_simp);have x1 : w1.cell? ⟨w.heap.size, 1, none⟩ = some (.slice Ad r.head.args.length cap) := cell_later hb1 (by go_simp);have x2 : w1.cell? ⟨w.heap.size, 2, none⟩ = some (.slice Ae r.body.length cape) := cell_later hb1 (by go_simp);have k0 : w1.cell? ⟨w.heap.size + 1 + 1, 0, none⟩ = some (.string ⟨#[]⟩) := cell_later hb1 (by go_simp);have k1 : w1.cell? ⟨w.heap.size + 1 + 1, 1, none⟩ = some (.slice none 0 0) := cell_later hb1 (by go_simp);have k2 : w1.cell? ⟨w.heap.size + 1 + 1, 2, none⟩ = some (.slice none 0 0) := cell_later hb1 (by go_simp);have l0 : w1.cell? ⟨w.heap.size + 1, 0, none⟩ = some (.string ⟨#[]⟩) := cell_later hb1 (by go_simp);have l1 : w1.cell? ⟨w.heap.size + 1, 1, none⟩ = some (.slice none 0 0) := cell_later hb1 (by go_simp);have l2 : w1.cell? ⟨w.heap.size + 1, 2, none⟩ = some (.slice none 0 0) := cell_later hb1 (by go_simp)
  have f0 : w1.frozen? ⟨w.heap.size + 1 + 1, 0, none⟩ = false := (hb1.frozen (p := ⟨w.heap.size + 1 + 1, 0, none⟩) (by simp)).trans (by go_simp);have f1 : w1.frozen? ⟨w.heap.size + 1 + 1, 1, none⟩ = false := (hb1.frozen (p := ⟨w.heap.size + 1 + 1, 1, none⟩) (by simp)).trans (by go_simp);have f2 : w1.frozen? ⟨w.heap.size + 1 + 1, 2, none⟩ = false := (hb1.frozen (p := ⟨w.heap.size + 1 + 1, 2, none⟩) (by simp)).trans (by go_simp);have g0 : w1.frozen? ⟨w.heap.size + 1, 0, none⟩ = false := (hb1.frozen (p := ⟨w.heap.size + 1, 0, none⟩) (by simp)).trans (by go_simp);have g1 : w1.frozen? ⟨w.heap.size + 1, 1, none⟩ = false := (hb1.frozen (p := ⟨w.heap.size + 1, 1, none⟩) (by simp)).trans (by go_simp);have g2 : w1.frozen? ⟨w.heap.size + 1, 2, none⟩ = false := (hb1.frozen (p := ⟨w.heap.size + 1, 2, none⟩) (by simp)).trans (by go_simp);have hge1 : ∀ b ∈ bs1, w.heap.size + 1 + 1 < b := fun b hb => by have := (hN1.own b hb).1; simp at this; omega
  have hS1 : w.heap.size + 1 + 1 < w1.heap.size := lt_of_cell k0;have hB1 : Below w.heap.size w ((w1.setCell ⟨w.heap.size + 1 + 1, 0, none⟩ (.string r.head.name)).setCell ⟨w.heap.size + 1 + 1, 1, none⟩ (.slice Ad3 r.head.args.length cap3)) := (Below.setCell (Below.setCell B1 (by simp; omega) (.string r.head.name) (p := ⟨w.heap.size + 1 + 1, 0, none⟩)) (by simp; omega) (.slice Ad3 r.head.args.length cap3) (p := ⟨w.heap.size + 1 + 1, 1, none⟩));clear hA q1
  go_wp2_with fail
  refine (q2 _ hB1).mono ?_;rintro e w2 ⟨hb2, v2, bs2, rfl, hR2, hN2⟩;obtain ⟨Ae3, cape3, rfl, _, _⟩ := af hR2;have B2 := hB1.trans (hb2.mono hB1.size);have k0' : w2.cell? ⟨w.heap.size + 1 + 1, 0, none⟩ = some (.string r.head.name) := cell_later hb2 (by go_simp);have k1' : w2.cell? ⟨w.heap.size + 1 + 1, 1, none⟩ = some (.slice Ad3 r.head.args.length cap3) := cell_later hb2 (by go_simp);have k2' : w2.cell? ⟨w.heap.size + 1 + 1, 2, none⟩ = some (.slice none 0 0) := cell_later hb2 (by go_simp);have l0' : w2.cell? ⟨w.heap.size + 1, 0, none⟩ = some (.string ⟨#[]⟩) := cell_later hb2 (by go_simp);have l1' : w2.cell? ⟨w.heap.size + 1, 1, none⟩ = some (.slice none 0 0) := cell_later hb2 (by go_simp);have l2' : w2.cell? ⟨w.heap.size + 1, 2, none⟩ = some (.slice none 0 0) := cell_later hb2 (by go_simp);have f2' : w2.frozen? ⟨w.heap.size + 1 + 1, 2, none⟩ = false := (hb2.frozen (p := ⟨w.heap.size + 1 + 1, 2, none⟩) (by simp; omega)).trans (by go_simp)
  have g0' : w2.frozen? ⟨w.heap.size + 1, 0, none⟩ = false := (hb2.frozen (p := ⟨w.heap.size + 1, 0, none⟩) (by simp; omega)).trans (by go_simp);have g1' : w2.frozen? ⟨w.heap.size + 1, 1, none⟩ = false := (hb2.frozen (p := ⟨w.heap.size + 1, 1, none⟩) (by simp; omega)).trans (by go_simp);have g2' : w2.frozen? ⟨w.heap.size + 1, 2, none⟩ = false := (hb2.frozen (p := ⟨w.heap.size + 1, 2, none⟩) (by simp; omega)).trans (by go_simp);have hge2 : ∀ b ∈ bs2, w.heap.size + 1 + 1 < b := fun b hb => by have := (hN2.own b hb).1; simp at this; omega
  have hk1 : ∀ b ∈ bs1, ((w1.setCell ⟨w.heap.size + 1 + 1, 0, none⟩ (.string r.head.name)).setCell ⟨w.heap.size + 1 + 1, 1, none⟩ (.slice Ad3 r.head.args.length cap3)).heap[b]? = w1.heap[b]? := fun b hb => by
    have := hge1 b hb;rw [Below.heap_setCell _ _ _ _ (by simp; omega), Below.heap_setCell _ _ _ _ (by simp; omega)]
  have hR1' := aj.below (aj.keep hR1 hk1) hb2;have hN1' := (hN1.keep hk1).below hb2;have hlt1 : ∀ b ∈ bs1, b < w1.heap.size := fun b hb => hN1.lt hb
  clear x0 k0 l0 f0 g0 x1 k1 l1 f1 g1 x2 k2 l2 f2 g2 q2 hk1 hR1;go_wp2
  have hk : ∀ b, w.heap.size + 1 + 1 < b → ((((w2.setCell ⟨w.heap.size + 1 + 1, 2, none⟩ (.slice Ae3 r.body.length cape3)).setCell ⟨w.heap.size + 1, 0, none⟩ (.string r.head.name)).setCell ⟨w.heap.size + 1, 1, none⟩ (.slice Ad3 r.head.args.length cap3)).setCell ⟨w.heap.size + 1, 2, none⟩ (.slice Ae3 r.body.length cape3)).heap[b]? = w2.heap[b]? := fun b hb => by
    rw [Below.heap_setCell _ _ _ _ (by simp; omega), Below.heap_setCell _ _ _ _ (by simp; omega), Below.heap_setCell _ _ _ _ (by simp; omega), Below.heap_setCell _ _ _ _ (by simp; omega)]
  exact bodyPost_ret (v := .agg #[.string r.head.name, .slice Ad3 r.head.args.length cap3, .slice Ae3 r.body.length cape3]) (by simp [results, Tryz.results33, go_sem, l0', l1', l2']) rfl
    ⟨((((B2.setCell (by first | (simp; done) | (simp; omega)) _).setCell (by first | (simp; done) | (simp; omega)) _).setCell (by first | (simp; done) | (simp; omega)) _).setCell (by first | (simp; done) | (simp; omega)) _), _, bs1 ++ bs2, rfl, ⟨_, _, bs1, bs2, rfl, hnm, rfl, aH.keep (eH hR1') (fun b hb => hk b (hge1 b hb)), aY.keep hR2 (fun b hb => hk b (hge2 b hb))⟩,
      (New.append ((hN1'.keep (fun b hb => hk b (hge1 b hb))).mono (B' := w.heap.size) (by simp; omega)) ((hN2.keep (fun b hb => hk b (hge2 b hb))).mono (B' := w1.heap.size) (by simp)) (by have := B1.size; omega) hlt1)⟩
end Go.Proofs.YtiidmgchadagbaaGreatDoor
namespace Go.Proofs.YtiidmgchadagbaaGreatDoor
open Go.RowKit D
attribute [local go_sem ↓] Go.wp_at_zero Go.wp_at_succ
theorem Ti:(Tryz.prog.info? 9).map (fun i=>(i.zero,i.size,i.bytes))=some (some (.string ⟨#[]⟩),1,16):=by kernel_rfl
structure D.Tj (w:World) (v:Value) (L:List Value) (xs:List ByteArray) (wr:World):Prop where
 coll:cO 1 jk w.heap.size 9 wr v L xs []
 bel:Below w.heap.size w wr
theorem D.Tj.below {w wr w':World} {v:Value} {L:List Value} {xs:List ByteArray} (h:Tj w v L xs wr) (hb:Below wr.heap.size wr w'):Tj w v L xs w':=⟨h.coll.below ay hb,h.bel.trans (hb.mono h.bel.size)⟩
theorem G8 (ps:List Pt) (v:Value) (bs:List Nat) (w:World) (h:gm w [v] ps bs) (hs:bI (fun p=>p.atom.args.length) ps≤1000000):
  Calls Tryz.prog 173 #[v] w (Makes jL (aG ps) w.heap.size w):=by
 obtain ⟨Ad,cap,rfl,hl,hm⟩:=af h;have hlm:=au (Nat.le_trans hl hm);obtain ⟨i0,hi,hz0,hz1,hz2⟩:=info_parts Ti;have HNL:Hid (∀ k,(jw (ps.take k)).length≤bI (fun p=>p.atom.args.length) (ps.take k)):=η fun k=>sU _
 have HS:=η hs;have HV:=η (cO.nil (n:=1) (R:=jk) (base:=w.heap.size) (e:=9) w);clear hl hm hs
 go_enter Tryz.func173,Tryz.ntmps173
 go_wp2
 go_loopw [3,10] (fun v i wr=>∃ (k:Nat) (Av:Option Addr) (cp:Nat) (L:List Value) (xs:List ByteArray),k≤ps.length∧i=.int .i64 k∧v=.slice Av xs.length cp∧xs=jw (ps.take k)∧Tj w (.slice Av xs.length cp) L xs wr) (fun _ i _=>ps.length - (intOf i).toNat)
 case atStart=>exact ⟨0,none,0,[],[],Nat.zero_le _,rfl,rfl,rfl,HV.out,Below.refl _ _⟩
 case round=>
  obtain ⟨k,Av,cp,L,xs,hk,rfl,rfl,hxs,hV⟩:=hrel;clear HV;have HV:=η hV;have HX:=η hxs;clear hxs;obtain ⟨wo,rfl⟩:∃ wo:World,wo=wr:=⟨_,rfl⟩;by_cases hlt:k < ps.length
  ·obtain ⟨b,o,Ae,ce,bk,rfl,_,d0,d1,d2,hel,_⟩:=gJ h hlt
   replace d0:=cell_later hV.bel d0;replace d1:=cell_later hV.bel d1;replace d2:=cell_later hV.bel d2;have hk0:(0:Int)≤(k:Int):=by omega
   have hk1:(k:Int) < (ps.length:Int):=by omega
   have HLT:=η hlt;have HN:=η (Gy ps k hlt)
   have HB1:Hid ((jw (ps.take k)).length+ps[k].atom.args.length≤1000000):=η (by
    have h1:=HNL.out k;have h2:=jG (fun p:Pt=>p.atom.args.length) ps k hlt;have h3:=pY (fun p:Pt=>p.atom.args.length) ps (k+1);have:=HS.out
    omega)
   have hA:Below wo.heap.size wo (wo.alloc (.cells #[.bool ps[k].no,.string ps[k].atom.name,.slice Ae ps[k].atom.args.length ce] 111)):=(Below.refl _ _).alloc (Nat.le_refl _) _;have ht:=eH (gK hel);obtain ⟨_,_,e0',hl2,hm2⟩:=af ht;have hla:=au (Nat.le_trans hl2 hm2);have HV1:=η (hV.below hA);have HT:=η ht;clear h hV hel hA ht hl2 hm2 e0' HV;generalize ps[k]=p at *;clear hlt;obtain ⟨no,nm,args⟩:=p;dsimp only at *;go_wp2;generalize wo.alloc (.cells #[.bool no,.string nm,.slice Ae args.length ce] 111)=w1 at *
   go_loopw [3,18] (fun v i wr=>∃ (j:Nat) (Av:Option Addr) (cp:Nat) (L:List Value) (ys:List ByteArray),j≤args.length∧i=.int .i64 j∧v=.slice Av ys.length cp∧ys=jw (ps.take k) ++ jv (args.take j)∧Tj w (.slice Av ys.length cp) L ys wr) (fun _ i _=>args.length - (intOf i).toNat)
   case atStart=>exact ⟨0,Av,cp,L,xs,Nat.zero_le _,rfl,rfl,by rw [← HX.out]; simp [jv],HV1.out⟩
   case round=>
    clear HV1 HX;obtain ⟨j,Aw,cq,M,ys,hj,rfl,rfl,hys,hV⟩:=hrel;have HV:=η hV;have HY:=η hys;clear hys;by_cases hlt:j < args.length
    ·obtain ⟨b2,o2,rfl,_,f0,f1,hsz⟩:=dV (aH.below HT.out hV.bel) hlt
     have hj0:(0:Int)≤(j:Int):=by omega
     have hj1:(j:Int) < (args.length:Int):=by omega
     have HLJ:=η hlt;have HNJ:=η (Gx args j hlt);have hA2:Below wr.heap.size wr (wr.alloc (.cells #[.bool args[j].var,.string args[j].name] 109)):=(Below.refl _ _).alloc (Nat.le_refl _) _;have hA3:Below wr.heap.size wr ((wr.alloc (.cells #[.bool args[j].var,.string args[j].name] 109)).alloc (.cells #[.string args[j].name] 9)):=hA2.alloc (by simp) _;have HV2:=η (hV.below hA2);have HV3:=η (hV.below hA3)
     have HK:Hid (ys.length+1≤maxLen∧(ys.length+1) * 16≤140737488355328):=η (by
      have h1:=zG (args.take j);rw [List.length_take] at h1;have h2:=HB1.out;rw [HY.out,List.length_append]
      unfold maxLen; omega)
     have HSZ:=η hsz;clear hV hA2 hA3 hsz HV;generalize args[j]=t at *;clear hlt;obtain ⟨tv,tn⟩:=t;dsimp only at *;cases tv
     ·have HNJ2:Hid (jv (args.take (j+1))=jv (args.take j)):=η (by rw [HNJ.out]; simp)
      clear HNJ HV3;go_wp2;go_roundw
      case rel=>exact ⟨j+1,Aw,cq,M,ys,HLJ.out,by go_num,rfl,by rw [HNJ2.out]; exact HY.out,HV2.out⟩
      case measure=>have:=HLJ.out; simp [intOf]; omega
     ·have HNJ2:Hid (jv (args.take (j+1))=jv (args.take j) ++ [tn]):=η (by rw [HNJ.out]; simp)
      have HR2:Hid (aV 1 jk ((wr.alloc (.cells #[.bool true,.string tn] 109)).alloc (.cells #[.string tn] 9)) [.string tn] [tn] []):=η (aV.dB fU ⟨rfl,HSZ.out,rfl⟩);have HL2:Hid (Lies ((wr.alloc (.cells #[.bool true,.string tn] 109)).alloc (.cells #[.string tn] 9)) (some ⟨wr.heap.size+1,0,none⟩) [.string tn]):=η (by have:=aS (heap_alloc_new (wr.alloc (.cells #[.bool true,.string tn] 109)) (.cells #[.string tn] 9)); simpa using this);clear HNJ HV2
      go_wp2_with (at_builtin; refine iH rfl _ _ _ rfl w.heap.size 9 i0 (.string ⟨#[]⟩) 1 16 Tryz.underlying139 hi hz0 hz1 hz2 rfl (by omega) ay (.slice Aw ys.length cq) ys.length _ _ _ rfl HV3.out.coll rfl (some ⟨wr.heap.size+1,0,none⟩) 1 1 _ [tn] _ rfl HR2.out rfl HL2.out (fun b hb=>by simp at hb) HK.out.1 HK.out.2 w w.heap.size HV3.out.bel (Nat.le_refl _) HV3.out.bel.size ?_; intro A2 cp2 w2 hC3 hB3 hS3 _)
      have HC3:=η hC3;have HB3:=η hB3;clear hC3 hB3 hS3;go_wp2;go_roundw
      case rel=>exact ⟨j+1,A2,cp2,_,ys ++ [tn],HLJ.out,by go_num,by simp,by rw [HNJ2.out,HY.out,List.append_assoc],by rw [List.length_append]; exact HC3.out,HB3.out⟩
      case measure=>have:=HLJ.out; simp [intOf]; omega
    ·have he:j=args.length:=by omega
     have hj1:¬ (j:Int) < (args.length:Int):=by omega
     have HE:Hid (ys=jw (ps.take (k+1))):=η (by rw [HN.out,HY.out,he,List.take_of_length_le (Nat.le_refl _)]);clear hV he;go_wp2;go_roundw
     case rel=>exact ⟨k+1,Aw,cq,M,ys,HLT.out,by go_num,rfl,HE.out,HV.out⟩
     case measure=>have:=HLT.out; simp [intOf]; omega
  ·have he:k=ps.length:=by omega
   have hk1:¬ (k:Int) < (ps.length:Int):=by omega
   have hxe:xs=jw ps:=by rw [HX.out,he,List.take_of_length_le (Nat.le_refl _)]
   have hxl:xs.length≤16777216:=by rw [hxe]; have:=sU ps; have:=HS.out; omega
   have HXE:=η hxe;have HXL:=η hxl;have c1:=PK xs _ L w.heap.size wo hV.coll hxl;have HSH:=η (jW hV.coll.own);clear h hV he hxe hxl HX hk
   go_wp2_with fail
   refine c1.mono ?_;rintro e w2 ⟨rfl,ys,hys,hyl,hC2,hg2⟩;have B2:Below w.heap.size w w2:=iV HV.out.bel HV.out.coll.own (Nat.le_refl _) HV.out.bel.size hg2;have c2:=GX ys _ _ w.heap.size w2 hC2 (by rw [hyl]; exact HXL.out);have HY:=η (And.intro hys (And.intro hC2 B2));clear c1 hys hyl hC2 hg2 B2
   go_wp2_with fail
   refine c2.mono ?_;rintro e w3 ⟨v3,zs,rfl,hzs,hC3,hg3⟩
   have hz:zs=aG ps:=by
    have h1:=Gz ps;rw [HY.out.1,HXE.out] at hzs;rw [h1] at hzs
    have inj:∀ (a b:List ByteArray),a.map (·.data.toList)=b.map (·.data.toList)→a=b:=by
     intro a
     induction a with
     | nil=>intro b h; cases b; rfl; simp at h
     | cons x a ih=>intro b h; cases b with
      | nil=>simp at h
      | cons y b=>simp only [List.map_cons,List.cons.injEq] at h; rw [bytes_inj h.1,ih b h.2]
    exact inj _ _ hzs
   subst hz;obtain ⟨b9,hs9,hn9⟩:=hC3.new (New.nil _ _);have B3:=iV HY.out.2.2 HY.out.2.1.own (Nat.le_refl _) HY.out.2.2.size hg3;have HZ:Hid (Makes jL (aG ps) w.heap.size w (.returned v3) w3):=η ⟨B3,_,_,rfl,hs9,hn9⟩;clear c2 hzs hC3 hg3 hs9 hn9 B3;go_wp2;go_ret;exact HZ.out
theorem D.Fv {B:Nat} {a w:World} (h:Below B a w) (n:Nat):Below B a (w.drewN n):=⟨h.os,h.tape,h.output,h.size,h.block⟩
theorem wI (vars:List ByteArray) (hv:jT vars) (b:Bd) (t:T) (ht:t.var=true→t.name ∈ vars) (blk o:Nat) (w:World) (h:iJ vars b blk o w):
  Calls Tryz.prog 178 #[.pointer (some ⟨blk,o,none⟩),.agg #[.int .i64 (jR vars t),.string (jS t)]] w fun e w'=>e=.returned (.string (dH b t).name)∧Below w.heap.size w w':=by
 obtain ⟨tv,tn⟩:=t;have hA:Below w.heap.size w (w.alloc (.cells #[.int .i64 (jR vars ⟨tv,tn⟩),.string (jS ⟨tv,tn⟩)] 246)):=(Below.refl _ _).alloc (Nat.le_refl _) _;have HB:=η hA;cases tv
 ·have e1:jR vars ⟨false,tn⟩ = -1:=rfl
  have e2:jS ⟨false,tn⟩=tn:=rfl;have e3:(dH b ⟨false,tn⟩).name=tn:=rfl;rw [e1,e2] at HB ⊢;rw [e3];clear h hA ht e1 e2 e3
  go_enter Tryz.func178,Tryz.ntmps178
  go_wp2;go_ret;exact ⟨rfl,HB.out⟩
 ·have hn:=ht rfl
  have hi:vars.idxOf tn < vars.length:=List.idxOf_lt_length_of_mem hn;have hf:=hv.few;have e1:jR vars ⟨true,tn⟩=((vars.idxOf tn:Nat):Int):=rfl
  have e3:(dH b ⟨true,tn⟩).name=Hz vars b (vars.idxOf tn):=by
   unfold Hz;rw [dif_pos hi];have:vars[vars.idxOf tn]=tn:=List.getElem_idxOf hi;rw [this]; rfl
  have e2:jS ⟨true,tn⟩=⟨#[]⟩:=rfl;rw [e1,e2] at HB hA ⊢;rw [e3];have hB:=(h.keep (hA.block _ h.lt));have y0:=hB.wd (vars.idxOf tn) (by omega);have k0:¬ ((vars.idxOf tn:Nat):Int) < 0:=by omega
  have k1:((vars.idxOf tn:Nat):Int) < 12:=by omega
  have k2:(0:Int)≤((vars.idxOf tn:Nat):Int):=by omega
  generalize vars.idxOf tn=j at *;clear h hA ht hB e1 e3 e2 hi hn
  go_enter Tryz.func178,Tryz.ntmps178
  go_wp2
  go_quiet (fail)
  go_wp2;go_ret;exact ⟨rfl,Fv HB.out _⟩
end Go.Proofs.YtiidmgchadagbaaGreatDoor
