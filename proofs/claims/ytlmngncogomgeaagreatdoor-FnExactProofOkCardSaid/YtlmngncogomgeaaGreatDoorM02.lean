/- Of the proof of FnExactProofOk: Kind. -/
import Derived.Deep.AppendLies
import Derived.Lib.IndexBytes
import Derived.Deep.Fields
import Derived.Lib.Hide
import Derived.Laws.EntriesVeiled
import Derived.Deep.RegionHeld3
import Derived.BigQuiet
import Derived.Deep.DrawnRows
import Derived.WalkSpells
import Derived.WalkLawsBesides
import Derived.Laws.CopyOwn
import Derived.OwnWalkIn
import Derived.Test.YtlmngncogomgeaaGreatDoorM00
set_option linter.unusedVariables false
namespace Go.Proofs.YtlmngncogomgeaaGreatDoor
namespace D
open Go.RowKit
def low (c:UInt8):Bool:=(97≤c && c≤122) || (48≤c && c≤57)
def ni (l:List UInt8):Bool:=l.all low
def iD (s:ByteArray):Bool:=decide (1≤s.size) && decide (s.size≤8) && ni s.data.toList && !(s.toList == [110,111,116])
theorem vV (c:UInt8):low c=false ↔ ((c.toNat:Int) < 97∨122 < (c.toNat:Int))∧((c.toNat:Int) < 48∨57 < (c.toNat:Int)):=by
 unfold low;simp only [Bool.or_eq_false_iff,Bool.and_eq_false_iff,decide_eq_false_iff_not,UInt8.le_iff_toNat_le,Nat.not_le];have I:(97:UInt8).toNat=97:=rfl;have y:(122:UInt8).toNat=122:=rfl;have J:(48:UInt8).toNat=48:=rfl;have U:(57:UInt8).toNat=57:=rfl;rw [I,y,J,U];omega
theorem take_snoc (s:ByteArray) (k:Nat) (h:k < s.size):s.data.toList.take (k+1)=s.data.toList.take k ++ [s[k]]:=by
 rw [ρ (by simpa using h)]; rfl
theorem DW (s:ByteArray) (k:Nat) (h:k < s.size) (h0:ni (s.data.toList.take k)=true):ni (s.data.toList.take (k+1))=low s[k]:=by
 rw [take_snoc s k h]; unfold ni at *; simp [List.all_append,h0]
theorem GZ (s:ByteArray) (k:Nat) (h:k < s.size) (h0:low s[k]=false):ni s.data.toList=false:=by
 unfold ni;rw [List.all_eq_false];exact ⟨s[k],by rw [show s[k]=s.data.toList[k]'(by simpa using h) from rfl]; exact δ _,by simp [h0]⟩
theorem G5 (s:ByteArray):ni (s.data.toList.take s.size)=ni s.data.toList:=by
 rw [ϕ (by simp)]
def big (c:UInt8):Bool:=65≤c && c≤90
def qI (s:ByteArray):Bool:=decide (0 < s.size) && big (s.data.toList.headD 0)
def vW (s:ByteArray):Bool:=decide (s.size≤8) && qI s && ni s.data.toList.tail
theorem zZ (c:UInt8):big c=true ↔ 65≤(c.toNat:Int)∧(c.toNat:Int)≤90:=by
 unfold big;simp only [ο,decide_eq_true_eq,UInt8.le_iff_toNat_le];have y:(65:UInt8).toNat=65:=rfl;have I:(90:UInt8).toNat=90:=rfl;rw [y,I];omega
theorem G6 (s:ByteArray) (h:0 < s.size):s.data.toList.headD 0=s[0]:=by
 have y:0 < s.data.toList.length:=by simpa using h
 rw [show s[0]=s.data.toList[0]'y from rfl];rw [List.headD_eq_head?_getD,List.head?_eq_getElem?,Ψ y];rfl
theorem G7 (s:ByteArray) (h:0 < s.size):s.toList.isEmpty=false:=by
 rw [ByteArray.toList_eq,List.isEmpty_eq_false_iff];intro e;have:s.data.toList.length=0:=by rw [e]; rfl
 simp at this;have y:s.data.size=0:=by simp [this]
 have:s.size=s.data.size:=rfl;omega
theorem Qb (s:ByteArray) (h:¬ 0 < s.size):s.toList.isEmpty=true:=by
 rw [ByteArray.toList_eq,List.isEmpty_iff,← List.length_eq_zero_iff];have:s.size=s.data.size:=rfl;simp;have:s.data.size=0:=by omega
 simpa using this
theorem Qc {s:ByteArray} (h:qI s=true):(1:Int)≤(s.size:Int):=by
 unfold qI at h; simp at h; omega
theorem tail_at (s:ByteArray):(s.extract 1 s.size).data.toList=s.data.toList.tail:=by
 rw [Lib.extract_to_end,List.drop_one]
theorem aA {a b:Bool} (h:a=b):Ending.returned (.bool a)=.returned (.bool b):=by rw [h]
theorem dO {k:IntKind} {a b:Int} (h:a=b):Ending.returned (.int k a)=.returned (.int k b):=by rw [h]
theorem TR {a b:ByteArray} (h:a=b):Ending.returned (.string a)=.returned (.string b):=by rw [h]
structure T where
 var:Bool
 name:ByteArray
structure A where
 name:ByteArray
 args:List T
structure Pt where
 no:Bool
 atom:A
structure Ru where
 head:A
 body:List Pt
structure Ch where
 comes:List A
 goes:List A
def iP (t:T):Bool:=if t.var then vW t.name else iD t.name
def aZ (a:A):Bool:=iD a.name && decide (a.args.length≤3) && a.args.all iP
abbrev Rel (α:Type):=World→List Value→α→List Nat→Prop
structure Good {α:Type} (R:Rel α):Prop where
 keep:∀ {w w':World} {cs:List Value} {x:α} {bs:List Nat},R w cs x bs→(∀ b ∈ bs,w'.heap[b]? = w.heap[b]?)→R w' cs x bs
 lt:∀ {w:World} {cs:List Value} {x:α} {bs:List Nat},R w cs x bs→∀ b ∈ bs,b < w.heap.size
theorem Good.below {α:Type} {R:Rel α} (g:Good R) {w w':World} {cs:List Value} {x:α} {bs:List Nat} (h:R w cs x bs) (I:Below w.heap.size w w'):R w' cs x bs:=
 g.keep h fun b y=>I.block b (g.lt h b y)
theorem Good.Qd {α:Type} {R:Rel α} (g:Good R) {B:Nat} {w w':World} {cs:List Value} {x:α} {bs:List Nat} (h:R w cs x bs) (I:Below B w w') (hB:∀ b ∈ bs,b < B):R w' cs x bs:=
 g.keep h fun b y=>I.block b (hB b y)
theorem lt_of_cell {w:World} {p:Addr} {v:Value} (h:w.cell? p=some v):p.block < w.heap.size:=by
 rcases Nat.lt_or_ge p.block w.heap.size with y | y
 ·exact y
 ·simp [World.cell?,Array.getElem?_eq_none y] at h
def kQ:Rel T:=fun _ cs t bs=>cs = [.bool t.var,.string t.name]∧t.name.size≤maxLen∧bs = []
def fK {α:Type} (n:Nat) (R:Rel α):Rel (List α):=fun w cs xs bs=>
 ∃ Ad cap,cs = [.slice Ad xs.length cap]∧xs.length≤cap∧cap≤maxLen∧(xs = []→bs = [])∧
  (xs ≠ []→∃ b o,Ad=some ⟨b,o,none⟩∧∃ (F:Nat→List Value) (G:Nat→List Nat),bs=b :: (List.range xs.length).flatMap G∧
   ∀ k x,xs[k]? = some x→(F k).length=n∧(∀ j v,(F k)[j]? = some v→w.cell? ⟨b,o+(k * n+j),none⟩=some v)∧R w (F k) x (G k))
theorem dV:Good kQ:=⟨fun h _=>h,fun h b y=>by obtain ⟨_,_,rfl⟩:=h; simp at y⟩
theorem fZ {α:Type} {n:Nat} {R:Rel α} (g:Good R) (hn:0 < n):Good (fK n R):=by
 refine ⟨fun {w w' cs x bs} h hk=>?_,fun {w cs x bs} h c hc=>?_⟩
 ·obtain ⟨Ad,cap,rfl,hl,hm,h0,h1⟩:=h
  refine ⟨Ad,cap,rfl,hl,hm,h0,fun I=>?_⟩;obtain ⟨b,o,rfl,F,G,rfl,hF⟩:=h1 I;refine ⟨b,o,rfl,F,G,rfl,fun k y hy=>?_⟩;obtain ⟨a1,J,U⟩:=hF k y hy;refine ⟨a1,fun j v hv=>?_,g.keep U fun c hc=>hk c ?_⟩
  ·rw [World.cell?_of_block (w:=w) (hk b (by simp))]; exact J j v hv
  ·have a0:k < x.length:=(List.getElem?_eq_some_iff.1 hy).1
   exact Δ _ (List.mem_flatMap.2 ⟨k,List.mem_range.2 a0,hc⟩)
 ·obtain ⟨Ad,cap,rfl,hl,hm,h0,h1⟩:=h
  by_cases I:x = []
  ·rw [h0 I] at hc; simp at hc
  ·obtain ⟨b,o,rfl,F,G,rfl,hF⟩:=h1 I
   rcases ύ.1 hc with rfl | hc
   ·match x,I with
    | y :: r,_=>
     obtain ⟨a1,J,_⟩:=hF 0 y rfl;have:∃ v,(F 0)[0]? = some v:=⟨_,Ψ (by omega)⟩;obtain ⟨v,hv⟩:=this;exact lt_of_cell (J 0 v hv)
   ·obtain ⟨k,hk,a4⟩:=List.mem_flatMap.1 hc
    have a5:=List.mem_range.1 hk;obtain ⟨_,_,U⟩:=hF k x[k] (Ψ a5);exact g.lt U c a4
def fD:Rel (List T):=fK 2 kQ
def aP:Rel A:=fun w cs a bs=>∃ s,cs = [.string a.name,s]∧a.name.size≤maxLen∧fD w [s] a.args bs
def aQ:Rel (List A):=fK 2 aP
def nC:Rel Pt:=fun w cs p bs=>∃ s,cs = [.bool p.no,.string p.atom.name,s]∧p.atom.name.size≤maxLen∧fD w [s] p.atom.args bs
def gJ:Rel (List Pt):=fK 3 nC
def jk:Rel Ru:=fun w cs r bs=>∃ s b y I,cs = [.string r.head.name,s,b]∧r.head.name.size≤maxLen∧bs=y ++ I∧fD w [s] r.head.args y∧gJ w [b] r.body I
def dD:Rel (List Ru):=fK 3 jk
def TT:Rel Ch:=fun w cs c bs=>∃ s b y I,cs = [s,b]∧bs=y ++ I∧aQ w [s] c.comes y∧aQ w [b] c.goes I
theorem aG:Good fD:=fZ dV (by omega)
theorem ak:Good aP:=
 ⟨fun h hk=>by obtain ⟨s,h1,I,y⟩:=h; exact ⟨s,h1,I,aG.keep y hk⟩,fun h=>by obtain ⟨s,h1,I,y⟩:=h; exact aG.lt y⟩
theorem au:Good aQ:=fZ ak (by omega)
theorem pJ:Good nC:=
 ⟨fun h hk=>by obtain ⟨s,h1,I,y⟩:=h; exact ⟨s,h1,I,aG.keep y hk⟩,fun h=>by obtain ⟨s,h1,I,y⟩:=h; exact aG.lt y⟩
theorem aU:Good gJ:=fZ pJ (by omega)
theorem DX {α β:Type} {R:Rel α} {S:Rel β} (U:Good R) (gS:Good S) {w w':World} {c d:List Value} {x:α} {y:β} {I b2:List Nat} (h1:R w c x I) (h2:S w d y b2)
  (hk:∀ b ∈ I ++ b2,w'.heap[b]? = w.heap[b]?):R w' c x I∧S w' d y b2:=
 ⟨U.keep h1 fun b J=>hk b (Ξ _ J),gS.keep h2 fun b J=>hk b (Ω _ J)⟩
theorem Nh {α β:Type} {R:Rel α} {S:Rel β} (J:Good R) (U:Good S) {w:World} {c d:List Value} {x:α} {y:β} {I b2:List Nat} (h1:R w c x I) (h2:S w d y b2):∀ b ∈ I ++ b2,b < w.heap.size:=
 fun b hb=>(μ.1 hb).elim (J.lt h1 b) (U.lt h2 b)
theorem dL:Good jk:=
 ⟨fun h hk=>by obtain ⟨s,b,J,b2,h1,U,rfl,y,I⟩:=h; obtain ⟨y,I⟩:=DX aG aU y I hk; exact ⟨s,b,J,b2,h1,U,rfl,y,I⟩,
  fun h=>by obtain ⟨s,b,J,b2,h1,U,rfl,y,I⟩:=h; exact Nh aG aU y I⟩
theorem aI:Good dD:=fZ dL (by omega)
theorem gW {α:Type} {n:Nat} {R:Rel α} {w:World} {Ad:Option Addr} {len cap:Nat} {xs:List α} {bs:List Nat} (h:fK n R w [.slice Ad len cap] xs bs) {k:Nat} (hk:k < xs.length):
  ∃ b o cs I,Ad=some ⟨b,o,none⟩∧b ∈ bs∧cs.length=n∧(∀ j v,cs[j]? = some v→w.cell? ⟨b,o+(k * n+j),none⟩=some v)∧R w cs xs[k] I∧(∀ c ∈ I,c ∈ bs):=by
 obtain ⟨U,J,y,hl,hm,h0,h1⟩:=h;simp only [List.cons.injEq,Value.slice.injEq,and_true] at y;obtain ⟨rfl,rfl,rfl⟩:=y;obtain ⟨b,o,rfl,F,G,rfl,hF⟩:=h1 (by intro e; subst e; simp at hk);obtain ⟨a1,a2,a3⟩:=hF k _ (Ψ hk);exact ⟨b,o,F k,G k,rfl,by simp,a1,a2,a3,fun c hc=>Δ _ (List.mem_flatMap.2 ⟨k,List.mem_range.2 hk,hc⟩)⟩
theorem ai {α:Type} {n:Nat} {R:Rel α} {w:World} {v:Value} {xs:List α} {bs:List Nat} (h:fK n R w [v] xs bs):
  ∃ Ad cap,v=.slice Ad xs.length cap∧xs.length≤cap∧cap≤maxLen:=by
 obtain ⟨Ad,cap,y,I,hm,_⟩:=h;exact ⟨Ad,cap,by simpa using y,I,hm⟩
section
variable {w:World} {Ad:Option Addr} {len cap:Nat} {bs:List Nat} {k:Nat}
theorem dN {xs:List T} (h:fD w [.slice Ad len cap] xs bs) (hk:k < xs.length):
  ∃ b o,Ad=some ⟨b,o,none⟩∧b ∈ bs∧w.cell? ⟨b,o+k * 2,none⟩=some (.bool xs[k].var)∧w.cell? ⟨b,o+k * 2+1,none⟩=some (.string xs[k].name)∧xs[k].name.size≤maxLen:=by
 obtain ⟨b,o,cs,bk,rfl,J,U,y,⟨rfl,I,_⟩,_⟩:=gW h hk;exact ⟨b,o,rfl,J,by simpa using y 0 _ rfl,by simpa [Nat.add_assoc] using y 1 _ rfl,I⟩
theorem Qe {xs:List A} (h:aQ w [.slice Ad len cap] xs bs) (hk:k < xs.length):
  ∃ b o s I,Ad=some ⟨b,o,none⟩∧b ∈ bs∧w.cell? ⟨b,o+k * 2,none⟩=some (.string xs[k].name)∧w.cell? ⟨b,o+k * 2+1,none⟩=some s∧xs[k].name.size≤maxLen∧fD w [s] xs[k].args I∧∀ c ∈ I,c ∈ bs:=by
 obtain ⟨b,o,cs,I,rfl,hb,a0,y,⟨s,rfl,J,ht⟩,U⟩:=gW h hk;exact ⟨b,o,s,I,rfl,hb,by simpa using y 0 _ rfl,by simpa [Nat.add_assoc] using y 1 _ rfl,J,ht,U⟩
theorem Qg {xs:List Pt} (h:gJ w [.slice Ad len cap] xs bs) (hk:k < xs.length):
  ∃ b o s I,Ad=some ⟨b,o,none⟩∧b ∈ bs∧w.cell? ⟨b,o+k * 3,none⟩=some (.bool xs[k].no)∧w.cell? ⟨b,o+k * 3+1,none⟩=some (.string xs[k].atom.name)∧w.cell? ⟨b,o+k * 3+2,none⟩=some s∧xs[k].atom.name.size≤maxLen∧
   fD w [s] xs[k].atom.args I∧∀ c ∈ I,c ∈ bs:=by
 obtain ⟨b,o,cs,I,rfl,hb,a0,y,⟨s,rfl,J,ht⟩,U⟩:=gW h hk;exact ⟨b,o,s,I,rfl,hb,by simpa using y 0 _ rfl,by simpa [Nat.add_assoc] using y 1 _ rfl,by simpa [Nat.add_assoc] using y 2 _ rfl,J,ht,U⟩
theorem Qh {xs:List Ru} (h:dD w [.slice Ad len cap] xs bs) (hk:k < xs.length):
  ∃ b o s q J U,Ad=some ⟨b,o,none⟩∧b ∈ bs∧w.cell? ⟨b,o+k * 3,none⟩=some (.string xs[k].head.name)∧w.cell? ⟨b,o+k * 3+1,none⟩=some s∧w.cell? ⟨b,o+k * 3+2,none⟩=some q∧xs[k].head.name.size≤maxLen∧
   fD w [s] xs[k].head.args J∧gJ w [q] xs[k].body U∧(∀ c ∈ J,c ∈ bs)∧∀ c ∈ U,c ∈ bs:=by
 obtain ⟨b,o,cs,a1,rfl,hb,a2,y,⟨s,q,J,U,rfl,a0,rfl,ht,hp⟩,I⟩:=gW h hk;exact ⟨b,o,s,q,J,U,rfl,hb,by simpa using y 0 _ rfl,by simpa [Nat.add_assoc] using y 1 _ rfl,by simpa [Nat.add_assoc] using y 2 _ rfl,a0,ht,hp,fun c hc=>I c (Ξ _ hc),fun c hc=>I c (Ω _ hc)⟩
end
def jy:Rel ByteArray:=fun _ cs s bs=>cs = [.string s]∧s.size≤maxLen∧bs = []
theorem aN:Good jy:=⟨fun h _=>h,fun h b y=>by obtain ⟨_,_,rfl⟩:=h; simp at y⟩
def jA:Rel (List ByteArray):=fK 1 jy
theorem bV:Good jA:=fZ aN (by omega)
def VK:Rel UInt8:=fun _ cs c bs=>cs = [.int .u8 c.toNat]∧bs = []
theorem pK {w:World} {Ad:Option Addr} {len cap k:Nat} {bs:List Nat} {xs:List ByteArray} (h:jA w [.slice Ad len cap] xs bs) (hk:k < xs.length):
  ∃ b o,Ad=some ⟨b,o,none⟩∧b ∈ bs∧w.cell? ⟨b,o+k,none⟩=some (.string xs[k])∧xs[k].size≤maxLen:=by
 obtain ⟨b,o,cs,bk,rfl,J,U,y,⟨rfl,I,_⟩,_⟩:=gW h hk;exact ⟨b,o,rfl,J,by simpa using y 0 _ rfl,I⟩
structure New (B:Nat) (w:World) (bs:List Nat):Prop where
 nodup:bs.Nodup
 own:∀ b ∈ bs,B≤b∧∃ cur e,w.heap[b]? = some (.cells cur e (0,0))
theorem New.nil (B:Nat) (w:World):New B w []:=⟨List.nodup_nil,fun b y=>by simp at y⟩
theorem New.lt {B:Nat} {w:World} {bs:List Nat} (h:New B w bs) {b:Nat} (y:b ∈ bs):b < w.heap.size:=by
 obtain ⟨_,I,e,he⟩:=h.own b y;exact ψ he
theorem New.keep {B:Nat} {w w':World} {bs:List Nat} (h:New B w bs) (hk:∀ b ∈ bs,w'.heap[b]? = w.heap[b]?):New B w' bs:=
 ⟨h.nodup,fun b y=>⟨(h.own b y).1,by rw [hk b y]; exact (h.own b y).2⟩⟩
theorem New.below {B:Nat} {w w':World} {bs:List Nat} (h:New B w bs) (I:Below w.heap.size w w'):New B w' bs:=
 h.keep fun b y=>I.block b (h.lt y)
theorem New.mono {B B':Nat} {w:World} {bs:List Nat} (h:New B w bs) (hB:B'≤B):New B' w bs:=⟨h.nodup,fun b y=>⟨τ hB (h.own b y).1,(h.own b y).2⟩⟩
theorem New.append {B C:Nat} {w:World} {J b2:List Nat} (h1:New B w J) (I:New C w b2) (U:B≤C) (a0:∀ b ∈ J,b < C):New B w (J ++ b2):=by
 refine ⟨List.nodup_append.2 ⟨h1.nodup,I.nodup,fun a ha b y e=>?_⟩,fun b y=>?_⟩
 ·subst e; have:=a0 a ha; have:=(I.own a y).1; omega
 ·rcases μ.1 y with y | y
  ·exact h1.own b y
  ·exact ⟨τ U (I.own b y).1,(I.own b y).2⟩
theorem own_below {w w':World} {base e size n:Nat} {v:Value} {L:List Value} (h:w.ownsRow base e size v n L) (J:Below w.heap.size w w'):w'.ownsRow base e size v n L:=by
 refine ⟨h.1,h.2.imp id ?_⟩;rintro ⟨g,cap,y,hv,U,I,r⟩;exact ⟨g,cap,y,hv,U,by rw [J.block g (ψ I)]; exact I,r⟩
theorem iJ {w:World} {base e size n g cap:Nat} {L:List Value} (h:w.ownsRow base e size (.slice (some ⟨g,0,none⟩) n cap) n L) {j:Nat} (y:j < n * size):
  (∃ u,w.cell? ⟨g,j,none⟩=some u)∧w.frozen? ⟨g,j,none⟩=false:=
 ⟨⟨_,(h.cellAt j y).trans (Ψ (by have:=h.1; omega))⟩,h.frozenAt j⟩
structure fE {α:Type} (n:Nat) (R:Rel α) (C:Nat) (w:World) (L:List Value) (xs:List α) (k:Nat) (bs:List Nat):Prop where
 new:New C w bs
 at_:∃ G:Nat→List Nat,bs=(List.range k).flatMap G∧∀ j (h:j < xs.length),j < k→R w ((L.drop (j * n)).take n) xs[j] (G j)
theorem fE.start {α:Type} {n:Nat} {R:Rel α} {C:Nat} {w:World} {L:List Value} {xs:List α}:fE n R C w L xs 0 []:=
 ⟨New.nil _ _,fun _=>[],rfl,fun j _ y=>by omega⟩
theorem fE.keep {α:Type} {n:Nat} {R:Rel α} (g:Good R) {C:Nat} {w w':World} {L:List Value} {xs:List α} {k:Nat} {bs:List Nat} (h:fE n R C w L xs k bs)
  (hk:∀ b ∈ bs,w'.heap[b]? = w.heap[b]?):fE n R C w' L xs k bs:=by
 obtain ⟨h1,G,rfl,I⟩:=h;exact ⟨h1.keep hk,G,rfl,fun j J y=>g.keep (I j J y) fun b U=>hk b (List.mem_flatMap.2 ⟨j,List.mem_range.2 y,U⟩)⟩
theorem fE.step {α:Type} {n:Nat} {R:Rel α} {C:Nat} {w:World} {L J:List Value} {xs:List α} {k:Nat} {bs b2:List Nat} {cs:List Value} (h:fE n R C w L xs k bs)
  (hL:J.take (k * n)=L.take (k * n)) (U:(J.drop (k * n)).take n=cs) (hk:k < xs.length) (hR:R w cs xs[k] b2) (hC:∃ D,C≤D∧New D w b2∧∀ b ∈ bs,b < D):fE n R C w J xs (k+1) (bs ++ b2):=by
 obtain ⟨h1,G,rfl,h2⟩:=h;obtain ⟨D,a0,h3,h4⟩:=hC;refine ⟨h1.append h3 a0 h4,fun j=>if j=k then b2 else G j,?_,fun j hj a1=>?_⟩
 ·rw [List.range_succ,List.flatMap_append]
  simp only [List.flatMap_cons,List.flatMap_nil,if_true,List.append_nil]
  congr 1
  rw [List.flatMap_def,List.flatMap_def]
  congr 1
  exact List.map_congr_left fun j hj=>by rw [if_neg (by have:=List.mem_range.1 hj; omega)]
 ·by_cases e:j=k
  ·subst e
   show R w _ _ (if j=j then b2 else G j);rw [if_pos rfl,U];exact hR
  ·show R w _ _ (if j=k then b2 else G j)
   rw [if_neg e];have y:j < k:=by omega
   have hmul:j * n+n≤k * n:=by
    have:=Nat.mul_le_mul_right n (show j+1≤k by omega);rw [Nat.add_mul,Nat.one_mul] at this; exact this
   have I:∀ M:List Value,(M.drop (j * n)).take n=((M.take (k * n)).drop (j * n)).take n:=by
    intro M;rw [List.drop_take,List.take_take,Nat.min_eq_left (by omega)]
   rw [I J,hL,← I L];exact h2 j hj y
theorem set2 {L:List Value} {k m:Nat} (y:L.length=m * 2) (hk:k < m) (a b:Value):
  (((L.set (k * 2) a).set (k * 2+1) b).take (k * 2)=L.take (k * 2))∧(((L.set (k * 2) a).set (k * 2+1) b).drop (k * 2)).take 2 = [a,b]:=by
 constructor
 ·rw [List.take_set_of_le (by omega),List.take_set_of_le (by omega)]
 ·refine List.ext_getElem? fun j=>?_
  rcases j with _ | _ | j
  ·simp [List.getElem?_set,List.getElem?_drop]; omega
  ·simp [List.getElem?_set,List.getElem?_drop]; omega
  ·simp; omega
theorem VT {L:List Value} {k m:Nat} (y:L.length=m * 3) (hk:k < m) (a b c:Value):
  ((((L.set (k * 3) a).set (k * 3+1) b).set (k * 3+2) c).take (k * 3)=L.take (k * 3))∧((((L.set (k * 3) a).set (k * 3+1) b).set (k * 3+2) c).drop (k * 3)).take 3 = [a,b,c]:=by
 constructor
 ·rw [List.take_set_of_le (by omega),List.take_set_of_le (by omega),List.take_set_of_le (by omega)]
 ·refine List.ext_getElem? fun j=>?_
  rcases j with _ | _ | _ | j
  ·simp [List.getElem?_set,List.getElem?_drop]; omega
  ·simp [List.getElem?_set,List.getElem?_drop]; omega
  ·simp [List.getElem?_set,List.getElem?_drop]; omega
  ·simp; omega
theorem Kq {w:World} {base e n g cap k:Nat} {L:List Value} (h:w.ownsRow base e 2 (.slice (some ⟨g,0,none⟩) n cap) n L) (a b:Value):
  ((w.setCell ⟨g,k * 2,none⟩ a).setCell ⟨g,k * 2+1,none⟩ b).ownsRow base e 2 (.slice (some ⟨g,0,none⟩) n cap) n ((L.set (k * 2) a).set (k * 2+1) b):=
 ((h.stored _ _).1.stored _ _).1
theorem Kr {w:World} {base e n g cap k:Nat} {L:List Value} (h:w.ownsRow base e 3 (.slice (some ⟨g,0,none⟩) n cap) n L) (a b c:Value):
  (((w.setCell ⟨g,k * 3,none⟩ a).setCell ⟨g,k * 3+1,none⟩ b).setCell ⟨g,k * 3+2,none⟩ c).ownsRow base e 3 (.slice (some ⟨g,0,none⟩) n cap) n (((L.set (k * 3) a).set (k * 3+1) b).set (k * 3+2) c):=
 (((h.stored _ _).1.stored _ _).1.stored _ _).1
theorem U2 {α:Type} {R:Rel α} (gR:Good R) {w0 wr I:World} {base B e g cap C k:Nat} {L:List Value} {xs:List α} {bs b2:List Nat} {a b:Value}
  (J:wr.ownsRow base e 2 (.slice (some ⟨g,0,none⟩) xs.length cap) xs.length L) (hF:fE 2 R C wr L xs k bs) (hk:k < xs.length)
  (a2:Below B w0 wr) (hb:Below wr.heap.size wr I) (a3:g < C) (U:B≤g) (hC:C≤wr.heap.size) (hR:R I [a,b] xs[k] b2) (hN:New wr.heap.size I b2):
  ((I.setCell ⟨g,k * 2,none⟩ a).setCell ⟨g,k * 2+1,none⟩ b).ownsRow base e 2 (.slice (some ⟨g,0,none⟩) xs.length cap) xs.length ((L.set (k * 2) a).set (k * 2+1) b)∧
  fE 2 R C ((I.setCell ⟨g,k * 2,none⟩ a).setCell ⟨g,k * 2+1,none⟩ b) ((L.set (k * 2) a).set (k * 2+1) b) xs (k+1) (bs ++ b2)∧
  Below B w0 ((I.setCell ⟨g,k * 2,none⟩ a).setCell ⟨g,k * 2+1,none⟩ b)∧C≤((I.setCell ⟨g,k * 2,none⟩ a).setCell ⟨g,k * 2+1,none⟩ b).heap.size:=by
 have a0:∀ c ∈ bs,c < wr.heap.size:=fun c hc=>hF.new.lt hc
 have a1:∀ c ∈ bs,c ≠ g:=fun c hc e=>by have:=(hF.new.own c hc).1; omega
 have y:∀ c ∈ b2,c ≠ g:=fun c hc e=>by have:=(hN.own c hc).1; omega
 have hs:=set2 J.1 hk a b;refine ⟨Kq (own_below J hb) a b,?_,?_,?_⟩
 ·refine fE.step (hF.keep gR fun c hc=>?_) hs.1 hs.2 hk (gR.keep hR fun c hc=>?_) ⟨wr.heap.size,hC,hN.keep fun c hc=>?_,a0⟩
  ·rw [π _ _ _ _ (a1 c hc),π _ _ _ _ (a1 c hc),hb.block c (a0 c hc)]
  ·rw [π _ _ _ _ (y c hc),π _ _ _ _ (y c hc)]
  ·rw [π _ _ _ _ (y c hc),π _ _ _ _ (y c hc)]
 ·exact ((a2.trans (hb.mono (by omega))).setCell U _).setCell U _
 ·have:=hb.size; simp; omega
theorem U3 {α:Type} {R:Rel α} (gR:Good R) {w0 wr I:World} {base B e g cap C k:Nat} {L:List Value} {xs:List α} {bs b2:List Nat} {a b c:Value}
  (a0:wr.ownsRow base e 3 (.slice (some ⟨g,0,none⟩) xs.length cap) xs.length L) (hF:fE 3 R C wr L xs k bs) (hk:k < xs.length)
  (a2:Below B w0 wr) (hb:Below wr.heap.size wr I) (a3:g < C) (J:B≤g) (hC:C≤wr.heap.size) (hR:R I [a,b,c] xs[k] b2) (hN:New wr.heap.size I b2):
  (((I.setCell ⟨g,k * 3,none⟩ a).setCell ⟨g,k * 3+1,none⟩ b).setCell ⟨g,k * 3+2,none⟩ c).ownsRow base e 3 (.slice (some ⟨g,0,none⟩) xs.length cap) xs.length (((L.set (k * 3) a).set (k * 3+1) b).set (k * 3+2) c)∧
  fE 3 R C (((I.setCell ⟨g,k * 3,none⟩ a).setCell ⟨g,k * 3+1,none⟩ b).setCell ⟨g,k * 3+2,none⟩ c) (((L.set (k * 3) a).set (k * 3+1) b).set (k * 3+2) c) xs (k+1) (bs ++ b2)∧
  Below B w0 (((I.setCell ⟨g,k * 3,none⟩ a).setCell ⟨g,k * 3+1,none⟩ b).setCell ⟨g,k * 3+2,none⟩ c)∧C≤(((I.setCell ⟨g,k * 3,none⟩ a).setCell ⟨g,k * 3+1,none⟩ b).setCell ⟨g,k * 3+2,none⟩ c).heap.size:=by
 have a1:∀ c ∈ bs,c < wr.heap.size:=fun c hc=>hF.new.lt hc
 have U:∀ c ∈ bs,c ≠ g:=fun c hc e=>by have:=(hF.new.own c hc).1; omega
 have y:∀ c ∈ b2,c ≠ g:=fun c hc e=>by have:=(hN.own c hc).1; omega
 have hs:=VT a0.1 hk a b c;refine ⟨Kr (own_below a0 hb) a b c,?_,?_,?_⟩
 ·refine fE.step (hF.keep gR fun c hc=>?_) hs.1 hs.2 hk (gR.keep hR fun c hc=>?_) ⟨wr.heap.size,hC,hN.keep fun c hc=>?_,a1⟩
  ·rw [π _ _ _ _ (U c hc),π _ _ _ _ (U c hc),π _ _ _ _ (U c hc),hb.block c (a1 c hc)]
  ·rw [π _ _ _ _ (y c hc),π _ _ _ _ (y c hc),π _ _ _ _ (y c hc)]
  ·rw [π _ _ _ _ (y c hc),π _ _ _ _ (y c hc),π _ _ _ _ (y c hc)]
 ·exact (((a2.trans (hb.mono (by omega))).setCell J _).setCell J _).setCell J _
 ·have:=hb.size; simp; omega
theorem fE.slice {α:Type} {n:Nat} {R:Rel α} {C base:Nat} {w:World} {L:List Value} {xs:List α} {bs:List Nat} {e:TypeId} {g cap:Nat} (h:fE n R C w L xs xs.length bs)
  (J:w.ownsRow base e n (.slice (some ⟨g,0,none⟩) xs.length cap) xs.length L) (hg:g ∉ bs):
  ∃ b2,fK n R w [.slice (some ⟨g,0,none⟩) xs.length cap] xs b2∧b2.Nodup∧(∀ b ∈ b2,(b=g∧base≤g)∨b ∈ bs)∧(∀ b ∈ b2,∃ y e,w.heap[b]? = some (.cells y e (0,0))):=by
 obtain ⟨h1,G,a6,h2⟩:=h
 have a1:base≤g∧(∃ y,w.heap[g]? = some (.cells y e (0,0)))∧xs.length≤cap∧cap≤maxLen:=by
  rcases J.2 with ⟨hv,_⟩ | ⟨g',a8,y,hv,I,hh,U,a0,_⟩
  ·simp at hv
  ·simp only [Value.slice.injEq,Option.some.injEq,Addr.mk.injEq,and_true,true_and] at hv
   obtain ⟨rfl,rfl⟩:=hv;exact ⟨I,⟨y,hh⟩,U,a0⟩
 obtain ⟨a2,⟨y,a3⟩,U,a0⟩:=a1;by_cases a4:xs = []
 ·subst a4
  exact ⟨[],⟨_,cap,rfl,U,a0,fun _=>rfl,fun h=>absurd rfl h⟩,List.nodup_nil,fun b I=>by simp at I,fun b I=>by simp at I⟩
 ·refine ⟨g :: bs,⟨_,cap,rfl,U,a0,fun h=>absurd h a4,fun _=>⟨g,0,rfl,fun k=>(L.drop (k * n)).take n,G,by rw [a6],fun k x hx=>?_⟩⟩,List.nodup_cons.2 ⟨hg,h1.nodup⟩,?_,?_⟩
  ·obtain ⟨a5,rfl⟩:=List.getElem?_eq_some_iff.1 hx
   have hmul:k * n+n≤xs.length * n:=by
    have:=Nat.mul_le_mul_right n (show k+1≤xs.length by omega);rw [Nat.add_mul,Nat.one_mul] at this; exact this
   have hlen:=J.1;refine ⟨by simp; omega,fun j v hv=>?_,h2 k a5 a5⟩
   have a7:j < n:=by
    have:=(List.getElem?_eq_some_iff.1 hv).1;simp at this; omega
   rw [List.getElem?_take_of_lt a7,List.getElem?_drop] at hv;rw [Nat.zero_add,J.cellAt (k * n+j) (by omega)];exact hv
  ·intro b I
   rcases ύ.1 I with rfl | I
   ·exact .inl ⟨rfl,a2⟩
   ·exact .inr I
  ·intro b I
   rcases ύ.1 I with rfl | I
   ·exact ⟨y,e,a3⟩
   ·exact (h1.own b I).2
def iE (y:List T):Nat:=(y.map (fun t=>t.name.size)).sum
def jl (a:A):Nat:=a.name.size+a.args.length+iE a.args
theorem y9 (y:List T) (k:Nat) (h:k < y.length):iE (y.take (k+1))=iE (y.take k)+y[k].name.size:=by
 unfold iE; rw [ρ h,List.map_append,List.sum_append]; simp
end D
namespace D
open Go.RowKit
def dh {α:Type} (f:α→Nat) (xs:List α):Nat:=(xs.map f).sum
theorem kR {α:Type} (f:α→Nat) (xs:List α) (k:Nat) (h:k < xs.length):dh f (xs.take (k+1))=dh f (xs.take k)+f xs[k]:=by
 unfold dh; rw [ρ h,List.map_append,List.sum_append]; simp
theorem oJ {α:Type} (f:α→Nat) (xs:List α) (k:Nat):dh f (xs.take k)≤dh f xs:=by
 have h:dh f xs=dh f (xs.take k)+dh f (xs.drop k):=by
  conv=>lhs; rw [← List.take_append_drop k xs]
  unfold dh;rw [List.map_append,List.sum_append]
 omega
theorem rX {α:Type} (f:α→Nat) (xs:List α) (k:Nat) (h:k < xs.length):f xs[k]≤dh f xs:=by
 have:=kR f xs k h;have:=oJ f xs (k+1);omega
def EX (xs:List A):Nat:=xs.length+dh jl xs
def nY (p:Pt):Nat:=jl p.atom
def rY (xs:List Pt):Nat:=xs.length+dh nY xs
def tC (r:Ru):Nat:=jl r.head+rY r.body
def EY (xs:List Ru):Nat:=xs.length+dh tC xs
section
variable {w:World} {Ad:Option Addr} {len cap:Nat} {bs:List Nat} {k:Nat}
theorem dQ {xs:List A} (h:aQ w [.slice Ad len cap] xs bs) (hk:k < xs.length):
  ∃ b o y I J,Ad=some ⟨b,o,none⟩∧b ∈ bs∧w.cell? ⟨b,o+k * 2,none⟩=some (.string xs[k].name)∧w.cell? ⟨b,o+k * 2+1,none⟩=some (.slice y xs[k].args.length I)∧
   aP w [.string xs[k].name,.slice y xs[k].args.length I] xs[k] J∧∀ c ∈ J,c ∈ bs:=by
 obtain ⟨b,o,s,J,rfl,hb,h0,h1,U,ht,a0⟩:=Qe h hk;obtain ⟨y,I,rfl,_⟩:=ai ht;exact ⟨b,o,y,I,J,rfl,hb,h0,h1,⟨_,rfl,U,ht⟩,a0⟩
theorem eU {xs:List Pt} (h:gJ w [.slice Ad len cap] xs bs) (hk:k < xs.length):
  ∃ b o y I J,Ad=some ⟨b,o,none⟩∧b ∈ bs∧w.cell? ⟨b,o+k * 3,none⟩=some (.bool xs[k].no)∧w.cell? ⟨b,o+k * 3+1,none⟩=some (.string xs[k].atom.name)∧w.cell? ⟨b,o+k * 3+2,none⟩=some (.slice y xs[k].atom.args.length I)∧
   nC w [.bool xs[k].no,.string xs[k].atom.name,.slice y xs[k].atom.args.length I] xs[k] J∧∀ c ∈ J,c ∈ bs:=by
 obtain ⟨b,o,s,J,rfl,hb,h0,h1,h2,U,ht,a0⟩:=Qg h hk;obtain ⟨y,I,rfl,_⟩:=ai ht;exact ⟨b,o,y,I,J,rfl,hb,h0,h1,h2,⟨_,rfl,U,ht⟩,a0⟩
theorem eF {xs:List Ru} (h:dD w [.slice Ad len cap] xs bs) (hk:k < xs.length):
  ∃ b o I J U cf y,Ad=some ⟨b,o,none⟩∧b ∈ bs∧w.cell? ⟨b,o+k * 3,none⟩=some (.string xs[k].head.name)∧w.cell? ⟨b,o+k * 3+1,none⟩=some (.slice I xs[k].head.args.length J)∧w.cell? ⟨b,o+k * 3+2,none⟩=some (.slice U xs[k].body.length cf)∧
   jk w [.string xs[k].head.name,.slice I xs[k].head.args.length J,.slice U xs[k].body.length cf] xs[k] y∧∀ c ∈ y,c ∈ bs:=by
 obtain ⟨b,o,s,q,y,bq,rfl,hb,h0,h1,h2,a0,ht,hp,a1,a2⟩:=Qh h hk;obtain ⟨I,J,rfl,_⟩:=ai ht;obtain ⟨U,cf,rfl,_⟩:=ai hp;exact ⟨b,o,I,J,U,cf,y ++ bq,rfl,hb,h0,h1,h2,⟨_,_,y,bq,rfl,a0,rfl,ht,hp⟩,fun c hc=>(μ.1 hc).elim (a1 c) (a2 c)⟩
end
theorem nD {w:World} {I c1 c2:Value} {p:Pt} {bs:List Nat} (h:nC w [I,c1,c2] p bs):∃ Ad cap,I=.bool p.no∧c1=.string p.atom.name∧c2=.slice Ad p.atom.args.length cap:=by
 obtain ⟨s,y,_,J⟩:=h;obtain ⟨Ad,cap,rfl,_⟩:=ai J;simp only [List.cons.injEq,and_true] at y;exact ⟨Ad,cap,y⟩
theorem Kt {w:World} {cs:Array Value} {p:Pt} {bs:List Nat} (h:nC w cs.toList p bs):∃ Ad cap,cs=#[.bool p.no,.string p.atom.name,.slice Ad p.atom.args.length cap]:=by
 obtain ⟨s,y,_,I⟩:=h;obtain ⟨Ad,cap,rfl,_⟩:=ai I;exact ⟨Ad,cap,Array.toList_inj.1 y⟩
theorem eX {w:World} {I c1 c2:Value} {p:Pt} {bs:List Nat} (h:nC w [I,c1,c2] p bs):aP w [c1,c2] p.atom bs:=by
 obtain ⟨s,y,J,U⟩:=h;simp only [List.cons.injEq,and_true] at y;obtain ⟨_,rfl,rfl⟩:=y;exact ⟨_,rfl,J,U⟩
theorem iK {w:World} {U c1 c2:Value} {r:Ru} {bs:List Nat} (h:jk w [U,c1,c2] r bs):∃ Ad cap J y,U=.string r.head.name∧c1=.slice Ad r.head.args.length cap∧c2=.slice J r.body.length y:=by
 obtain ⟨s,b,_,_,I,_,_,ht,hp⟩:=h;obtain ⟨Ad,cap,rfl,_⟩:=ai ht;obtain ⟨J,y,rfl,_⟩:=ai hp;simp only [List.cons.injEq,and_true] at I;exact ⟨Ad,cap,J,y,I⟩
theorem Ku {w:World} {cs:Array Value} {r:Ru} {bs:List Nat} (h:jk w cs.toList r bs):∃ Ad cap I y,cs=#[.string r.head.name,.slice Ad r.head.args.length cap,.slice I r.body.length y]:=by
 obtain ⟨s,b,_,_,J,_,_,U,hp⟩:=h;obtain ⟨Ad,cap,rfl,_⟩:=ai U;obtain ⟨I,y,rfl,_⟩:=ai hp;exact ⟨Ad,cap,I,y,Array.toList_inj.1 J⟩
theorem dX {w:World} {J c1 c2:Value} {r:Ru} {bs:List Nat} (h:jk w [J,c1,c2] r bs):∃ I b2,bs=I ++ b2∧aP w [J,c1] r.head I∧gJ w [c2] r.body b2:=by
 obtain ⟨s,b,I,b2,y,U,rfl,ht,hp⟩:=h;simp only [List.cons.injEq,and_true] at y;obtain ⟨rfl,rfl,rfl⟩:=y;exact ⟨I,b2,rfl,⟨_,rfl,U,ht⟩,hp⟩
end D
section
open Go.RowKit D
theorem ay {n:Nat} (h:n≤maxLen):(n:Int)≤9223372036854775807:=by unfold maxLen at h; omega
def Left (left y:Int) (B:Nat) (w:World) (e:Ending) (w':World):Prop:=Below B w w'∧∃ r:Int,e=.returned (.int .i64 r)∧(r = -1∨(0≤r∧r+y=left))
def Makes {α:Type} (R:Rel α) (x:α) (B:Nat) (w:World) (e:Ending) (w':World):Prop:=Below B w w'∧∃ v bs,e=.returned v∧R w' [v] x bs∧New B w' bs
def tV {α:Type} (R:Rel α) (x:α) (B:Nat) (w:World) (e:Ending) (w':World):Prop:=Below B w w'∧∃ cs bs,e=.returned (.agg cs)∧R w' cs.toList x bs∧New B w' bs
def Yes (B:Nat) (w:World) (e:Ending) (w':World):Prop:=e=.returned (.bool true)∧Below B w w'
theorem iQ {α:Type} {p:α→Bool} (xs:List α) (k:Nat) (h:k < xs.length):(xs.take (k+1)).all p=((xs.take k).all p && p xs[k]):=by
 rw [ρ h,List.all_append]; simp
theorem rZ {α:Type} {p:α→Bool} (xs:List α) (k:Nat) (h:k < xs.length) (y:p xs[k]=false):xs.all p=false:=by
 rw [List.all_eq_false]; exact ⟨_,δ h,by simp [y]⟩
theorem mr {w:World} {cs:Array Value} {a:A} {bs:List Nat} (h:aP w cs.toList a bs):∃ Ad cap,cs=#[.string a.name,.slice Ad a.args.length cap]:=by
 obtain ⟨s,y,_,I⟩:=h;obtain ⟨Ad,cap,rfl,_⟩:=ai I;exact ⟨Ad,cap,Array.toList_inj.1 y⟩
theorem dK {w:World} {I c1:Value} {a:A} {bs:List Nat} (h:aP w [I,c1] a bs):fD w [c1] a.args bs:=by
 obtain ⟨s,y,_,J⟩:=h;simp only [List.cons.injEq,and_true] at y;rw [y.2]; exact J
theorem bK {w:World} {I c1:Value} {a:A} {bs:List Nat} (h:aP w [I,c1] a bs):∃ Ad cap,I=.string a.name∧c1=.slice Ad a.args.length cap:=by
 obtain ⟨s,y,_,J⟩:=h;obtain ⟨Ad,cap,rfl,_⟩:=ai J;simp only [List.cons.injEq,and_true] at y;exact ⟨Ad,cap,y⟩
end
namespace D
structure vX {α:Type} (c:α→α→Int):Prop where
 eq:∀ a b,c a b=0 ↔ a=b
 vals:∀ a b,c a b = -1∨c a b=0∨c a b=1
 anti:∀ a b,c b a = - c a b
 trans:∀ a b d,c a b≤0→c b d≤0→c a d≤0
theorem vX.refl {α:Type} {c:α→α→Int} (h:vX c) (a:α):c a a=0:=(h.eq a a).2 rfl
theorem vX.nG {α:Type} {c:α→α→Int} (h:vX c) {a b d:α} (h1:c a b < 0) (I:c b d≤0):c a d < 0:=by
 have J:=h.trans a b d (by omega) I
 rcases Int.lt_or_eq_of_le J with y | y
 ·exact y
 ·have:=(h.eq a d).1 y
  subst this;have:=h.anti a b;omega
def jI {α:Type} (c:α→α→Int):List α→List α→Int
 | [],[]=>0
 | [],_ :: _=>-1
 | _ :: _,[]=>1
 | a :: as,b :: bs=>if c a b=0 then jI c as bs else c a b
theorem lS {α:Type} {c:α→α→Int} (h:vX c):vX (jI c):=by
 refine ⟨fun l=>?_,fun l=>?_,fun l=>?_,fun l=>?_⟩
 ·induction l with
  | nil=>intro m; cases m <;> simp [jI]
  | cons a as ih=>
   intro m
   cases m with
   | nil=>simp [jI]
   | cons b bs=>
    simp only [jI];by_cases hc:c a b=0
    ·rw [if_pos hc,ih]
     have:=(h.eq a b).1 hc;subst this;simp
    ·rw [if_neg hc]
     have:a ≠ b:=fun e=>hc ((h.eq a b).2 e)
     simp [hc,this]
 ·induction l with
  | nil=>intro m; cases m <;> simp [jI]
  | cons a as ih=>
   intro m
   cases m with
   | nil=>simp [jI]
   | cons b bs=>
    simp only [jI]
    split
    ·exact ih bs
    ·exact h.vals a b
 ·induction l with
  | nil=>intro m; cases m <;> simp [jI]
  | cons a as ih=>
   intro m
   cases m with
   | nil=>simp [jI]
   | cons b bs=>
    simp only [jI];have ha:=h.anti a b;by_cases hc:c a b=0
    ·rw [if_pos hc,if_pos (by omega)]; exact ih bs
    ·rw [if_neg hc,if_neg (by omega)]; exact ha
 ·induction l with
  | nil=>
   intro m n h1 I
   cases n with
   | nil=>simp [jI]
   | cons d ds=>simp [jI]
  | cons a as ih=>
   intro m n h1 I
   cases m with
   | nil=>simp [jI] at h1
   | cons b bs=>
    cases n with
    | nil=>simp [jI] at I
    | cons d ds=>
     simp only [jI] at *;by_cases J:c a b=0
     ·have:=(h.eq a b).1 J
      subst this;rw [if_pos J] at h1;by_cases y:c a d=0
      ·rw [if_pos y] at I ⊢
       exact ih bs ds h1 I
      ·rw [if_neg y] at I ⊢
       exact I
     ·rw [if_neg J] at h1
      have U:c b d≤0:=by
       by_cases y:c b d=0
       ·omega
       ·rw [if_neg y] at I; exact I
      have a0:c a b < 0:=by omega
      have:=h.nG a0 U;rw [if_neg (by omega)];omega
def qN (a b:UInt8):Int:=if a < b then -1 else if b < a then 1 else 0
theorem Ac:vX qN:=by
 refine ⟨fun a b=>?_,fun a b=>?_,fun a b=>?_,fun a b d=>?_⟩
 all_goals simp only [qN,UInt8.lt_iff_toNat_lt,← UInt8.toNat_inj]
 ·split <;> try split
  all_goals simp; omega
 ·split <;> try split
  all_goals simp
 ·by_cases h1:a.toNat < b.toNat
  ·simp [h1,show ¬ b.toNat < a.toNat by omega]
  ·by_cases y:b.toNat < a.toNat
   ·simp [h1,y]
   ·simp [h1,y]
 ·intro h1 y
  have I:¬ b.toNat < a.toNat:=by
   intro g;rw [if_neg (by omega),if_pos g] at h1;omega
  have J:¬ d.toNat < b.toNat:=by
   intro g;rw [if_neg (by omega),if_pos g] at y;omega
  split
  ·omega
  ·rw [if_neg (by omega)]; omega
theorem yh (l m:List UInt8):Lib.compareBytes l m=jI qN l m:=by
 induction l generalizing m with
 | nil=>cases m <;> rfl
 | cons a as ih=>
  cases m with
  | nil=>rfl
  | cons b bs=>
   simp only [Lib.compareBytes,jI,qN,ih]
   split
   ·simp
   ·split <;> simp
theorem Qi (l m:List UInt8):Op.bytesLess l m=true ↔ jI qN l m < 0:=by
 induction l generalizing m with
 | nil=>cases m <;> simp [Op.bytesLess,jI]
 | cons a as ih=>
  cases m with
  | nil=>simp [Op.bytesLess,jI]
  | cons b bs=>
   simp only [Op.bytesLess,jI,Bool.or_eq_true,ο,decide_eq_true_eq,beq_iff_eq,ih];have hv:=Ac.eq a b;by_cases h0:qN a b=0
   ·have:=hv.1 h0
    subst this;rw [if_pos h0];have:¬ a < a:=by rw [UInt8.lt_iff_toNat_lt]; omega
    simp [this]
   ·rw [if_neg h0]
    have y:a ≠ b:=fun e=>h0 (hv.2 e)
    unfold qN;by_cases I:a < b
    ·simp [I]
    ·simp only [I,y,false_and,or_false,if_false,false_iff]
     split <;> omega
def fA (a b:ByteArray):Int:=jI qN a.data.toList b.data.toList
theorem gK:vX fA:=by
 have h:=lS Ac;refine ⟨fun a b=>?_,fun a b=>h.vals _ _,fun a b=>h.anti _ _,fun a b d=>h.trans _ _ _⟩;unfold fA;rw [h.eq];exact ⟨fun e=>WideShapes.bytes_inj e,fun e=>by rw [e]⟩
theorem su (a b:ByteArray):Op.bytesLess a.toList b.toList=decide (fA a b < 0):=by
 rw [ByteArray.toList_eq,ByteArray.toList_eq,Bool.eq_iff_iff,Qi,decide_eq_true_eq]; rfl
theorem Aj (a b:ByteArray):(a.toList == b.toList)=decide (fA a b=0):=by
 rw [ByteArray.toList_eq,ByteArray.toList_eq,Bool.eq_iff_iff];simp only [beq_iff_eq,decide_eq_true_eq,gK.eq];exact ⟨fun e=>WideShapes.bytes_inj e,fun e=>by rw [e]⟩
theorem EZ (a b:ByteArray):Lib.compareBytes a.data.toList b.data.toList=fA a b:=yh _ _
def kF:List T→List T→Int
 | [],[]=>0
 | [],_ :: _=>-1
 | _ :: _,[]=>1
 | a :: as,b :: bs=>if fA a.name b.name=0 then kF as bs else fA a.name b.name
theorem NU (l m:List T):kF l m=jI fA (l.map (·.name)) (m.map (·.name)):=by
 induction l generalizing m with
 | nil=>cases m <;> rfl
 | cons a as ih=>cases m with
  | nil=>rfl
  | cons b bs=>simp only [kF,List.map_cons,jI,ih]
def dJ (a b:A):Int:=if fA a.name b.name=0 then kF a.args b.args else fA a.name b.name
def qJ (a:A):List ByteArray:=a.name :: a.args.map (·.name)
theorem jP (a b:A):dJ a b=jI fA (qJ a) (qJ b):=by
 unfold dJ qJ;simp only [jI,NU]
end D
section
open Go.RowKit D
namespace D
section
def jU (y:List T):Bool:=y.any (·.var)
def aW (a:A):Bool:=aZ a && !jU a.args
def iF:List A→Bool
 | []=>true
 | [_]=>true
 | a :: b :: r=>decide (dJ a b < 0) && iF (b :: r)
theorem vY (xs:List A):iF xs=true ↔ ∀ i (h:i+1 < xs.length),dJ xs[i] xs[i+1] < 0:=by
 induction xs with
 | nil=>simp [iF]
 | cons a r ih=>
  cases r with
  | nil=>simp [iF]
  | cons b r=>
   simp only [iF,ο,decide_eq_true_eq,ih];constructor
   ·rintro ⟨h1,y⟩ i hi
    cases i with
    | zero=>exact h1
    | succ i=>exact y i (by simp at hi ⊢; omega)
   ·intro h
    exact ⟨h 0 (by simp),fun i hi=>h (i+1) (by simp at hi ⊢; omega)⟩
theorem TU (xs:List A) (k:Nat) (h:k+1 < xs.length) (hc:¬ dJ xs[k] xs[k+1] < 0):iF xs=false:=by
 rw [Bool.eq_false_iff];intro ha;exact hc ((vY xs).1 ha k h)
def lT (xs:List A):Bool:=decide (xs.length≤300) && xs.all aW && iF xs
theorem AQ (y:List T) (k:Nat) (h:k < y.length) (hv:y[k].var=true):jU y=true:=by
 unfold jU; rw [List.any_eq_true]; exact ⟨_,δ h,hv⟩
theorem zf (y:List T) (k:Nat) (h:k < y.length):jU (y.take (k+1))=(jU (y.take k) || y[k].var):=by
 unfold jU; rw [ρ h,List.any_append]; simp
end
section
def okB (xs:List A):Bool:=xs.all aW && iF xs
def NV (xs:List A) (k:Nat):Prop:=∀ j (h:j < xs.length),j < k→aW xs[j]=true∧(∀ y:0 < j,dJ (xs[j - 1]'(by omega)) xs[j] < 0)
def G8 (xs:List A) (k:Nat):Prop:=∀ j (h:j < xs.length),j < k→aW xs[j]=true
def AU (xs:List A) (k:Nat):Prop:=∀ j (h:j < xs.length),j < k→∀ y:0 < j,dJ (xs[j - 1]'(by omega)) xs[j] < 0
theorem NW (xs:List A):NV xs 0:=fun _ _ h=>absurd h (Nat.not_lt_zero _)
theorem Kv (xs:List A):G8 xs 0:=fun _ _ h=>absurd h (Nat.not_lt_zero _)
theorem NY (xs:List A):AU xs 1:=fun j _ h y=>by omega
theorem Qj {xs:List A} (h0:0 < xs.length) (h:aW xs[0]=true):NV xs 1:=fun j I hk=>by
 have:j=0:=by omega
 subst this;exact ⟨h,fun y=>absurd y (Nat.lt_irrefl _)⟩
theorem NZ {xs:List A} {k:Nat} (H:NV xs (k+1)) (hk:k+1 < xs.length) (h:aW xs[k+1]=true) (hc:dJ xs[k] xs[k+1] < 0):NV xs (k+1+1):=fun j y I=>by
 by_cases e:j=k+1
 ·subst e; exact ⟨h,fun _=>hc⟩
 ·exact H j y (by omega)
theorem Kw {xs:List A} {k:Nat} (H:G8 xs k) (hk:k < xs.length) (h:aW xs[k]=true):G8 xs (k+1):=fun j y I=>by
 by_cases e:j=k
 ·subst e; exact h
 ·exact H j y (by omega)
theorem Ky {xs:List A} {k:Nat} (H:AU xs (k+1)) (hk:k+1 < xs.length) (hc:dJ xs[k] xs[k+1] < 0):AU xs (k+1+1):=fun j y I=>by
 by_cases e:j=k+1
 ·subst e; exact fun _=>hc
 ·exact H j y (by omega)
theorem E5 (xs:List A):okB xs=true ↔ G8 xs xs.length∧AU xs xs.length:=by
 unfold okB;rw [ο,ό,vY];constructor
 ·rintro ⟨h1,I⟩
  refine ⟨fun j y _=>h1 _ (δ y),fun j y _ h0=>?_⟩;obtain ⟨i,rfl⟩:∃ i,j=i+1:=⟨j - 1,by omega⟩;exact I i y
 ·rintro ⟨h1,I⟩
  refine ⟨fun x J=>?_,fun i hi=>I (i+1) hi hi (by omega)⟩;obtain ⟨j,y,rfl⟩:=List.mem_iff_getElem.1 J;exact h1 j y y
theorem TV {xs:List A} (H:NV xs xs.length):okB xs=true:=(E5 xs).2 ⟨fun j y hk=>(H j y hk).1,fun j y hk=>(H j y hk).2⟩
theorem Nj {xs:List A} {k:Nat} (hk:k < xs.length) (h:aW xs[k]=false):okB xs=false:=by
 rw [Bool.eq_false_iff]; intro ha
 have:=((E5 xs).1 ha).1 k hk hk;rw [h] at this; cases this
theorem Qk {xs:List A} {k:Nat} (hk:k+1 < xs.length) (h:¬ dJ xs[k] xs[k+1] < 0):okB xs=false:=by
 rw [Bool.eq_false_iff]; intro ha
 exact h (((E5 xs).1 ha).2 (k+1) hk hk (by omega))
theorem TW {xs:List A} (H:AU xs xs.length):iF xs=true:=(vY xs).2 fun i hi=>H (i+1) hi hi (by omega)
theorem AV (xs:List A):lT xs=(okB xs && decide (xs.length≤300)):=by
 unfold lT okB; cases decide (xs.length≤300) <;> simp
variable {w:World} {Ad:Option Addr} {len cap:Nat} {bs:List Nat} {k:Nat}
theorem DY {xs:List A} {j:Nat} (h:aQ w [.slice Ad len cap] xs bs) (hj:j < xs.length) (hk:k < xs.length):
  ∃ b o I J bk U cf bm,Ad=some ⟨b,o,none⟩∧
   w.cell? ⟨b,o+j * 2,none⟩=some (.string xs[j].name)∧w.cell? ⟨b,o+j * 2+1,none⟩=some (.slice I xs[j].args.length J)∧aP w [.string xs[j].name,.slice I xs[j].args.length J] xs[j] bk∧
   w.cell? ⟨b,o+k * 2,none⟩=some (.string xs[k].name)∧w.cell? ⟨b,o+k * 2+1,none⟩=some (.slice U xs[k].args.length cf)∧aP w [.string xs[k].name,.slice U xs[k].args.length cf] xs[k] bm:=by
 obtain ⟨b,o,I,J,bk,rfl,_,c0,c1,a0,_⟩:=dQ h hj;obtain ⟨b',o',U,cf,bm,e,_,d0,d1,y,_⟩:=dQ h hk;cases e;exact ⟨b,o,I,J,bk,U,cf,bm,rfl,c0,c1,a0,d0,d1,y⟩
end
section
theorem kS {a b d:A} (h1:dJ a b < 0) (y:dJ b d≤0):dJ a d < 0:=by
 rw [jP] at *;exact (lS gK).nG h1 y
theorem AX {xs:List A} (y:iF xs=true) {i j:Nat} (I:j < xs.length) (J:i < j):dJ (xs[i]'(by omega)) xs[j] < 0:=by
 induction j with
 | zero=>omega
 | succ j ih=>
  have h1:=(vY xs).1 y j I;by_cases e:i=j
  ·subst e; exact h1
  ·exact kS (ih (by omega) (by omega)) (by omega)
def G9 (a x:A):Bool:=decide (dJ x a < 0)
def pl (xs:List A) (a:A):Nat:=xs.countP (G9 a)
def hasB (xs:List A) (a:A):Bool:=xs.any (fun x=>decide (dJ x a=0))
def E8 (xs:List A) (a:A) (k:Nat):Prop:=∀ j (h:j < xs.length),j < k→dJ xs[j] a < 0
theorem DZ (xs:List A) (a:A):E8 xs a 0:=fun _ _ h=>absurd h (Nat.not_lt_zero _)
theorem N7 {xs:List A} {a:A} {k:Nat} (H:E8 xs a k) (hk:k < xs.length) (h:dJ xs[k] a < 0):E8 xs a (k+1):=fun j y I=>by
 by_cases e:j=k
 ·subst e; exact h
 ·exact H j y (by omega)
theorem He {xs:List A} {a:A} {k:Nat} (y:iF xs=true) (hk:k < xs.length) (h:¬ dJ xs[k] a < 0) {j:Nat} (I:j < xs.length) (J:k≤j):¬ dJ xs[j] a < 0:=fun hc=>by
 by_cases e:k=j
 ·subst e; exact h hc
 ·exact h (kS (AX y I (by omega)) (by omega))
theorem AY {xs:List A} {a:A} {k:Nat} (U:iF xs=true) (hk:k≤xs.length) (h1:E8 xs a k) (h2:∀ h:k < xs.length,¬ dJ xs[k] a < 0):k=pl xs a:=by
 unfold pl
 conv=>rhs; rw [← List.take_append_drop k xs]
 rw [List.countP_append,List.countP_eq_length.2,List.countP_eq_zero.2]
 ·simp; omega
 ·intro y I
  obtain ⟨j,J,rfl⟩:=List.mem_iff_getElem.1 I;rw [List.length_drop] at J;rw [List.getElem_drop];have:=He U (by omega) (h2 (by omega)) (j:=k+j) (by omega) (by omega);simp [G9]; omega
 ·intro y I
  obtain ⟨j,J,rfl⟩:=List.mem_iff_getElem.1 I;rw [List.length_take] at J;rw [List.getElem_take];simp only [G9,decide_eq_true_eq];exact h1 j (by omega) (by omega)
theorem Ql {xs:List A} {a:A} {k:Nat} (U:iF xs=true) (hk:k < xs.length) (h1:E8 xs a k) (h2:¬ dJ xs[k] a < 0):hasB xs a=decide (dJ xs[k] a=0):=by
 by_cases hc:dJ xs[k] a=0
 ·rw [decide_eq_true hc]; unfold hasB; rw [List.any_eq_true]; exact ⟨_,δ hk,by simpa using hc⟩
 ·rw [decide_eq_false hc]; unfold hasB; rw [List.any_eq_false]
  intro y hy I;obtain ⟨j,J,rfl⟩:=List.mem_iff_getElem.1 hy;simp only [decide_eq_true_eq] at I
  rcases Nat.lt_trichotomy j k with h | h | h
  ·have:=h1 j J h; omega
  ·subst h; exact hc I
  ·exact h2 (kS (AX U J h) (by omega))
theorem Nk {xs:List A} {a:A} (h1:E8 xs a xs.length):hasB xs a=false:=by
 unfold hasB; rw [List.any_eq_false]
 intro y U I;obtain ⟨j,J,rfl⟩:=List.mem_iff_getElem.1 U;simp only [decide_eq_true_eq] at I;have:=h1 j J J; omega
end
section
end
section
def meets (xs ys:List A):Bool:=xs.any (hasB ys)
end
end D
end
section
open Go.RowKit D
namespace D
theorem yj (a b:A):dJ b a = - dJ a b:=by rw [jP,jP]; exact (lS gK).anti _ _
theorem mD {x:A} {xs:List A} (h:iF (x :: xs)=true):∀ y ∈ xs,dJ x y < 0:=by
 intro y I;obtain ⟨j,J,rfl⟩:=List.mem_iff_getElem.1 I;exact AX h (i:=0) (j:=j+1) (by simp; omega) (by omega)
theorem oK {x:A} {xs:List A} (h:iF (x :: xs)=true):iF xs=true:=by
 cases xs with
 | nil=>rfl
 | cons y ys=>simp only [iF,ο] at h; exact h.2
theorem Hf {ys:List A} {x:A} (h:∀ y ∈ ys,dJ x y < 0):hasB ys x=false:=by
 unfold hasB; rw [List.any_eq_false]
 intro y I hc;have:=h y I;simp only [decide_eq_true_eq] at hc;rw [yj y x] at this;omega
end D
end
section
open Go.RowKit D
namespace D
theorem Fa:vX (jI fA):=lS gK
theorem N8 (a b:A):dJ a b = -1∨dJ a b=0∨dJ a b=1:=by rw [jP]; exact Fa.vals _ _
theorem vZ (a b:A):dJ a b=0 ↔ qJ a=qJ b:=by rw [jP]; exact Fa.eq _ _
theorem sD (a:A):dJ a a=0:=(vZ a a).2 rfl
theorem kT {a b:A} (h:dJ a b=0) (x:A):dJ x a=dJ x b:=by
 rw [jP,jP,(vZ a b).1 h]
theorem tX {xs:List A} {a b:A} (h:dJ a b=0):hasB xs a=hasB xs b:=by
 unfold hasB; congr 1; funext x; rw [kT h]
theorem Fe {y:List T} (h:jU y=false):∀ t ∈ y,t.var=false:=by
 intro t I;have:=List.any_eq_false.1 h t I;simpa using this
theorem yt:∀ {y us:List T},(∀ t ∈ y,t.var=false)→(∀ t ∈ us,t.var=false)→y.map (·.name)=us.map (·.name)→y=us
 | [],[],_,_,_=>rfl
 | [],_ :: _,_,_,h=>by simp at h
 | _ :: _,[],_,_,h=>by simp at h
 | ⟨v,n⟩ :: y,⟨v',n'⟩ :: us,h1,h2,h=>by
  simp only [List.map_cons,List.cons.injEq] at h;have J:=h1 _ Γ;have U:=h2 _ Γ;dsimp only at J U;obtain ⟨rfl,h⟩:=h;rw [J,U,yt (fun t I=>h1 t (Δ _ I)) (fun t I=>h2 t (Δ _ I)) h]
theorem yu {a:A} (h:aW a=true):∀ t ∈ a.args,t.var=false:=by
 unfold aW at h;simp only [ο,Bool.not_eq_true'] at h;exact Fe h.2
theorem TY {a b:A} (ha:aW a=true) (y:aW b=true) (h:dJ a b=0):a=b:=by
 have:=(vZ a b).1 h;unfold qJ at this;simp only [List.cons.injEq] at this;obtain ⟨n,I⟩:=a;obtain ⟨m,us⟩:=b;dsimp only at *;obtain ⟨rfl,J⟩:=this;have e:I=us:=yt (yu ha) (yu y) J;rw [e]
theorem lg {xs:List A} {a:A} (h:a ∈ xs):hasB xs a=true:=by
 unfold hasB; rw [List.any_eq_true]; exact ⟨a,h,by simp [sD]⟩
theorem mF {xs:List A} {a:A}:hasB xs a=true ↔ ∃ x ∈ xs,dJ x a=0:=by
 unfold hasB; simp [List.any_eq_true]
theorem yw (x:A) (xs:List A) (a:A):hasB (x :: xs) a=(decide (dJ x a=0) || hasB xs a):=by simp [hasB]
theorem zh (xs ys:List A) (a:A):hasB (xs ++ ys) a=(hasB xs a || hasB ys a):=by simp [hasB]
theorem AZ {x:A} {xs:List A} (h:∀ y ∈ xs,dJ x y < 0) (I:iF xs=true):iF (x :: xs)=true:=by
 cases xs with
 | nil=>rfl
 | cons y ys=>simp only [iF,ο,decide_eq_true_eq]; exact ⟨h y Γ,I⟩
theorem Ba:∀ {xs ys:List A},iF xs=true→iF ys=true→(∀ x ∈ xs,∀ y ∈ ys,dJ x y < 0)→iF (xs ++ ys)=true
 | [],ys,_,h,_=>h
 | x :: xs,ys,h1,h2,h=>by
  refine AZ (fun z I=>?_) (Ba (oK h1) h2 fun z I y J=>h z (Δ _ I) y J)
  rcases μ.1 I with I | I
  ·exact mD h1 z I
  ·exact h x Γ z I
theorem Nl {xs ys:List A} (h:iF ys=true) (I:List.Sublist xs ys):iF xs=true:=by
 induction I with
 | slnil=>rfl
 | cons a _ ih=>exact ih (oK h)
 | cons_cons a I ih=>exact AZ (fun y J=>mD h y (I.subset J)) (ih (oK h))
theorem Np:∀ {xs ys:List A},iF xs=true→iF ys=true→(∀ x ∈ xs,aW x=true)→(∀ x ∈ ys,aW x=true)→(∀ a,hasB xs a=hasB ys a)→xs=ys
 | [],[],_,_,_,_,_=>rfl
 | [],y :: ys,_,_,_,_,h=>by have:=h y; rw [lg Γ] at this; simp [hasB] at this
 | x :: xs,[],_,_,_,_,h=>by have:=h x; rw [lg Γ] at this; simp [hasB] at this
 | x :: xs,y :: ys,hx,hy,fx,fy,h=>by
  have h1:dJ y x≤0:=by
   obtain ⟨z,I,hc⟩:=mF.1 ((h x).symm.trans (lg Γ))
   rcases ύ.1 I with rfl | I
   ·omega
   ·have:=mD hy z I
    rw [kT hc] at this; omega
  have J:dJ x y≤0:=by
   obtain ⟨z,I,hc⟩:=mF.1 ((h y).trans (lg Γ))
   rcases ύ.1 I with rfl | I
   ·omega
   ·have:=mD hx z I
    rw [kT hc] at this; omega
  have U:=yj x y;obtain rfl:=TY (fx x Γ) (fy y Γ) (by omega);rw [Np (oK hx) (oK hy) (fun z I=>fx z (Δ _ I)) (fun z I=>fy z (Δ _ I)) fun a=>?_];have:=h a;rw [yw,yw] at this;by_cases hc:dJ x a=0
  ·rw [← tX hc,← tX hc,Hf (mD hx),Hf (mD hy)]
  ·simpa [hc] using this
def fC (xs:List A) (a:A):List A:=if hasB xs a then xs else xs.take (pl xs a) ++ a :: xs.drop (pl xs a)
theorem oL:∀ {xs:List A} (I:iF xs=true) (a:A),(∀ x ∈ xs.take (pl xs a),dJ x a < 0)∧(∀ x ∈ xs.drop (pl xs a),¬ dJ x a < 0)∧pl xs a≤xs.length
 | [],_,a=>by simp [pl]
 | x :: xs,I,a=>by
  obtain ⟨h1,U,h3⟩:=oL (oK I) a;by_cases hc:dJ x a < 0
  ·have:pl (x :: xs) a=pl xs a+1:=by unfold pl; rw [List.countP_cons_of_pos (by simpa [G9] using hc)]
   rw [this];refine ⟨fun z y=>?_,fun z y=>U z (by simpa using y),by simpa using h3⟩;rw [List.take_succ_cons] at y
   rcases ύ.1 y with rfl | y
   ·exact hc
   ·exact h1 z y
  ·have h0:∀ z ∈ x :: xs,¬ dJ z a < 0:=by
    intro z y J
    rcases ύ.1 y with rfl | y
    ·exact hc J
    ·exact hc (kS (mD I z y) (by omega))
   have:pl (x :: xs) a=0:=by unfold pl; rw [List.countP_eq_zero]; intro z y; have:=h0 z y; simp [G9]; omega
   rw [this];exact ⟨fun z y=>by simp at y,fun z y=>h0 z (by simpa using y),by simp⟩
theorem Kz (xs:List A) (n:Nat) (b:A):hasB xs b=(hasB (xs.take n) b || hasB (xs.drop n) b):=by
 conv=>lhs; rw [← List.take_append_drop n xs]
 exact zh _ _ _
theorem Qm (xs:List A) (a b:A):hasB (fC xs a) b=(hasB xs b || decide (dJ a b=0)):=by
 unfold fC
 split
 ·rename_i h
  by_cases hc:dJ a b=0
  ·rw [← tX hc,h]; rfl
  ·simp [hc]
 ·rw [zh,yw,Kz xs (pl xs a) b]
  cases hasB (xs.take (pl xs a)) b <;> cases hasB (xs.drop (pl xs a)) b <;> simp
theorem Fg {xs:List A} (J:iF xs=true) (a:A):iF (fC xs a)=true:=by
 unfold fC
 split
 ·exact J
 ·rename_i h
  obtain ⟨h1,h2,_⟩:=oL J a
  have h3:∀ x ∈ xs.drop (pl xs a),dJ a x < 0:=by
   intro x I;have g1:=h2 x I;have g2:dJ x a ≠ 0:=fun e=>h (mF.2 ⟨x,List.mem_of_mem_drop I,e⟩)
   have:=yj x a;have:=N8 x a;omega
  refine Ba (Nl J (List.take_sublist _ _)) (AZ h3 (Nl J (List.drop_sublist _ _))) fun x I y U=>?_
  rcases ύ.1 U with rfl | U
  ·exact h1 x I
  ·exact kS (h1 x I) (by have:=h3 y U; omega)
theorem Nq {xs:List A} {a x:A} (h:x ∈ fC xs a):x ∈ xs∨x=a:=by
 unfold fC at h
 split at h
 ·exact .inl h
 ·rcases μ.1 h with h | h
  ·exact .inl (List.mem_of_mem_take h)
  ·rcases ύ.1 h with rfl | h
   ·exact .inr rfl
   ·exact .inl (List.mem_of_mem_drop h)
end D
end
section
open Go.RowKit D
namespace D
def Bc {α:Type} (n:Nat) (R:Rel α):Prop:=∀ {w cs x bs},R w cs x bs→cs.length=n∧∀ u ∈ cs,Value.oneCell' u=true
theorem tY:Bc 2 kQ:=fun h=>by obtain ⟨rfl,_⟩:=h; simp [Value.oneCell']
theorem fM:Bc 2 aP:=fun h=>by
 obtain ⟨s,rfl,_,y⟩:=h;obtain ⟨Ad,cap,rfl,_⟩:=ai y;simp [Value.oneCell']
theorem Bf:Bc 3 jk:=fun h=>by
 obtain ⟨s,b,_,_,rfl,_,_,I,J⟩:=h;obtain ⟨Ad,cap,rfl,_⟩:=ai I;obtain ⟨U,y,rfl,_⟩:=ai J;simp [Value.oneCell']
theorem iY:Bc 1 jy:=fun h=>by obtain ⟨rfl,_⟩:=h; simp [Value.oneCell']
structure aV {α:Type} (n:Nat) (R:Rel α) (w:World) (L:List Value) (xs:List α) (bs:List Nat):Prop where
 len:L.length=xs.length * n
 one:∀ u ∈ L,Value.oneCell' u=true
 at_:∃ G:Nat→List Nat,bs=(List.range xs.length).flatMap G∧∀ j (h:j < xs.length),R w ((L.drop (j * n)).take n) xs[j] (G j)
theorem aV.nil {α:Type} {n:Nat} {R:Rel α} {w:World}:aV n R w [] [] []:=⟨by simp,fun u y=>by simp at y,fun _=>[],rfl,fun j h=>absurd h (Nat.not_lt_zero _)⟩
theorem aV.keep {α:Type} {n:Nat} {R:Rel α} (g:Good R) {w w':World} {L:List Value} {xs:List α} {bs:List Nat} (h:aV n R w L xs bs) (hk:∀ b ∈ bs,w'.heap[b]? = w.heap[b]?):aV n R w' L xs bs:=by
 obtain ⟨h1,I,G,rfl,J⟩:=h;exact ⟨h1,I,G,rfl,fun j y=>g.keep (J j y) fun b U=>hk b (List.mem_flatMap.2 ⟨j,List.mem_range.2 y,U⟩)⟩
theorem aV.lt {α:Type} {n:Nat} {R:Rel α} (g:Good R) {w:World} {L:List Value} {xs:List α} {bs:List Nat} (h:aV n R w L xs bs):∀ b ∈ bs,b < w.heap.size:=by
 obtain ⟨h1,U,G,rfl,I⟩:=h;intro b y;obtain ⟨j,J,y⟩:=List.mem_flatMap.1 y;exact g.lt (I j (List.mem_range.1 J)) b y
theorem aV.below {α:Type} {n:Nat} {R:Rel α} (g:Good R) {w w':World} {L:List Value} {xs:List α} {bs:List Nat} (h:aV n R w L xs bs) (I:Below w.heap.size w w'):aV n R w' L xs bs:=
 h.keep g fun b y=>I.block b (h.lt g b y)
theorem aV.dY {α:Type} {n:Nat} {R:Rel α} (o:Bc n R) {w:World} {cs:List Value} {x:α} {bs:List Nat} (h:R w cs x bs):aV n R w cs [x] bs:=by
 refine ⟨by rw [(o h).1]; simp,(o h).2,fun _=>bs,by simp,fun j y=>?_⟩;obtain rfl:j=0:=by simpa using y
 simp only [Nat.zero_mul,List.drop_zero,List.getElem_cons_zero];rw [ϕ (by rw [(o h).1]; omega)];exact h
theorem aV.append {α:Type} {n:Nat} {R:Rel α} {w:World} {L M:List Value} {xs ys:List α} {J b2:List Nat} (h:aV n R w L xs J) (k:aV n R w M ys b2):aV n R w (L ++ M) (xs ++ ys) (J ++ b2):=by
 obtain ⟨h1,U,G,rfl,h3⟩:=h;obtain ⟨k1,k2,H,rfl,k3⟩:=k;refine ⟨by rw [χ,χ,h1,k1,Nat.add_mul],fun u hu=>(μ.1 hu).elim (U u) (k2 u),fun j=>if j < xs.length then G j else H (j - xs.length),?_,fun j I=>?_⟩
 ·rw [χ,List.range_add,List.flatMap_append]
  congr 1
  ·rw [List.flatMap_def,List.flatMap_def]; congr 1
   exact List.map_congr_left fun j I=>by rw [if_pos (List.mem_range.1 I)]
  ·rw [List.flatMap_map,List.flatMap_def,List.flatMap_def]; congr 1
   exact List.map_congr_left fun j I=>by
    show H j=if xs.length+j < xs.length then G (xs.length+j) else H (xs.length+j - xs.length)
    rw [if_neg (by omega),Nat.add_sub_cancel_left]
 ·rw [χ] at I
  by_cases y:j < xs.length
  ·simp only [if_pos y]
   have hm:j * n+n≤xs.length * n:=by
    have:=Nat.mul_le_mul_right n (show j+1≤xs.length by omega);rw [Nat.add_mul,Nat.one_mul] at this; exact this
   rw [List.drop_append_of_le_length (by omega),List.take_append_of_le_length (by rw [List.length_drop]; omega),List.getElem_append_left y];exact h3 j y
  ·simp only [if_neg y]
   have hm:xs.length * n≤j * n:=Nat.mul_le_mul_right n (by omega);rw [List.getElem_append_right (by omega),List.drop_append,List.drop_of_length_le (by omega),List.nil_append,h1,← Nat.sub_mul];exact k3 (j - xs.length) (by omega)
theorem aV.take {α:Type} {n:Nat} {R:Rel α} {w:World} {L:List Value} {xs:List α} {bs:List Nat} (h:aV n R w L xs bs) {k:Nat} (hk:k≤xs.length):∃ b2,aV n R w (L.take (k * n)) (xs.take k) b2∧∀ b ∈ b2,b ∈ bs:=by
 obtain ⟨h1,U,G,rfl,h3⟩:=h;have y:k * n≤xs.length * n:=Nat.mul_le_mul_right n hk;refine ⟨_,⟨by simp only [List.length_take]; rw [h1,Nat.min_eq_left y,Nat.min_eq_left hk],fun u hu=>U u (List.mem_of_mem_take hu),G,rfl,fun j I=>?_⟩,fun b J=>?_⟩
 ·have a0:j < k:=by simp at I; omega
  have hm:j * n+n≤k * n:=by
   have:=Nat.mul_le_mul_right n (show j+1≤k by omega);rw [Nat.add_mul,Nat.one_mul] at this; exact this
  rw [List.drop_take,List.take_take,Nat.min_eq_left (by omega),List.getElem_take];exact h3 j (by omega)
 ·obtain ⟨j,I,J⟩:=List.mem_flatMap.1 J
  have:=List.mem_range.1 I;exact List.mem_flatMap.2 ⟨j,List.mem_range.2 (by simp at this; omega),J⟩
theorem aV.drop {α:Type} {n:Nat} {R:Rel α} {w:World} {L:List Value} {xs:List α} {bs:List Nat} (h:aV n R w L xs bs) {k:Nat} (hk:k≤xs.length):∃ b2,aV n R w (L.drop (k * n)) (xs.drop k) b2∧∀ b ∈ b2,b ∈ bs:=by
 obtain ⟨h1,J,G,rfl,U⟩:=h;refine ⟨_,⟨by simp only [List.length_drop]; rw [h1,Nat.sub_mul],fun u hu=>J u (List.mem_of_mem_drop hu),fun j=>G (k+j),rfl,fun j y=>?_⟩,fun b I=>?_⟩
 ·rw [List.drop_drop,← Nat.add_mul,List.getElem_drop]
  exact U (k+j) (by simp at y; omega)
 ·obtain ⟨j,y,I⟩:=List.mem_flatMap.1 I
  have:=List.mem_range.1 y;exact List.mem_flatMap.2 ⟨k+j,List.mem_range.2 (by simp at this; omega),I⟩
theorem Nr {n:Nat} {F:Nat→List Value}:∀ {m:Nat},(∀ k,k < m→(F k).length=n)→((List.range m).flatMap F).length=m * n∧∀ k i,k < m→i < n→((List.range m).flatMap F)[k * n+i]? = (F k)[i]?
 | 0,_=>⟨by simp,fun k i hk=>absurd hk (Nat.not_lt_zero _)⟩
 | m+1,h=>by
  obtain ⟨h1,y⟩:=Nr (m:=m) fun k hk=>h k (by omega)
  rw [List.range_succ,List.flatMap_append];simp only [List.flatMap_cons,List.flatMap_nil,List.append_nil];refine ⟨by rw [χ,h1,h m (by omega),Nat.add_mul,Nat.one_mul],fun k i hk hi=>?_⟩;by_cases e:k=m
  ·subst e
   rw [List.getElem?_append_right (by omega),h1,Nat.add_sub_cancel_left]
  ·have hm:k * n+n≤m * n:=by
    have:=Nat.mul_le_mul_right n (show k+1≤m by omega);rw [Nat.add_mul,Nat.one_mul] at this; exact this
   rw [List.getElem?_append_left (by omega)];exact y k i (by omega) hi
theorem tZ {α:Type} {n:Nat} {R:Rel α} (o:Bc n R) (hn:0 < n) {w:World} {Ad:Option Addr} {len cap:Nat} {xs:List α} {bs:List Nat} (h:fK n R w [.slice Ad len cap] xs bs):
  ∃ L b2,aV n R w L xs b2∧(∀ b ∈ b2,b ∈ bs)∧(xs ≠ []→∃ b o,Ad=some ⟨b,o,none⟩∧b ∈ bs∧∀ j u,L[j]? = some u→w.cell? ⟨b,o+j,none⟩=some u):=by
 obtain ⟨a2,a1,J,hl,hm,h0,h1⟩:=h;by_cases U:xs = []
 ·subst U
  exact ⟨[],[],aV.nil,fun b hb=>by simp at hb,fun h=>absurd rfl h⟩
 ·simp only [List.cons.injEq,Value.slice.injEq,and_true] at J
  obtain ⟨rfl,rfl,rfl⟩:=J;obtain ⟨b,o',rfl,F,G,rfl,hF⟩:=h1 U;have hlen:∀ k,k < xs.length→(F k).length=n:=fun k hk=>(hF k _ (Ψ hk)).1
  obtain ⟨f1,f2⟩:=Nr hlen
  have y:∀ k,k < xs.length→(((List.range xs.length).flatMap F).drop (k * n)).take n=F k:=by
   intro k hk;refine List.ext_getElem? fun i=>?_
   by_cases hi:i < n
   ·rw [List.getElem?_take_of_lt hi,List.getElem?_drop]; exact f2 k i hk hi
   ·rw [List.getElem?_eq_none (by rw [List.length_take]; omega),List.getElem?_eq_none (by rw [hlen k hk]; omega)]
  refine ⟨(List.range xs.length).flatMap F,(List.range xs.length).flatMap G,⟨f1,fun u I=>?_,G,rfl,fun j hj=>?_⟩,fun c hc=>Δ _ hc,fun _=>⟨b,o',rfl,by simp,fun j u I=>?_⟩⟩
  ·obtain ⟨k,hk,I⟩:=List.mem_flatMap.1 I
   exact (o (hF k _ (Ψ (List.mem_range.1 hk))).2.2).2 u I
  ·rw [y j hj]; exact (hF j _ (Ψ hj)).2.2
  ·have a0:=(List.getElem?_eq_some_iff.1 I).1
   rw [f1] at a0;have hk:j / n < xs.length:=(Nat.div_lt_iff_lt_mul hn).2 a0;have hi:=Nat.mod_lt j hn;have e:j / n * n+j % n=j:=by rw [Nat.mul_comm]; exact Nat.div_add_mod j n
   rw [← e,f2 _ _ hk hi] at I;have:=(hF (j / n) _ (Ψ hk)).2.1 (j % n) u I;rw [e] at this; exact this
theorem aV.slice {α:Type} {n:Nat} {R:Rel α} {w:World} {L:List Value} {xs:List α} {bs:List Nat} (h:aV n R w L xs bs) {base e:Nat} {v:Value} (I:w.ownsRow base e n v xs.length L):
  ∃ b2,fK n R w [v] xs b2∧∀ b ∈ b2,base≤b∨b ∈ bs:=by
 obtain ⟨h1,_,G,rfl,h3⟩:=h
 rcases I.2 with ⟨rfl,hL⟩ | ⟨g,cap,a4,rfl,hg,hh,U,a0,a5⟩
 ·have hx:xs = []:=by
   by_cases y:xs = []
   ·exact y
   ·exfalso
    have a1:0 < xs.length:=List.length_pos_iff.2 y
    first
     | (rw [hL] at a1; omega)
     | omega
  subst hx;exact ⟨[],⟨none,0,rfl,ε,ε,fun _=>rfl,fun h=>absurd rfl h⟩,fun b J=>by simp at J⟩
 ·by_cases y:xs = []
  ·subst y
   exact ⟨[],⟨_,cap,rfl,U,a0,fun _=>rfl,fun h=>absurd rfl h⟩,fun b J=>by simp at J⟩
  ·refine ⟨g :: (List.range xs.length).flatMap G,⟨_,cap,rfl,U,a0,fun h=>absurd h y,fun _=>⟨g,0,rfl,fun k=>(L.drop (k * n)).take n,G,rfl,fun k x hx=>?_⟩⟩,fun b J=>?_⟩
   ·obtain ⟨a2,rfl⟩:=List.getElem?_eq_some_iff.1 hx
    have hmul:k * n+n≤xs.length * n:=by
     have:=Nat.mul_le_mul_right n (show k+1≤xs.length by omega);rw [Nat.add_mul,Nat.one_mul] at this; exact this
    refine ⟨by simp; omega,fun j v hv=>?_,h3 k a2⟩
    have a3:j < n:=by
     have:=(List.getElem?_eq_some_iff.1 hv).1;simp at this; omega
    rw [List.getElem?_take_of_lt a3,List.getElem?_drop] at hv;rw [Nat.zero_add,I.cellAt (k * n+j) (by omega)];exact hv
   ·rcases ύ.1 J with rfl | J
    ·exact .inl hg
    ·exact .inr J
end D
end
section
open Go.RowKit D
namespace D
variable {P:Program}
theorem addr_add (b o j:Nat):(⟨b,o,none⟩:Addr).add j=⟨b,o+j,none⟩:=by unfold Addr.add; split <;> simp_all
theorem lX {w:World} {base e size n:Nat} {v:Value} {L:List Value} (h:w.ownsRow base e size v n L):∃ A cap,v=.slice A n cap:=by
 rcases h.2 with ⟨rfl,rfl⟩ | ⟨g,cap,_,rfl,_⟩
 ·exact ⟨none,0,rfl⟩
 ·exact ⟨_,cap,rfl⟩
theorem Hg (w:World) (base:Nat) (t U e:TypeId) (i:TypeInfo) (size:Nat) (J:P.underlying t=some (.slice e)) (hi:P.info? e=some i)
  (v:Value) (n:Nat) (xs:List Value) (y:w.ownsRow base e size v n xs) (c:Nat):(Builtin.append_ #[t,t] U #[v,.slice none 0 c]).run P w=.ok v w:=by
 rcases y.2 with ⟨rfl,rfl⟩ | ⟨g,cap,a0,rfl,_,_,I,_⟩
 ·simp [Builtin.append_,run_underlying J,sizeOf,typeInfo,hi,Builtin.lenOf,Builtin.firstCells]
 ·simp [Builtin.append_,run_underlying J,sizeOf,typeInfo,hi,Builtin.lenOf,Builtin.firstCells,I,storeCells]
def Lies (w:World) (Ad:Option Addr) (news:List Value):Prop:=∀ j u,news[j]? = some u→∃ ad,Ad=some ad∧w.cell? (ad.add j)=some u
theorem Lies.nil (w:World) (Ad:Option Addr):Lies w Ad []:=fun j u h=>by simp at h
theorem Lies.mk {w:World} {b o:Nat} {news:List Value} (h:∀ j u,news[j]? = some u→w.cell? ⟨b,o+j,none⟩=some u):Lies w (some ⟨b,o,none⟩) news:=fun j u y=>⟨_,rfl,by rw [addr_add]; exact h j u y⟩
theorem Ua (w:World) (base:Nat) (t ty e:TypeId) (i:TypeInfo) (z:Value) (size bytes:Nat) (ht:P.underlying t=some (.slice e)) (hi:P.info? e=some i) (hz:i.zero=some z)
  (U:i.size=size) (a3:i.bytes=bytes) (a4:z.cells.size=size) (a1:0 < size)
  (v:Value) (n:Nat) (xs:List Value) (y:w.ownsRow base e size v n xs)
  (Ad:Option Addr) (m c:Nat) (news:List Value) (hl:news.length=m * size) (I:Lies w Ad news) (h1:∀ u ∈ news,Value.oneCell' u=true)
  (a5:n+m≤maxLen) (J:(n+m) * bytes≤140737488355328) (a0:base≤w.heap.size):
  ∃ A cap w',(Builtin.append_ #[t,t] ty #[v,.slice Ad m c]).run P w=.ok (.slice A (n+m) cap) w'∧w'.ownsRow base e size (.slice A (n+m) cap) (n+m) (xs ++ news)∧w.grownBy w' v.ownBlock∧
   ((Value.slice A (n+m) cap).ownBlock=v.ownBlock∨(Value.slice A (n+m) cap).ownBlock=some w.heap.size):=by
 cases Ad with
 | none=>
  have hm:m=0:=by
   rcases Nat.eq_zero_or_pos m with h | h
   ·exact h
   ·exfalso
    have a2:0 < news.length:=by rw [hl]; exact Nat.mul_pos h a1
    obtain ⟨ad,h,_⟩:=I 0 _ (Ψ a2);cases h
  subst hm;obtain rfl:news = []:=List.length_eq_zero_iff.1 (by rw [hl]; simp);obtain ⟨A,cap,rfl⟩:=lX y;exact ⟨A,cap,w,Hg w base t ty e i size ht hi _ n xs y c,by rw [List.append_nil]; exact y,⟨rfl,rfl,rfl,ν,fun _ _ _=>rfl⟩,.inl rfl⟩
 | some ad=>
  obtain ⟨v',w',hr,h2,h3,_,h5⟩:=run_append_own_at (P:=P) w base t ty e i z size bytes ht hi hz U a3 a4 a1 v n xs y ad m c news hl
   (fun j u hj=>by obtain ⟨a6,h,h'⟩:=I j u hj; cases h; exact h') h1 a5 J a0
  obtain ⟨A,cap,rfl⟩:=lX h2;exact ⟨A,cap,w',hr,h2,h3,h5⟩
theorem Qn {w:World} {o:Oper} {a:Act} {K:Act→World→Prop} {Q:Exit→Act→World→Prop} (s x:Operand) (t:TypeId)
  (ho:o.op=.call { callee:=.builtin .append,args:=#[s,x],argTypes:=#[t,t] })
  (base:Nat) (e:TypeId) (i:TypeInfo) (z:Value) (size bytes:Nat) (ht:P.underlying t=some (.slice e)) (hi:P.info? e=some i) (hz:i.zero=some z)
  (I:i.size=size) (a1:i.bytes=bytes) (a2:z.cells.size=size) (a3:0 < size)
  (v:Value) (n:Nat) (xs:List Value) (hs:a.eval s=v) (a0:w.ownsRow base e size v n xs)
  (Ad:Option Addr) (m c:Nat) (news:List Value) (hx:a.eval x=.slice Ad m c) (hl:news.length=m * size) (J:Lies w Ad news) (h1:∀ u ∈ news,Value.oneCell' u=true)
  (a4:n+m≤maxLen) (y:(n+m) * bytes≤140737488355328) (U:base≤w.heap.size)
  (h:∀ A cap w',w'.ownsRow base e size (.slice A (n+m) cap) (n+m) (xs ++ news)→w.grownBy w' v.ownBlock→((Value.slice A (n+m) cap).ownBlock=v.ownBlock∨(Value.slice A (n+m) cap).ownBlock=some w.heap.size)→K (a.put o.dst (.slice A (n+m) cap)) w'):o.wp P a w K Q:=by
 obtain ⟨A,cap,w',hr,h2,h3,h4⟩:=Ua (P:=P) w base t o.type e i z size bytes ht hi hz I a1 a2 a3 v n xs a0 Ad m c news hl J h1 a4 y U;unfold Oper.wp execOp;simp only [ho,resolve,invoke,builtin,Sem.run_bind,Sem.run_pure,Result.andThen_ok,List.map_toArray,List.map_cons,List.map_nil,hs,hx,hr];exact h A cap w' h2 h3 h4
theorem pO {w:World} {a0:Array Oper} {rest:List Oper} {o:Oper} {a:Act} {Q:Exit→Act→World→Prop} (a2:o.guard=none) (s x:Operand) (t:TypeId)
  (ho:o.op=.call { callee:=.builtin .append,args:=#[s,x],argTypes:=#[t,t] })
  (base:Nat) (e:TypeId) (i:TypeInfo) (z:Value) (size bytes:Nat) (ht:P.underlying t=some (.slice e)) (hi:P.info? e=some i) (hz:i.zero=some z)
  (I:i.size=size) (a3:i.bytes=bytes) (a4:z.cells.size=size) (a5:0 < size)
  (v:Value) (n:Nat) (xs:List Value) (hs:a.eval s=v) (a1:w.ownsRow base e size v n xs)
  (Ad:Option Addr) (m c:Nat) (news:List Value) (hx:a.eval x=.slice Ad m c) (hl:news.length=m * size) (J:Lies w Ad news) (h1:∀ u ∈ news,Value.oneCell' u=true)
  (a6:n+m≤maxLen) (y:(n+m) * bytes≤140737488355328) (U:base≤w.heap.size)
  (h:∀ A cap w',w'.ownsRow base e size (.slice A (n+m) cap) (n+m) (xs ++ news)→w.grownBy w' v.ownBlock→((Value.slice A (n+m) cap).ownBlock=v.ownBlock∨(Value.slice A (n+m) cap).ownBlock=some w.heap.size)→wpList P a0 Q rest (a.put o.dst (.slice A (n+m) cap)) w'):wpList P a0 Q (o :: rest) a w:=
 wpList_plain a2 fun _ hK=>Qn s x t ho base e i z size bytes ht hi hz I a3 a4 a5 v n xs hs a1 Ad m c news hx hl J h1 a6 y U fun A cap w' h2 h3 h4=>hK _ _ (h A cap w' h2 h3 h4)
theorem gG {w:World} {a0:Array Oper} {o:Oper} {a:Act} {K:Act→World→Prop} {Q:Exit→Act→World→Prop} {E:Prop} (a2:o.guard=none) (s x:Operand) (t:TypeId)
  (ho:o.op=.call { callee:=.builtin .append,args:=#[s,x],argTypes:=#[t,t] })
  (base:Nat) (e:TypeId) (i:TypeInfo) (z:Value) (size bytes:Nat) (ht:P.underlying t=some (.slice e)) (hi:P.info? e=some i) (hz:i.zero=some z)
  (I:i.size=size) (a3:i.bytes=bytes) (a4:z.cells.size=size) (a5:0 < size)
  (v:Value) (n:Nat) (xs:List Value) (hs:a.eval s=v) (a1:w.ownsRow base e size v n xs)
  (Ad:Option Addr) (m c:Nat) (news:List Value) (hx:a.eval x=.slice Ad m c) (hl:news.length=m * size) (J:Lies w Ad news) (h1:∀ u ∈ news,Value.oneCell' u=true)
  (a6:n+m≤maxLen) (y:(n+m) * bytes≤140737488355328) (U:base≤w.heap.size)
  (h:∀ A cap w',w'.ownsRow base e size (.slice A (n+m) cap) (n+m) (xs ++ news)→w.grownBy w' v.ownBlock→((Value.slice A (n+m) cap).ownBlock=v.ownBlock∨(Value.slice A (n+m) cap).ownBlock=some w.heap.size)→K (a.put o.dst (.slice A (n+m) cap)) w'):
  if Region.wanted o (yielded a0 a.tmps)=true then Oper.wp P o a w K Q else E:=by
 have hw:Region.wanted o (yielded a0 a.tmps)=true:=by simp [Region.wanted,a2]
 rw [if_pos hw];exact Qn s x t ho base e i z size bytes ht hi hz I a3 a4 a5 v n xs hs a1 Ad m c news hx hl J h1 a6 y U h
theorem yx {w:World} {base e size g:Nat} (y:w.heap[g]? = some (.cells #[] e (0,0))) (I:base≤g):w.ownsRow base e size (.slice (some ⟨g,0,none⟩) 0 0) 0 []:=
 ⟨by simp,.inr ⟨g,0,#[],rfl,I,y,ν,ε,by simp,by simp⟩⟩
structure cu {α:Type} (n:Nat) (R:Rel α) (base e:Nat) (w:World) (v:Value) (L:List Value) (xs:List α) (bs:List Nat):Prop where
 own:w.ownsRow base e n v xs.length L
 row:aV n R w L xs bs
 far:∀ b ∈ bs,v.ownBlock ≠ some b
section
variable {α:Type} {n:Nat} {R:Rel α} {base e:Nat}
theorem cu.nil (w:World):cu n R base e w (.slice none 0 0) [] ([]:List α) []:=⟨World.ownsRow_nil _ _ _ _,aV.nil,fun b y=>by simp at y⟩
theorem cu.empty {w:World} {g:Nat} (I:w.heap[g]? = some (.cells #[] e (0,0))) (y:base≤g):cu n R base e w (.slice (some ⟨g,0,none⟩) 0 0) [] ([]:List α) []:=⟨yx I y,aV.nil,fun b y=>by simp at y⟩
theorem cu.below {w w':World} {v:Value} {L:List Value} {xs:List α} {bs:List Nat} (g:Good R) (h:cu n R base e w v L xs bs) (y:Below w.heap.size w w'):cu n R base e w' v L xs bs:=
 ⟨own_below h.own y,h.row.below g y,h.far⟩
theorem cu.slice {w:World} {v:Value} {L:List Value} {xs:List α} {bs:List Nat} (h:cu n R base e w v L xs bs):∃ b2,fK n R w [v] xs b2∧∀ b ∈ b2,base≤b∨b ∈ bs:=h.row.slice h.own
theorem cu.app {W w2:World} {v v2:Value} {L M:List Value} {xs ys:List α} {bs b3:List Nat} (g:Good R) (h:cu n R base e W v L xs bs) (k:aV n R W M ys b3) (hf:∀ b ∈ b3,v.ownBlock ≠ some b)
  (J:w2.ownsRow base e n v2 (xs.length+ys.length) (L ++ M)) (I:W.grownBy w2 v.ownBlock) (U:v2.ownBlock=v.ownBlock∨v2.ownBlock=some W.heap.size):cu n R base e w2 v2 (L ++ M) (xs ++ ys) (bs ++ b3):=by
 have h1:=h.row.append k;refine ⟨by rw [χ]; exact J,h1.keep g fun b y=>I.block b (h1.lt g b y) ?_,fun b y=>?_⟩
 ·rcases μ.1 y with y | y
  ·exact (h.far b y).symm
  ·exact (hf b y).symm
 ·have a0:v.ownBlock ≠ some b:=by
   rcases μ.1 y with y | y
   ·exact h.far b y
   ·exact hf b y
  have a1:=h1.lt g b y
  rcases U with e | e
  ·rw [e]; exact a0
  ·rw [e]; intro e; injection e; omega
theorem Fh {w:World} {size k:Nat} {v:Value} {L:List Value} (h:w.ownsRow base e size v k L) {b:Nat} (U:w.heap.size≤b):v.ownBlock ≠ some b:=by
 rcases h.2 with ⟨rfl,_⟩ | ⟨g,cap,y,rfl,_,I,_⟩
 ·simp [Value.ownBlock]
 ·intro J
  have:g=b:=by simpa [Value.ownBlock] using J
  have:=ψ I;omega
theorem aO {w:World} {size k:Nat} {v:Value} {L:List Value} (h:w.ownsRow base e size v k L) {b:Nat} (J:b < base):v.ownBlock ≠ some b:=by
 rcases h.2 with ⟨rfl,_⟩ | ⟨g,cap,y,rfl,U,_⟩
 ·simp [Value.ownBlock]
 ·intro I
  have:g=b:=by simpa [Value.ownBlock] using I
  omega
theorem gX {y w I:World} {B size k:Nat} {v:Value} {L:List Value} (U:Below B y w) (h:w.ownsRow base e size v k L) (hB:B≤base) (hs:B≤w.heap.size) (hg:w.grownBy I v.ownBlock):Below B y I:=
 U.grown hg hs fun k J=>by
  rcases h.2 with ⟨rfl,_⟩ | ⟨g,cap,a0,rfl,a1,_⟩
  ·simp [Value.ownBlock] at J
  ·have:g=k:=by simpa [Value.ownBlock] using J
   omega
end
theorem gU {α:Type} {R:Rel α} {w:World} {U:Array Oper} {rest:List Oper} {o:Oper} {a:Act} {Q:Exit→Act→World→Prop} (a1:o.guard=none) (s x:Operand) (t:TypeId)
  (ho:o.op=.call { callee:=.builtin .append,args:=#[s,x],argTypes:=#[t,t] })
  (base:Nat) (e:TypeId) (i:TypeInfo) (z:Value) (size bytes:Nat) (ht:P.underlying t=some (.slice e)) (hi:P.info? e=some i) (hz:i.zero=some z)
  (J:i.size=size) (a2:i.bytes=bytes) (a3:z.cells.size=size) (a4:0 < size) (g:Good R)
  (v:Value) (k:Nat) (L:List Value) (xs:List α) (bs:List Nat) (hs:a.eval s=v) (hC:cu size R base e w v L xs bs) (hk:xs.length=k)
  (Ad:Option Addr) (m c:Nat) (M:List Value) (ys:List α) (b3:List Nat) (hx:a.eval x=.slice Ad m c) (hR:aV size R w M ys b3) (hm:ys.length=m) (hL:Lies w Ad M) (hf:∀ b ∈ b3,v.ownBlock ≠ some b)
  (a5:k+m≤maxLen) (I:(k+m) * bytes≤140737488355328) (w0:World) (B:Nat) (hB:Below B w0 w) (a0:B≤base) (y:base≤w.heap.size)
  (h:∀ A cap w',cu size R base e w' (.slice A (k+m) cap) (L ++ M) (xs ++ ys) (bs ++ b3)→Below B w0 w'→base≤w'.heap.size→w.grownBy w' v.ownBlock→wpList P U Q rest (a.put o.dst (.slice A (k+m) cap)) w'):wpList P U Q (o :: rest) a w:=by
 subst hk hm;refine pO a1 s x t ho base e i z size bytes ht hi hz J a2 a3 a4 v xs.length L hs hC.own Ad ys.length c M hx hR.len hL hR.one a5 I y fun A cap w' h2 h3 h4=>?_
 exact h A cap w' (hC.app g hR hf h2 h3 h4) (gX hB hC.own a0 (τ a0 y) h3) (τ y h3.size) h3
theorem bG {α:Type} {R:Rel α} {w:World} {a0:Array Oper} {o:Oper} {a:Act} {K:Act→World→Prop} {Q:Exit→Act→World→Prop} {E:Prop} (a1:o.guard=none) (s x:Operand) (t:TypeId)
  (ho:o.op=.call { callee:=.builtin .append,args:=#[s,x],argTypes:=#[t,t] })
  (base:Nat) (e:TypeId) (i:TypeInfo) (z:Value) (size bytes:Nat) (ht:P.underlying t=some (.slice e)) (hi:P.info? e=some i) (hz:i.zero=some z)
  (J:i.size=size) (a2:i.bytes=bytes) (a3:z.cells.size=size) (a4:0 < size) (g:Good R)
  (v:Value) (k:Nat) (L:List Value) (xs:List α) (bs:List Nat) (hs:a.eval s=v) (hC:cu size R base e w v L xs bs) (hk:xs.length=k)
  (Ad:Option Addr) (m c:Nat) (M:List Value) (ys:List α) (b3:List Nat) (hx:a.eval x=.slice Ad m c) (hR:aV size R w M ys b3) (hm:ys.length=m) (hL:Lies w Ad M) (hf:∀ b ∈ b3,v.ownBlock ≠ some b)
  (a5:k+m≤maxLen) (I:(k+m) * bytes≤140737488355328) (w0:World) (B:Nat) (hB:Below B w0 w) (U:B≤base) (y:base≤w.heap.size)
  (h:∀ A cap w',cu size R base e w' (.slice A (k+m) cap) (L ++ M) (xs ++ ys) (bs ++ b3)→Below B w0 w'→base≤w'.heap.size→w.grownBy w' v.ownBlock→K (a.put o.dst (.slice A (k+m) cap)) w'):if Region.wanted o (yielded a0 a.tmps)=true then Oper.wp P o a w K Q else E:=by
 subst hk hm;refine gG a1 s x t ho base e i z size bytes ht hi hz J a2 a3 a4 v xs.length L hs hC.own Ad ys.length c M hx hR.len hL hR.one a5 I y fun A cap w' h2 h3 h4=>?_
 exact h A cap w' (hC.app g hR hf h2 h3 h4) (gX hB hC.own U (τ U y) h3) (τ y h3.size) h3
theorem aS {w:World} {g:Nat} {cs:Array Value} {t:TypeId} {fr:Nat × Nat} (h:w.heap[g]? = some (.cells cs t fr)):Lies w (some ⟨g,0,none⟩) cs.toList:=
 Lies.mk fun j u y=>by
  rw [Nat.zero_add,cell_of_row w g j cs t fr h];simpa using y
def Reads {α:Type} (R:Rel α) (x:α) (B:Nat) (w:World) (e:Ending) (w':World):Prop:=Below B w w'∧∃ v bs,e=.returned v∧R w' [v] x bs
end D
end
section
open Go.RowKit D
namespace D
structure Ub (bs:List Nat) (w w':World):Prop where
 os:w'.os=w.os
 tape:w'.tape=w.tape
 output:w'.output=w.output
 size:w.heap.size≤w'.heap.size
 block:∀ k,k < w.heap.size→k ∉ bs→w'.heap[k]? = w.heap[k]?
theorem apart {bs y:List Nat} {B:Nat} (h1:∀ b ∈ bs,b < B) (I:∀ b ∈ y,B≤b):∀ b ∈ bs,b ∉ y:=fun b J hc=>by have:=h1 b J; have:=I b hc; omega
def V6 (w:World) (b:Nat):Prop:=∃ y e,w.heap[b]? = some (.cells y e (0,0))
theorem New.VI {B:Nat} {w:World} {bs:List Nat} (h:New B w bs):∀ b ∈ bs,V6 w b:=fun b y=>(h.own b y).2
end D
end
section
open Go.RowKit D
theorem D.N9 {a:A} (h:aW a=true):a.args.length≤3:=by
 unfold aW aZ at h;simp only [ο,decide_eq_true_eq] at h;exact h.1.1.2
theorem D.qO {w:World} {g:Nat}:aQ w [.slice (some ⟨g,0,none⟩) 0 0] [] []:=⟨_,0,rfl,ν,ε,fun _=>rfl,fun h=>absurd rfl h⟩
theorem D.cu.V7 {α:Type} {n:Nat} {R:Rel α} {base e r:Nat} {w w':World} {v:Value} {L:List Value} {xs:List α} {bs:List Nat} (J:Good R) (h:cu n R base e w v L xs bs) (hk:Ub [r] w w') (hr:r < base) (hb:r ∉ bs):cu n R base e w' v L xs bs:=
 ⟨⟨h.own.1,h.own.2.imp id fun ⟨g,cap,I,e,hg,U,rest⟩=>⟨g,cap,I,e,hg,(hk.block g (ψ U) (by simp; omega)).trans U,rest⟩⟩,h.row.keep J fun b y=>hk.block b (h.row.lt J b y) (by simp; intro e; exact hb (e ▸ y)),h.far⟩
theorem D.cu.Bg {α:Type} {n:Nat} {R:Rel α} {base e b o:Nat} {w:World} {u v:Value} {L:List Value} {xs:List α} {bs:List Nat} (J:Good R) (h:cu n R base e w v L xs bs) (hr:v.ownBlock ≠ some b) (U:b ∉ bs):cu n R base e (w.setCell ⟨b,o,none⟩ u) v L xs bs:=
 ⟨⟨h.own.1,h.own.2.imp id fun ⟨g,cap,y,e,hg,hh,rest⟩=>⟨g,cap,y,e,hg,(π _ _ _ _ (by intro e'; subst e'; subst e; exact hr rfl)).trans hh,rest⟩⟩,h.row.keep J fun c I=>π _ _ _ _ (by intro e; apply U; have e2:c=b:=e; rw [← e2]; exact I),h.far⟩
theorem pR {w:World} {base e size n b:Nat} {v:Value} {L:List Value} {cs:Array Value} {t:TypeId} {fr:Nat × Nat} (h:w.ownsRow base e size v n L) (I:w.heap[b]? = some (.cells cs t fr)) (J:t ≠ e):v.ownBlock ≠ some b:=by
 rcases h.2 with ⟨rfl,_⟩ | ⟨g,cap,U,rfl,_,y,_⟩
 ·simp [Value.ownBlock]
 ·intro e'
  have:g=b:=by simpa [Value.ownBlock] using e'
  subst this;rw [I] at y; injection y with y; injection y with _ h2; exact J h2
theorem Qo (w:World) (y I:Obj):((w.alloc y).alloc I).heap[w.heap.size]? = some y∧((w.alloc y).alloc I).heap[w.heap.size+1]? = some I:=by
 refine ⟨(Below.heap_alloc _ _ _ (by simp)).trans (ω _ _),?_⟩;have:=ω (w.alloc y) I;simpa using this
theorem aj {w:World} {b o:Nat} {cs:Array Value} {t:TypeId} (h:w.heap[b]? = some (.cells cs t (0,0))):w.cell? ⟨b,o,none⟩=cs[o]?:=by simp [World.cell?,h]
theorem aB {w:World} {b o:Nat} {cs:Array Value} {t:TypeId} (h:w.heap[b]? = some (.cells cs t (0,0))):w.frozen? ⟨b,o,none⟩=false:=by simp [World.frozen?,h]
theorem Aq {w:World} {b:Nat} {x y u:Value} {t:TypeId} (h:w.heap[b]? = some (.cells #[x,y] t (0,0))):(w.setCell ⟨b,1,none⟩ u).heap[b]? = some (.cells #[x,u] t (0,0)):=by
 have I:=ψ h;have J:w.heap[b]=.cells #[x,y] t (0,0):=by simpa [Array.getElem?_eq_getElem I] using h
 show (w.heap.modify b _)[b]? = _;rw [Array.getElem?_eq_getElem (by simpa using I),Array.getElem_modify_self,J];rfl
theorem Qp {w:World} {b:Nat} {x y u:Value} {t:TypeId} (h:w.heap[b]? = some (.cells #[x,y] t (0,0))):(w.setCell ⟨b,0,none⟩ u).heap[b]? = some (.cells #[u,y] t (0,0)):=by
 have I:=ψ h;have J:w.heap[b]=.cells #[x,y] t (0,0):=by simpa [Array.getElem?_eq_getElem I] using h
 show (w.heap.modify b _)[b]? = _;rw [Array.getElem?_eq_getElem (by simpa using I),Array.getElem_modify_self,J];rfl
theorem D.Hl {α:Type} {n:Nat} {R:Rel α} {w w':World} {Ad:Option Addr} {L:List Value} {xs:List α} {b2 bs:List Nat} (h:aV n R w L xs b2) (hn:0 < n)
  (U:xs ≠ []→∃ b o,Ad=some ⟨b,o,none⟩∧b ∈ bs∧∀ j u,L[j]? = some u→w.cell? ⟨b,o+j,none⟩=some u) (y:∀ b ∈ bs,b < w.heap.size) (hb:Below w.heap.size w w'):Lies w' Ad L:=by
 by_cases J:xs = []
 ·have:L = []:=List.length_eq_zero_iff.1 (by rw [h.len,J]; simp)
  rw [this]; exact Lies.nil _ _
 ·obtain ⟨b,o,rfl,I,hc⟩:=U J
  exact Lies.mk fun j u hj=>(hb.cell (p:=⟨b,o+j,none⟩) (y b I)).trans (hc j u hj)
theorem D.own_ne {a b o n c:Nat} (h:a ≠ b):(some a:Option Nat) ≠ (Value.slice (some ⟨b,o,none⟩) n c).ownBlock:=fun e=>h (by simpa [Value.ownBlock] using e)
theorem bY {w:World} {b o:Nat} {cs:Array Value} {u:Value} {t:TypeId} (h:w.heap[b]? = some (.cells cs t (0,0))):(w.setCell ⟨b,o,none⟩ u).heap[b]? = some (.cells (cs.setIfInBounds o u) t (0,0)):=by
 have y:=ψ h;have I:w.heap[b]=.cells cs t (0,0):=by simpa [Array.getElem?_eq_getElem y] using h
 show (w.heap.modify b _)[b]? = _;rw [Array.getElem?_eq_getElem (by simpa using y),Array.getElem_modify_self,I];rfl
end
end Go.Proofs.YtlmngncogomgeaaGreatDoor
