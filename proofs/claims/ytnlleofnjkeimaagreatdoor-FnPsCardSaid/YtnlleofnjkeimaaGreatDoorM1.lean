/- The data machine (a part). -/
import Derived.Calls
import Derived.Laws.World
import Derived.Laws.Rows
import Derived.Laws.AppendOwn
import Derived.Laws.MakeOwn
import Derived.Laws.Slices
import Derived.Laws.StructEq
import Derived.Laws.Strings
import Derived.Laws.BytesArg
import Derived.WideLaws
import Derived.Laws.CopyRow
import Derived.Lib.ItoaNum
namespace Go.Proofs.YtnlleofnjkeimaaGreatDoor.Dm
abbrev aaE:=@decide_eq_true
abbrev aa1:=@decide_eq_false
abbrev aa2:=@List.getElem?_eq_getElem
abbrev aa3:=@if_neg
abbrev aa4:=@Bool.and_eq_true
abbrev aa5:=@if_pos
abbrev aa6:=@Option.some.inj
abbrev abo:=@Int.toNat_natCast
abbrev abp:=@List.mem_append
abbrev aby:=@List.length_cons
abbrev abz:=@List.length_append
abbrev abA:=@List.length_nil
abbrev abD:=@List.all_eq_true
abbrev abE:=@Nat.le_refl
abbrev abF:=@List.mem_cons
abbrev abG:=@Nat.le_trans
abbrev abJ:=@of_decide_eq_true
abbrev abS:=@decide_eq_true_eq
abbrev abX:=@Nat.mul_le_mul_right
abbrev ab0:=@List.nil_append
abbrev ab8:=@List.getElem?_drop
abbrev ab9:=@List.getElem?_take_of_lt
abbrev aca:=@List.nodup_append
abbrev acb:=@List.getElem_mem
abbrev acd:=@List.map_cons
abbrev ace:=@Bool.eq_iff_iff
abbrev acf:=@Option.bind_some
abbrev acg:=@Nat.add_mul
abbrev ach:=@List.getD_eq_getElem?_getD
abbrev aci:=@Nat.lt_of_lt_of_le
abbrev acj:=@List.append_assoc
abbrev ack:=@List.all_cons
abbrev acm:=@Array.getElem?_toList
abbrev acn:=@List.foldl_cons
abbrev aco:=@decide_eq_true_iff
abbrev acp:=@List.eq_nil_of_length_eq_zero
abbrev acq:=@List.mem_singleton
abbrev acr:=@List.drop_eq_getElem_cons
abbrev acs:=@Bool.false_eq_true
abbrev acu:=@List.nodup_cons
abbrev acv:=@Option.some.injEq
abbrev acw:=@Nat.zero_add
abbrev acx:=@List.mem_of_getElem?
abbrev acy:=@beq_iff_eq
abbrev acz:=@List.length_set
abbrev acA:=@List.length_drop
abbrev acB:=@List.ext_getElem?
abbrev acC:=@cond_false
abbrev acD:=@List.findIdx?_eq_some_iff_getElem
abbrev acE:=@cond_true
abbrev acF:=@List.length_map
abbrev acG:=@List.append_nil
abbrev acH:=@Nat.lt_or_ge
abbrev acI:=@List.getElem?_eq_none
abbrev acJ:=@Bool.not_eq_true'
abbrev acK:=@List.getElem?_replicate
abbrev acQ:=@Bool.or_eq_true
abbrev acS:=@List.filter_cons
abbrev acT:=@List.getElem?_append_right
abbrev acU:=@Bool.true_and
abbrev acY:=@List.take_of_length_le
abbrev acZ:=@Int.le_refl
abbrev ac0:=@Nat.zero_le
abbrev ac7:=@List.map_congr_left
abbrev adf:=@List.getElem_of_mem
abbrev adu:=@Option.map_some
abbrev ady:=@List.getElem?_append_left
abbrev adz:=@List.findIdx?_eq_none_iff
abbrev adA:=@List.length_filter_le
abbrev adE:=@List.all_append
abbrev adN:=@List.mem_map_of_mem
abbrev adO:=@List.mem_append_right
abbrev adP:=@Nat.lt_of_le_of_lt
abbrev adS:=@List.pairwise_cons
abbrev aeA:=@List.mem_append_left
abbrev aeB:=@Nat.le_of_eq
abbrev aeC:=@List.flatMap_cons
abbrev ae4:=@if_true
abbrev ae9:=@Nat.add_zero
abbrev afa:=@List.map_nil
abbrev afb:=@Array.getD_eq_getD_getElem?
abbrev afi:=@List.prefix_rfl
abbrev afj:=@List.getElem?_map
abbrev afk:=@List.mem_of_mem_drop
abbrev afl:=@List.mem_or_eq_of_mem_set
abbrev afm:=@List.mem_cons_of_mem
abbrev afn:=@List.mem_of_mem_take
abbrev afo:=@List.take_succ_eq_append_getElem
abbrev afq:=@List.length_take
abbrev afr:=@and_true
abbrev afs:=@List.flatten_append
abbrev afv:=@decide_eq_false_iff_not
abbrev afy:=@Bool.and_true
abbrev afz:=@List.map_append
abbrev afD:=@List.getElem?_take
abbrev afG:=@of_decide_eq_false
abbrev afK:=@List.cons.injEq
abbrev afL:=@Nat.le_succ
abbrev afO:=@List.take_zero
abbrev afQ:=@List.take_append_drop
abbrev afT:=@List.length_replicate
abbrev afW:=@List.drop_zero
abbrev af6:=@List.mem_flatten
abbrev aga:=@List.drop_drop
section
open Go
mutual
inductive Ty where
 |bool
 |int (k:IntKind)
 |str
 |hole
 |sl (e:Ty)
 |fz (e:Ty)
 |st (fs:aI)
inductive aI where
 |nil
 |cons (t:Ty) (ts:aI)
end
mutual
def Ty.D:Ty→Type
 | .bool=>Bool
 | .int _=>Int
 | .str=>List UInt8
 | .hole=>Unit
 | .sl e=>List e.D
 | .fz e=>List e.D
 | .st fs=>fs.D
def aI.D:aI→Type
 | .nil=>Unit
 | .cons t ts=>t.D×ts.D
end
mutual
def Ty.size:Ty→Nat
 | .bool=>1
 | .int _=>1
 | .str=>1
 | .hole=>1
 | .sl _=>1
 | .fz _=>1
 | .st fs=>fs.size
def aI.size:aI→Nat
 | .nil=>0
 | .cons t ts=>t.size+ts.size
end
mutual
def Ty.zero:(t:Ty)→t.D
 | .bool=>false
 | .int _=>(0:Int)
 | .str=>([]:List UInt8)
 | .hole=>()
 | .sl _=>[]
 | .fz _=>[]
 | .st fs=>fs.zero
def aI.zero:(ts:aI)→ts.D
 | .nil=>()
 | .cons t ts=>(t.zero,ts.zero)
end
mutual
def Ty.beq:Ty→Ty→Bool
 | .bool, .bool=>true
 | .int k, .int k'=>decide (k=k')
 | .str, .str=>true
 | .hole, .hole=>true
 | .sl e, .sl e'=>e.beq e'
 | .fz e, .fz e'=>e.beq e'
 | .st fs, .st fs'=>fs.beq fs'
 |_,_=>false
def aI.beq:aI→aI→Bool
 | .nil, .nil=>true
 | .cons t ts, .cons t' ts'=>t.beq t'&&ts.beq ts'
 |_,_=>false
end
mutual
theorem Ty.beq_eq:(t t':Ty)→t.beq t'=true→t=t'
 | .bool,t',h=>by grind [Ty.beq]
 | .int k,t',h=>by cases t'<;>simp_all [Ty.beq]
 | .str,t',h=>by grind [Ty.beq]
 | .hole,t',h=>by grind [Ty.beq]
 | .sl e,t',h=>by
   cases t'<;>simp [Ty.beq] at h;rw [Ty.beq_eq e _ h]
 | .fz e,t',h=>by
   cases t'<;>simp [Ty.beq] at h;rw [Ty.beq_eq e _ h]
 | .st fs,t',h=>by
   cases t'<;>simp [Ty.beq] at h;rw [aI.beq_eq fs _ h]
theorem aI.beq_eq:(t t':aI)→t.beq t'=true→t=t'
 | .nil,t',h=>by grind [aI.beq]
 | .cons t ts,t',h=>by
   cases t'<;>simp [aI.beq] at h;rw [Ty.beq_eq t _ h.1,aI.beq_eq ts _ h.2]
end
def Ty.cast (t t':Ty) (x:t.D):Option t'.D:=if h:t.beq t'=true then some (Ty.beq_eq t t' h ▸ x) else none
theorem Ty.dm {t t':Ty} {x:t.D} {y:t'.D} (h:Ty.cast t t' x=some y):∃ e:t=t',y=e ▸ x:=by grind [Ty.cast,Ty.beq_eq]
abbrev aM:Nat:=9223372036854775807
abbrev nth {α:Type} (l:List α) (i:Nat):Option α:=l[i]?
def aE (w:World) (b o n:Nat):List Value:=
 match w.heap[b]? with
 |some (.cells c _ _)=>(c.toList.drop o).take n
 |_=>[]
theorem eN {w w':World} {b:Nat} (h:w'.heap[b]? =w.heap[b]?) (o n:Nat):aE w' b o n=aE w b o n:=by
 simp [aE,h]
mutual
def Ty.aN (S:Nat→Prop) (w:World):(t:Ty)→List Value→t.D→Prop
 | .bool,cs,x=>cs=[.bool x]
 | .int k,cs,x=>cs=[.int k x]
 | .str,cs,x=>cs=[.string ⟨List.toArray x⟩]∧List.length x≤aM
 | .hole,cs,_=>∃ v:Value,cs=[v]∧v.oneCell'=true
 | .sl e,cs,xs=>∃ a cap,cs=[.slice a (List.length xs) cap]∧(List.length xs≤cap∧List.length xs≤aM)∧(xs=[]∨∃ b o,a=some ⟨b,o,none⟩∧S b∧
  ∀ (i:Nat) (y:e.D),nth (α:=e.D) xs i=some y→e.aN S w (aE w b (o+i*e.size) e.size) y)
 | .fz e,cs,xs=>∃ a cap,cs=[.slice a (List.length xs) cap]∧(List.length xs≤cap∧List.length xs≤aM)∧(xs=[]∨∃ b o,a=some ⟨b,o,none⟩∧S b∧
  ∀ (i:Nat) (y:e.D),nth (α:=e.D) xs i=some y→e.aN S w (aE w b (o+i*e.size) e.size) y)
 | .st fs,cs,x=>fs.aN S w cs x
def aI.aN (S:Nat→Prop) (w:World):(ts:aI)→List Value→ts.D→Prop
 | .nil,cs,_=>cs=[]
 | .cons t ts,cs,x=>∃ c1 c2,cs=c1++c2∧t.aN S w c1 x.1∧ts.aN S w c2 x.2
end
structure Fz where
 S:Nat→Prop
 w0:World
def Fz.le (z z':Fz):Prop:=∀ b,z.S b→z'.S b∧z'.w0.heap[b]? =z.w0.heap[b]?
theorem Fz.le_refl (z:Fz):z.le z:=λ_ h=>⟨h,rfl⟩
theorem Fz.le_trans {z z' z'':Fz} (h:z.le z') (h':z'.le z''):z.le z'':=λb hb=>⟨(h' b (h b hb).1).1,(h' b (h b hb).1).2.trans (h b hb).2⟩
variable {z:Fz}
mutual
def Ty.ar (z:Fz) (w:World):(t:Ty)→List Value→t.D→List Nat→Prop
 | .bool,cs,x,fp=>cs=[.bool x]∧fp=[]
 | .int k,cs,x,fp=>cs=[.int k x]∧fp=[]
 | .str,cs,x,fp=>cs=[.string ⟨List.toArray x⟩]∧fp=[]∧List.length x≤aM
 | .hole,cs,_,fp=>(∃ v:Value,cs=[v]∧v.oneCell'=true)∧fp=[]
 | .sl e,cs,xs,fp=>∃ a cap,cs=[.slice a (List.length xs) cap]∧(List.length xs≤cap∧List.length xs≤aM)∧((cap=0∧fp=[])∨∃ b o c E fps,a=some ⟨b,o,none⟩∧
  w.heap[b]? =some (.cells c E (0,0))∧o+cap*e.size≤c.size∧List.length fps=List.length xs∧fp=b::fps.flatten∧
  ∀ (i:Nat) (y:e.D) (f:List Nat),nth (α:=e.D) xs i=some y→nth fps i=some f→e.ar z w (aE w b (o+i*e.size) e.size) y f)
 | .fz e,cs,xs,fp=>(Ty.fz e).aN z.S z.w0 cs xs∧fp=[]
 | .st fs,cs,x,fp=>fs.ar z w cs x fp
def aI.ar (z:Fz) (w:World):(ts:aI)→List Value→ts.D→List Nat→Prop
 | .nil,cs,_,fp=>cs=[]∧fp=[]
 | .cons t ts,cs,x,fp=>∃ c1 c2 f1 f2,cs=c1++c2∧fp=f1++f2∧t.ar z w c1 x.1 f1∧ts.ar z w c2 x.2 f2
end
theorem jG {S:Nat→Prop} {w:World} {e:Ty} {cs:List Value} {x:List e.D}:(Ty.fz e).aN S w cs x↔(Ty.sl e).aN S w cs x:=by simp only [Ty.aN];exact Iff.rfl
mutual
theorem Ty.jZ {S:Nat→Prop} {w:World}:(t:Ty)→{cs:List Value}→{x:t.D}→t.aN S w cs x→cs.length=t.size
 | .bool,_,_,h=>by simp only [Ty.aN] at h;subst h;rfl
 | .int _,_,_,h=>by simp only [Ty.aN] at h;subst h;rfl
 | .str,_,_,h=>by simp only [Ty.aN] at h;rw [h.1];rfl
 | .hole,_,_,h=>by simp only [Ty.aN] at h;obtain ⟨v,rfl,_⟩:=h;rfl
 | .sl _,_,_,h=>by simp only [Ty.aN] at h;obtain ⟨a,cap,rfl,_⟩:=h;rfl
 | .fz _,_,_,h=>by simp only [Ty.aN] at h;obtain ⟨a,cap,rfl,_⟩:=h;rfl
 | .st fs,_,_,h=>by simp only [Ty.aN] at h;exact aI.jZ fs h
theorem aI.jZ {S:Nat→Prop} {w:World}:(t:aI)→{cs:List Value}→{x:t.D}→t.aN S w cs x→cs.length=t.size
 | .nil,_,_,h=>by simp only [aI.aN] at h;subst h;rfl
 | .cons t ts,_,_,h=>by
   simp only [aI.aN] at h;obtain ⟨c1,c2,rfl,h1,h2⟩:=h;simp [aI.size,Ty.jZ t h1,aI.jZ ts h2]
end
mutual
theorem Ty.eS {w:World}:(t:Ty)→{cs:List Value}→{x:t.D}→{fp:List Nat}→t.ar z w cs x fp→cs.length=t.size
 | .bool,_,_,_,h=>by simp only [Ty.ar] at h;rw [h.1];rfl
 | .int _,_,_,_,h=>by simp only [Ty.ar] at h;rw [h.1];rfl
 | .str,_,_,_,h=>by simp only [Ty.ar] at h;rw [h.1];rfl
 | .hole,_,_,_,h=>by simp only [Ty.ar] at h;obtain ⟨⟨v,rfl,_⟩,_⟩:=h;rfl
 | .sl _,_,_,_,h=>by simp only [Ty.ar] at h;obtain ⟨a,cap,rfl,_⟩:=h;rfl
 | .fz e,_,_,_,h=>by grind [Ty.ar,Ty.jZ]
 | .st fs,_,_,_,h=>by simp only [Ty.ar] at h;exact aI.eS fs h
theorem aI.eS {w:World}:(t:aI)→{cs:List Value}→{x:t.D}→{fp:List Nat}→t.ar z w cs x fp→cs.length=t.size
 | .nil,_,_,_,h=>by simp only [aI.ar] at h;rw [h.1];rfl
 | .cons t ts,_,_,_,h=>by
   simp only [aI.ar] at h;obtain ⟨c1,c2,f1,f2,rfl,rfl,h1,h2⟩:=h;simp [aI.size,Ty.eS t h1,aI.eS ts h2]
end
/- The same blocks, the same reading. -/
mutual
theorem Ty.dM {S S':Nat→Prop} {w w':World} (hs:∀ b,S b→S' b∧w'.heap[b]? =w.heap[b]?):(t:Ty)→{cs:List Value}→{x:t.D}→t.aN S w cs x→t.aN S' w' cs x
 | .bool,_,_,h=>by grind [Ty.aN]
 | .int _,_,_,h=>by grind [Ty.aN]
 | .str,_,_,h=>by grind [Ty.aN]
 | .hole,_,_,h=>by grind [Ty.aN]
 | .sl e,_,_,h=>by
   simp only [Ty.aN] at h ⊢;obtain ⟨a,cap,rfl,hc,h⟩:=h;refine ⟨a,cap,rfl,hc,h.imp id ?_⟩
   rintro ⟨b,o,ha,hb,hi⟩
   refine ⟨b,o,ha,(hs b hb).1,λi y hl=> ?_⟩;rw [eN (hs b hb).2];exact Ty.dM hs e (hi i y hl)
 | .fz e,_,_,h=>by
   simp only [Ty.aN] at h ⊢;obtain ⟨a,cap,rfl,hc,h⟩:=h;refine ⟨a,cap,rfl,hc,h.imp id ?_⟩
   rintro ⟨b,o,ha,hb,hi⟩
   refine ⟨b,o,ha,(hs b hb).1,λi y hl=> ?_⟩;rw [eN (hs b hb).2];exact Ty.dM hs e (hi i y hl)
 | .st fs,_,_,h=>by simp only [Ty.aN] at h ⊢; exact aI.dM hs fs h
theorem aI.dM {S S':Nat→Prop} {w w':World} (hs:∀ b,S b→S' b∧w'.heap[b]? =w.heap[b]?):(t:aI)→{cs:List Value}→{x:t.D}→t.aN S w cs x→t.aN S' w' cs x
 | .nil,_,_,h=>by grind [aI.aN]
 | .cons t ts,_,_,h=>by
   simp only [aI.aN] at h ⊢; obtain ⟨c1,c2,rfl,h1,h2⟩:=h;exact ⟨c1,c2,rfl,Ty.dM hs t h1,aI.dM hs ts h2⟩
end
mutual
theorem Ty.cR {w w':World}:(t:Ty)→{cs:List Value}→{x:t.D}→{fp:List Nat}→t.ar z w cs x fp→(∀ b∈fp,w'.heap[b]? =w.heap[b]?)→t.ar z w' cs x fp
 | .bool,_,_,_,h,_=>by grind [Ty.ar]
 | .int _,_,_,_,h,_=>by grind [Ty.ar]
 | .str,_,_,_,h,_=>by grind [Ty.ar]
 | .hole,_,_,_,h,_=>by grind [Ty.ar]
 | .sl e,_,_,_,h,hs=>by
   simp only [Ty.ar] at h ⊢;obtain ⟨a,cap,rfl,hc,h⟩:=h;refine ⟨a,cap,rfl,hc,h.imp id ?_⟩
   rintro ⟨b,o,c,E,fps,ha,hb,ho,hl,rfl,hi⟩
   have b8:=hs b (by simp);refine ⟨b,o,c,E,fps,ha,b8.trans hb,ho,hl,rfl,λi y f hy hf=> ?_⟩;rw [eN b8];refine Ty.cR e (hi i y f hy hf) λb hm=>hs b ?_;simp only [abF,af6];exact .inr ⟨f,acx hf,hm⟩
 | .fz _,_,_,_,h,_=>by grind [Ty.ar]
 | .st fs,_,_,_,h,hs=>by simp only [Ty.ar] at h ⊢; exact aI.cR fs h hs
theorem aI.cR {w w':World}:(t:aI)→{cs:List Value}→{x:t.D}→{fp:List Nat}→t.ar z w cs x fp→(∀ b∈fp,w'.heap[b]? =w.heap[b]?)→t.ar z w' cs x fp
 | .nil,_,_,_,h,_=>by grind [aI.ar]
 | .cons t ts,_,_,_,h,hs=>by
   simp only [aI.ar] at h ⊢; obtain ⟨c1,c2,f1,f2,rfl,rfl,h1,h2⟩:=h;exact ⟨c1,c2,f1,f2,rfl,rfl,Ty.cR t h1 λb hb=>hs b (by simp [hb]),aI.cR ts h2 λb hb=>hs b (by simp [hb])⟩
end
/- What is one's own can be read. -/
mutual
theorem Ty.ga {S:Nat→Prop} {w:World} (hz:∀ b,z.S b→S b∧w.heap[b]? =z.w0.heap[b]?):(t:Ty)→{cs:List Value}→{x:t.D}→{fp:List Nat}→t.ar z w cs x fp→(∀ b∈fp,S b)→t.aN S w cs x
 | .bool,_,_,_,h,_=>by grind [Ty.ar,Ty.aN]
 | .int _,_,_,_,h,_=>by grind [Ty.ar,Ty.aN]
 | .str,_,_,_,h,_=>by grind [Ty.ar,Ty.aN]
 | .hole,_,_,_,h,_=>by grind [Ty.ar,Ty.aN]
 | .sl e,_,_,_,h,hs=>by
   simp only [Ty.ar,Ty.aN] at h ⊢;obtain ⟨a,cap,rfl,hc,h⟩:=h;refine ⟨a,cap,rfl,hc, ?_⟩;rcases h with ⟨h0,rfl⟩|⟨b,o,c,E,fps,ha,hb,ho,hl,rfl,hi⟩
   . exact .inl (acp (by omega))
   . refine .inr ⟨b,o,ha,hs b (by simp),λi y hy=> ?_⟩
     have bS:i<fps.length:=by grind
     refine Ty.ga hz e (hi i y (fps[i]'bS) hy (aa2 _)) λb hm=>hs b ?_;grind [List.mem_flatten,List.getElem_mem]
 | .fz e,_,_,_,h,_=>by grind [Ty.ar,Ty.dM]
 | .st fs,_,_,_,h,hs=>by simp only [Ty.ar,Ty.aN] at h ⊢; exact aI.ga hz fs h hs
theorem aI.ga {S:Nat→Prop} {w:World} (hz:∀ b,z.S b→S b∧w.heap[b]? =z.w0.heap[b]?):(t:aI)→{cs:List Value}→{x:t.D}→{fp:List Nat}→t.ar z w cs x fp→(∀ b∈fp,S b)→t.aN S w cs x
 | .nil,_,_,_,h,_=>by grind [aI.ar,aI.aN]
 | .cons t ts,_,_,_,h,hs=>by
   simp only [aI.ar,aI.aN] at h ⊢; obtain ⟨c1,c2,f1,f2,rfl,rfl,h1,h2⟩:=h;exact ⟨c1,c2,rfl,Ty.ga hz t h1 λb hb=>hs b (by simp [hb]),aI.ga hz ts h2 λb hb=>hs b (by simp [hb])⟩
end
/- The blocks that it lies in are there. -/
mutual
theorem Ty.gS {w:World}:(t:Ty)→{cs:List Value}→{x:t.D}→{fp:List Nat}→t.ar z w cs x fp→∀ b∈fp,b<w.heap.size
 | .bool,_,_,_,h=>by simp only [Ty.ar] at h;rw [h.2];simp
 | .int _,_,_,_,h=>by simp only [Ty.ar] at h;rw [h.2];simp
 | .str,_,_,_,h=>by simp only [Ty.ar] at h;rw [h.2.1];simp
 | .hole,_,_,_,h=>by simp only [Ty.ar] at h;rw [h.2];simp
 | .sl e,_,_,_,h=>by
   simp only [Ty.ar] at h;obtain ⟨a,cap,rfl,hc,h⟩:=h;rcases h with ⟨h0,rfl⟩|⟨b,o,c,E,fps,ha,hb,ho,hl,rfl,hi⟩
   . simp
   . intro b' hm
     simp only [abF,af6] at hm;rcases hm with rfl|⟨f,hf,hm⟩
     . exact (Array.getElem?_eq_some_iff.1 hb).1
     . obtain ⟨i,bS,rfl⟩:=adf hf
       exact Ty.gS e (hi i (@getElem (List e.D) Nat e.D _ _ _ i (hl ▸ bS)) _ (aa2 _) (aa2 _)) b' hm
 | .fz _,_,_,_,h=>by simp only [Ty.ar] at h;rw [h.2];simp
 | .st fs,_,_,_,h=>by simp only [Ty.ar] at h;exact aI.gS fs h
theorem aI.gS {w:World}:(t:aI)→{cs:List Value}→{x:t.D}→{fp:List Nat}→t.ar z w cs x fp→∀ b∈fp,b<w.heap.size
 | .nil,_,_,_,h=>by simp only [aI.ar] at h;rw [h.2];simp
 | .cons t ts,_,_,_,h=>by
   simp only [aI.ar] at h;obtain ⟨c1,c2,f1,f2,rfl,rfl,h1,h2⟩:=h;intro b hb;rcases abp.1 hb with h|h
   . exact Ty.gS t h1 b h
   . exact aI.gS ts h2 b h
end
mutual
theorem Ty.cZ {z':Fz} {w:World} (hz:z.le z'):(t:Ty)→{cs:List Value}→{x:t.D}→{fp:List Nat}→t.ar z w cs x fp→t.ar z' w cs x fp
 | .bool,_,_,_,h=>by grind [Ty.ar]
 | .int _,_,_,_,h=>by grind [Ty.ar]
 | .str,_,_,_,h=>by grind [Ty.ar]
 | .hole,_,_,_,h=>by grind [Ty.ar]
 | .sl e,_,_,_,h=>by
   simp only [Ty.ar] at h ⊢;obtain ⟨a,cap,rfl,hc,h⟩:=h;refine ⟨a,cap,rfl,hc,h.imp id ?_⟩
   rintro ⟨b,o,c,E,fps,ha,hb,ho,hl,rfl,hi⟩
   exact ⟨b,o,c,E,fps,ha,hb,ho,hl,rfl,λi y f hy hf=>Ty.cZ hz e (hi i y f hy hf)⟩
 | .fz e,_,_,_,h=>by simp only [Ty.ar] at h ⊢; exact ⟨Ty.dM hz (.fz e) h.1,h.2⟩
 | .st fs,_,_,_,h=>by simp only [Ty.ar] at h ⊢; exact aI.cZ hz fs h
theorem aI.cZ {z':Fz} {w:World} (hz:z.le z'):(t:aI)→{cs:List Value}→{x:t.D}→{fp:List Nat}→t.ar z w cs x fp→t.ar z' w cs x fp
 | .nil,_,_,_,h=>by grind [aI.ar]
 | .cons t ts,_,_,_,h=>by
   simp only [aI.ar] at h ⊢; obtain ⟨c1,c2,f1,f2,rfl,rfl,h1,h2⟩:=h;exact ⟨c1,c2,f1,f2,rfl,rfl,Ty.cZ hz t h1,aI.cZ hz ts h2⟩
end
mutual
def Ty.lT:Ty→Ty→Bool
 | .bool, .bool=>true
 | .int k, .int k'=>decide (k=k')
 | .str, .str=>true
 | .hole, .hole=>true
 | .sl e, .sl e'=>e.lT e'
 | .sl e, .fz e'=>e.lT e'
 | .fz e, .sl e'=>e.lT e'
 | .fz e, .fz e'=>e.lT e'
 | .st fs, .st fs'=>fs.lT fs'
 |_,_=>false
def aI.lT:aI→aI→Bool
 | .nil, .nil=>true
 | .cons t ts, .cons t' ts'=>t.lT t'&&ts.lT ts'
 |_,_=>false
end
mutual
theorem Ty.ij:(t t':Ty)→t.lT t'=true→t.D=t'.D
 | .bool,t',h=>by grind [Ty.lT]
 | .int k,t',h=>by cases t'<;>first|rfl|grind [Ty.lT]
 | .str,t',h=>by grind [Ty.lT]
 | .hole,t',h=>by grind [Ty.lT]
 | .sl e,t',h=>by
   cases t'<;>simp only [Ty.lT,acs] at h
   . simp only [Ty.D,Ty.ij e _ h]
   . simp only [Ty.D,Ty.ij e _ h]
 | .fz e,t',h=>by
   cases t'<;>simp only [Ty.lT,acs] at h
   . simp only [Ty.D,Ty.ij e _ h]
   . simp only [Ty.D,Ty.ij e _ h]
 | .st fs,t',h=>by
   cases t'<;>simp only [Ty.lT,acs] at h;simp only [Ty.D,aI.ij fs _ h]
theorem aI.ij:(t t':aI)→t.lT t'=true→t.D=t'.D
 | .nil,t',h=>by grind [aI.lT]
 | .cons t ts,t',h=>by
   cases t'<;>simp only [aI.lT,acs,aa4] at h;simp only [aI.D,Ty.ij t _ h.1,aI.ij ts _ h.2]
end
def Ty.zu (t t':Ty) (x:t.D):Option t'.D:=if h:t.lT t'=true then some (_root_.cast (Ty.ij t t' h) x) else none
theorem Ty.nR {t t':Ty} {x:t.D} {y:t'.D} (h:Ty.zu t t' x=some y):∃ e:t.lT t'=true,y=_root_.cast (Ty.ij t t' e) x:=by grind [Ty.zu]
mutual
theorem Ty.jH:(t t':Ty)→t.lT t'=true→t'.size=t.size
 | .bool,t',h=>by grind [Ty.lT]
 | .int k,t',h=>by cases t'<;>first|rfl|grind [Ty.lT]
 | .str,t',h=>by grind [Ty.lT]
 | .hole,t',h=>by grind [Ty.lT]
 | .sl e,t',h=>by cases t'<;>first|rfl|grind [Ty.lT]
 | .fz e,t',h=>by cases t'<;>first|rfl|grind [Ty.lT]
 | .st fs,t',h=>by
   cases t'<;>simp only [Ty.lT,acs] at h;simp only [Ty.size,aI.jH fs _ h]
theorem aI.jH:(t t':aI)→t.lT t'=true→t'.size=t.size
 | .nil,t',h=>by grind [aI.lT]
 | .cons t ts,t',h=>by
   cases t'<;>simp only [aI.lT,acs,aa4] at h;simp only [aI.size,Ty.jH t _ h.1,aI.jH ts _ h.2]
end
theorem Ph {α β:Type} (h:α=β) (h':List α=List β) (xs:List α) (i:Nat) (y:β) (e:nth (_root_.cast h' xs) i=some y):∃ x,nth xs i=some x∧y=_root_.cast h x:=by
 subst h;grind
theorem Pj {α β:Type} (h:α=β) (h':List α=List β) (xs:List α):(_root_.cast h' xs).length=xs.length:=by subst h;rfl
theorem Pk {α β α' β':Type} (h:α=α') (k:β=β') (h':(α×β)=(α'×β')) (x:α×β):(_root_.cast h' x).1=_root_.cast h x.1∧(_root_.cast h' x).2=_root_.cast k x.2:=by grind
theorem j9 {S:Nat→Prop} {w:World} {e e':Ty} (hD:e.D=e'.D) (hs:e'.size=e.size) (ih:∀ cs x,e.aN S w cs x→e'.aN S w cs (_root_.cast hD x)) (h':List e.D=List e'.D) {cs:List Value} {xs:List e.D}
  (h:(Ty.sl e).aN S w cs xs):(Ty.sl e').aN S w cs (_root_.cast h' xs:List e'.D):=by
 simp only [Ty.aN] at h ⊢;have hl:=Pj hD h' xs;obtain ⟨a,cap,rfl,hc,h⟩:=h;refine ⟨a,cap, ?_, ?_, ?_⟩
 . grind
 . grind
 . rcases h with rfl|⟨b,o,ha,hb,hi⟩
   . grind
   . refine .inr ⟨b,o,ha,hb,λi y hy=> ?_⟩
     obtain ⟨x,hx,rfl⟩:=Ph hD h' xs i y hy;grind
mutual
theorem Ty.ik {S:Nat→Prop} {w:World}:(t t':Ty)→(h:t.lT t'=true)→∀ cs x,t.aN S w cs x→t'.aN S w cs (_root_.cast (Ty.ij t t' h) x)
 | .bool,t',h,cs,x,hr=>by grind [Ty.lT]
 | .int k,t',h,cs,x,hr=>by
   cases t'<;>simp only [Ty.lT,acs,abS] at h;grind
 | .str,t',h,cs,x,hr=>by grind [Ty.lT]
 | .hole,t',h,cs,x,hr=>by grind [Ty.lT]
 | .sl e,t',h,cs,x,hr=>by
   cases t' with
   |sl e'=>exact j9 (Ty.ij e e' h) (Ty.jH e e' h) (Ty.ik e e' h) _ hr
   |fz e'=>exact jG.2 (j9 (Ty.ij e e' h) (Ty.jH e e' h) (Ty.ik e e' h) _ hr)
   |_=>simp [Ty.lT] at h
 | .fz e,t',h,cs,x,hr=>by
   have hr:=jG.1 hr;cases t' with
   |sl e'=>exact j9 (Ty.ij e e' h) (Ty.jH e e' h) (Ty.ik e e' h) _ hr
   |fz e'=>exact jG.2 (j9 (Ty.ij e e' h) (Ty.jH e e' h) (Ty.ik e e' h) _ hr)
   |_=>simp [Ty.lT] at h
 | .st fs,t',h,cs,x,hr=>by
   cases t' with
   |st fs'=>
    simp only [Ty.aN] at hr ⊢;exact aI.ik fs fs' h cs x hr
   |_=>simp [Ty.lT] at h
theorem aI.ik {S:Nat→Prop} {w:World}:(t t':aI)→(h:t.lT t'=true)→∀ cs x,t.aN S w cs x→t'.aN S w cs (_root_.cast (aI.ij t t' h) x)
 | .nil,t',h,cs,x,hr=>by grind [aI.aN,aI.lT]
 | .cons t ts,t',h,cs,x,hr=>by
   cases t' with
   |nil=>simp [aI.lT] at h
   |cons t' ts'=>
    have h2:=h;simp only [aI.lT,aa4] at h2;simp only [aI.aN] at hr ⊢;obtain ⟨c1,c2,rfl,h3,h4⟩:=hr;have e:=Pk (Ty.ij t t' h2.1) (aI.ij ts ts' h2.2) (aI.ij (.cons t ts) (.cons t' ts') h) x;exact ⟨c1,c2,rfl,e.1 ▸ Ty.ik t t' h2.1 c1 x.1 h3,e.2 ▸ aI.ik ts ts' h2.2 c2 x.2 h4⟩
end
mutual
def Ty.mu:Ty→Ty
 | .sl _=> .hole
 | .fz _=> .hole
 | .st fs=> .st fs.mu
 | .bool=> .bool
 | .int k=> .int k
 | .str=> .str
 | .hole=> .hole
def aI.mu:aI→aI
 | .nil=> .nil
 | .cons t ts=> .cons t.mu ts.mu
end
mutual
def Ty.erase:(t:Ty)→t.D→t.mu.D
 | .sl _,_=>()
 | .fz _,_=>()
 | .st fs,x=>fs.erase x
 | .bool,x=>x
 | .int _,x=>x
 | .str,x=>x
 | .hole,_=>()
def aI.erase:(t:aI)→t.D→t.mu.D
 | .nil,x=>x
 | .cons t ts,x=>(t.erase x.1,ts.erase x.2)
end
mutual
theorem Ty.pf:(t:Ty)→t.mu.size=t.size
 | .sl _=>rfl
 | .fz _=>rfl
 | .st fs=>by simp only [Ty.mu,Ty.size];exact aI.pf fs
 | .bool=>rfl
 | .int _=>rfl
 | .str=>rfl
 | .hole=>rfl
theorem aI.pf:(t:aI)→t.mu.size=t.size
 | .nil=>rfl
 | .cons t ts=>by simp only [aI.mu,aI.size,Ty.pf t,aI.pf ts]
end
mutual
theorem Ty.lF {S:Nat→Prop} {w:World}:(t:Ty)→∀ cs x,t.aN S w cs x→t.mu.aN S w cs (t.erase x)
 | .sl _,cs,x,hr=>by simp only [Ty.mu,Ty.aN] at hr ⊢; obtain ⟨a,cap,rfl,_⟩:=hr;exact ⟨_,rfl,rfl⟩
 | .fz _,cs,x,hr=>by simp only [Ty.mu,Ty.aN] at hr ⊢; obtain ⟨a,cap,rfl,_⟩:=hr;exact ⟨_,rfl,rfl⟩
 | .st fs,cs,x,hr=>by
   simp only [Ty.aN] at hr;simp only [Ty.mu,Ty.aN];exact aI.lF fs cs x hr
 | .bool,cs,x,hr=>hr
 | .int _,cs,x,hr=>hr
 | .str,cs,x,hr=>hr
 | .hole,cs,x,hr=>hr
theorem aI.lF {S:Nat→Prop} {w:World}:(t:aI)→∀ cs x,t.aN S w cs x→t.mu.aN S w cs (t.erase x)
 | .nil,cs,x,hr=>hr
 | .cons t ts,cs,x,hr=>by
   simp only [aI.aN] at hr;simp only [aI.mu,aI.aN];obtain ⟨c1,c2,rfl,h3,h4⟩:=hr;exact ⟨c1,c2,rfl,Ty.lF t c1 x.1 h3,aI.lF ts c2 x.2 h4⟩
end
end
section
open Go
mutual
def Ty.cq:(t:Ty)→t.D→Nat→(u:Ty)→Option u.D
 | .st fs,x,off,u=>if off=0∧(Ty.st fs).beq u=true then Ty.cast (.st fs) u x else fs.cq x off u
 |t,x,off,u=>if off=0 then Ty.cast t u x else none
def aI.cq:(ts:aI)→ts.D→Nat→(u:Ty)→Option u.D
 | .nil,_,_,_=>none
 | .cons t ts,x,off,u=>if off<t.size then t.cq x.1 off u else ts.cq x.2 (off - t.size) u
end
mutual
def Ty.cw:(t:Ty)→t.D→Nat→(u:Ty)→u.D→Option t.D
 | .st fs,x,off,u,y=>if off=0∧u.beq (Ty.st fs)=true then Ty.cast u (.st fs) y else fs.cw x off u y
 |t,_,off,u,y=>if off=0 then Ty.cast u t y else none
def aI.cw:(ts:aI)→ts.D→Nat→(u:Ty)→u.D→Option ts.D
 | .nil,_,_,_,_=>none
 | .cons t ts,x,off,u,y=>if off<t.size then (t.cw x.1 off u y).map λz=>(z,x.2) else (ts.cw x.2 (off - t.size) u y).map λz=>(x.1,z)
end
mutual
def Ty.cS:Ty→Nat→Ty→Ty
 | .fz e,off,u=>if off=0∧u.beq (.sl e)=true then .fz e else u
 | .st fs,off,u=>fs.cS off u
 |_,_,u=>u
def aI.cS:aI→Nat→Ty→Ty
 | .nil,_,u=>u
 | .cons t ts,off,u=>if off<t.size then t.cS off u else ts.cS (off - t.size) u
end
mutual
def Ty.ph:Ty→Bool
 | .sl e=>e.ph
 | .fz _=>false
 | .st fs=>fs.ph
 |_=>true
def aI.ph:aI→Bool
 | .nil=>true
 | .cons t ts=>t.ph&&ts.ph
end
mutual
def Ty.mC:Ty→Bool
 | .sl _=>false
 | .fz _=>true
 | .st fs=>fs.mC
 |_=>true
def aI.mC:aI→Bool
 | .nil=>true
 | .cons t ts=>t.mC&&ts.mC
end
mutual
def Ty.Az:Ty→Ty
 | .sl e=> .fz e
 | .st fs=> .st fs.Az
 |t=>t
def aI.Az:aI→aI
 | .nil=> .nil
 | .cons t ts=> .cons t.Az ts.Az
end
mutual
def Ty.flat:Ty→Bool
 | .sl _=>false
 | .fz _=>false
 | .st fs=>fs.flat
 |_=>true
def aI.flat:aI→Bool
 | .nil=>true
 | .cons t ts=>t.flat&&ts.flat
end
def aI.offset:aI→Nat→Option (Nat×Ty)
 | .nil,_=>none
 | .cons t _,0=>some (0,t)
 | .cons t ts,k+1=>(ts.offset k).map λx=>(t.size+x.1,x.2)
def Ty.field (t:Ty) (k:Nat):Option (Nat×Ty):=
 match t with
 | .st fs=>fs.offset k
 |_=>none
inductive ah where
 |dead
 |jj
 |undef
 |b (x:Bool)
 |i (k:IntKind) (x:Int)
 |s (x:List UInt8)
 |ro (e:Ty) (xs:List e.D) (tk:Option Nat)
 |mD
 |cB (id:Nat) (vw:Option (Nat×Nat))
 |vptr (id off:Nat)
 |jv (id i off:Nat)
 |AA (t:Ty) (x:t.D) (off:Nat)
 |agg (vs:List ah)
 |FQ (vs:List ah)
 |fn (f:Nat) (nS:List ah)
 |er (n:Bool)
 |kp (n:Nat)
inductive bK where
 |var (cs:List ah)
 |arr (e:Ty) (xs:List e.D)
 |zv (e:Ty) (xs:List e.D) (x:e.D) (i off:Nat) (u:Ty) (id:Nat)
 |it (s:List UInt8) (p:Nat)
 |tP (e:Ty) (xs:List e.D) (i:Nat) (cs:List ah)
 |cut (e:Ty) (ys:List e.D) (k:Nat)
mutual
def ah.ids:ah→List Nat
 | .cB id _=>[id]
 | .vptr id _=>[id]
 | .jv id _ _=>[id]
 | .agg vs=>ah.bC vs
 | .FQ vs=>ah.bC vs
 | .fn _ vs=>ah.bC vs
 |_=>[]
def ah.bC:List ah→List Nat
 |[]=>[]
 |v::vs=>v.ids++ah.bC vs
end
def bK.ids:bK→List Nat
 | .var cs=>ah.bC cs
 | .arr _ _=>[]
 | .zv _ _ _ _ _ _ id=>[id]
 | .it _ _=>[]
 | .tP _ _ _ cs=>ah.bC cs
 | .cut _ _ _=>[]
def ah.bs:ah→Bool
 | .dead| .undef| .agg _| .FQ _=>false
 |_=>true
def ah.cells:ah→List ah
 | .agg vs=>vs
 |v=>[v]
mutual
def Ty.jk:(t:Ty)→t.D→List ah
 | .bool,x=>[.b x]
 | .int k,x=>[.i k x]
 | .str,x=>[.s x]
 | .hole,_=>[.jj]
 | .sl e,x=>[.ro e x none]
 | .fz e,x=>[.ro e x none]
 | .st fs,x=>fs.jk x
def aI.jk:(ts:aI)→ts.D→List ah
 | .nil,_=>[]
 | .cons t ts,x=>t.jk x.1++ts.jk x.2
end
mutual
def Ty.jl:(t:Ty)→t.D→List ah
 | .bool,x=>[.b x]
 | .int k,x=>[.i k x]
 | .str,x=>[.s x]
 | .hole,_=>[.jj]
 | .sl _,_=>[.jj]
 | .fz e,x=>[.ro e x none]
 | .st fs,x=>fs.jl x
def aI.jl:(ts:aI)→ts.D→List ah
 | .nil,_=>[]
 | .cons t ts,x=>t.jl x.1++ts.jl x.2
end
def Ty.jI:Ty→Bool
 | .st _=>true
 |_=>false
def mg (t:Ty) (cs:List ah):ah:=
 match t.jI,cs with
 |true,cs=> .agg cs
 |false,[c]=>c
 |false,_=> .dead
inductive Out (ρ:Type):Type 1 where
 |ret (r:ρ)
 |fail
 |ite (c:Bool) (a b:Out ρ)
 |get {α:Type} (o:Option α) (k:α→Out ρ)
 |alt {α β:Type} (o:α ⊕ β) (k:α→Out ρ) (h:β→Out ρ)
def Out.bind {ρ σ:Type}:Out ρ→(ρ→Out σ)→Out σ
 | .ret r,f=>f r
 | .fail,_=> .fail
 | .ite c a b,f=> .ite c (a.bind f) (b.bind f)
 | .get o k,f=> .get o λx=>(k x).bind f
 | .alt o k h,f=> .alt o (λx=>(k x).bind f) λx=>(h x).bind f
def Out.map {ρ σ:Type} (f:ρ→σ) (o:Out ρ):Out σ:=o.bind λr=> .ret (f r)
def Out.eval {ρ:Type}:Out ρ→Option ρ
 | .ret r=>some r
 | .fail=>none
 | .ite c a b=>bif c then a.eval else b.eval
 | .get o k=>o.bind λx=>(k x).eval
 | .alt o k h=>match o with
   | .inl x=>(k x).eval
   | .inr x=>(h x).eval
def Out.ofOption {ρ:Type}:Option ρ→Out ρ
 |some r=> .ret r
 |none=> .fail
def Out.of {α ρ:Type} (o:Option α) (k:α→Out ρ):Out ρ:=
 match o with
 |some x=>k x
 |none=> .fail
theorem Out.mW {ρ σ:Type} (o:Out ρ) (f:ρ→Out σ):(o.bind f).eval=o.eval.bind λr=>(f r).eval:=by
 induction o with
 |ret r=>rfl
 |fail=>rfl
 |ite c a b iha ihb=>grind [Out.bind,Out.eval]
 |get o k ih=>grind [Out.bind,Out.eval]
 |alt o k h ih ih'=>grind [Out.bind,Out.eval]
abbrev Env:=Nat→Option bK
def Tl:List ah→Option (Bool×List ah)
 | .b x::r=>some (x,r)
 |_=>none
def Tm (k:IntKind):List ah→Option (Int×List ah)
 | .i k' x::r=>if k=k' then some (x,r) else none
 |_=>none
def abq:List ah→Option (Unit×List ah)
 |d::r=>if d.bs=true then some ((),r) else none
 |_=>none
def ae5:List ah→Option (Unit×List ah)
 |d::r=>if d.bs=true∧d.ids=[] then some ((),r) else none
 |_=>none
def Tn:List ah→Option (List UInt8×List ah)
 | .s x::r=>some (x,r)
 |_=>none
def Pl (e:Ty):List ah→Option (List e.D×List ah)
 | .mD::r=>some ([],r)
 | .ro e' xs _::r=>(Ty.cast (.sl e') (.sl e) xs).map λy=>(y,r)
 |_=>none
def abr (E:Env) (e:Ty):List ah→Option (List e.D×List ah×List Nat)
 | .mD::r=>some ([],r,[])
 | .cB id none::r=>
   match E id with
   |some (.arr e' xs)=>(Ty.cast (.sl e') (.sl e) xs).map λy=>(y,r,[id])
   |_=>none
 |_=>none
mutual
def Ty.tQ (E:Env):(t:Ty)→List ah→Option (t.D×List ah×List Nat)
 | .bool,cs=>(Tl cs).map λx=>(x.1,x.2,[])
 | .int k,cs=>(Tm k cs).map λx=>(x.1,x.2,[])
 | .str,cs=>(Tn cs).map λx=>(x.1,x.2,[])
 | .hole,cs=>(ae5 cs).map λx=>(x.1,x.2,[])
 | .sl e,cs=>abr E e cs
 | .fz e,cs=>(Pl e cs).map λx=>(x.1,x.2,[])
 | .st fs,cs=>fs.tQ E cs
def aI.tQ (E:Env):(ts:aI)→List ah→Option (ts.D×List ah×List Nat)
 | .nil,cs=>some ((),cs,[])
 | .cons t ts,cs=>(t.tQ E cs).bind λx=>(ts.tQ E x.2.1).map λy=>((x.1,y.1),y.2.1,x.2.2++y.2.2)
end
def nodupB:List Nat→Bool
 |[]=>true
 |a::l=> !l.contains a&&nodupB l
def gT (E:Env):bK→Option ((e:Ty)×List e.D)
 | .arr e xs=>some ⟨e,xs⟩
 | .zv e xs x i off u id=>
   match E id with
   |some (.arr e' ys)=>(Ty.cast (.sl e') u ys).bind λy=>(e.cw x off u y).map λx'=>⟨e,xs.set i x'⟩
   |_=>none
 | .var _=>none
 | .it _ _=>none
 | .cut _ _ _=>none
 | .tP e xs i cs=>
   match e.tQ E cs with
   |some (x,[],ids)=>if nodupB ids=true then some ⟨e,xs.set i x⟩ else none
   |_=>none
def bz:bK→List Nat
 | .zv _ _ _ _ _ _ id=>[id]
 | .tP _ _ _ cs=>ah.bC cs
 |_=>[]
def wG (e' e:Ty) (xs:List e'.D):Option (List e.D):=
 match Ty.zu (.sl e') (.sl e) xs with
 |some y=>some y
 |none=>Ty.cast (.sl e'.mu) (.sl e) (List.map e'.erase xs)
def rY (E:Env) (e:Ty):ah→Option (List e.D)
 | .ro e' xs _=>wG e' e xs
 | .mD=>some []
 | .cB id none=>(E id).bind λv=>(gT E v).bind λx=>wG x.1 e x.2
 | .cB id (some (o,l))=>(E id).bind λv=>(gT E v).bind λx=>wG x.1 e ((x.2.drop o).take l)
 |_=>none
def iE (E:Env) (e:Ty):ah→Option (List e.D×List Nat)
 | .mD=>some ([],[])
 | .cB id none=>(E id).bind λv=>(gT E v).bind λx=>(Ty.cast (.sl x.1) (.sl e) x.2).map λy=>(y,id::bz v)
 | .cB id (some (o,l))=>(E id).bind λv=>(gT E v).bind λx=>(Ty.cast (.sl x.1) (.sl e) ((x.2.drop o).take l)).map λy=>(y,id::bz v)
 |_=>none
def abt (E:Env) (e:Ty):List ah→Option (List e.D×List ah×List Nat)
 |v::r=>(iE E e v).map λx=>(x.1,r,x.2)
 |_=>none
mutual
def Ty.tR (E:Env):(t:Ty)→List ah→Option (t.D×List ah×List Nat)
 | .bool,cs=>(Tl cs).map λx=>(x.1,x.2,[])
 | .int k,cs=>(Tm k cs).map λx=>(x.1,x.2,[])
 | .str,cs=>(Tn cs).map λx=>(x.1,x.2,[])
 | .hole,cs=>(abq cs).map λx=>(x.1,x.2,[])
 | .sl e,cs=>abt E e cs
 | .fz e,cs=>(Pl e cs).map λx=>(x.1,x.2,[])
 | .st fs,cs=>fs.tR E cs
def aI.tR (E:Env):(ts:aI)→List ah→Option (ts.D×List ah×List Nat)
 | .nil,cs=>some ((),cs,[])
 | .cons t ts,cs=>(t.tR E cs).bind λx=>(ts.tR E x.2.1).map λy=>((x.1,y.1),y.2.1,x.2.2++y.2.2)
end
def xL (E:Env) (t:Ty) (cs:List ah):Option (t.D×List Nat):=
 match t.tR E cs with
 |some (x,[],ids)=>if nodupB ids=true then some (x,ids) else none
 |_=>none
mutual
def Ty.bJ:(t:Ty)→t.D→Nat→List ah×List (Nat×bK)×Nat
 | .bool,x,n=>([.b x],[],n)
 | .int k,x,n=>([.i k x],[],n)
 | .str,x,n=>([.s x],[],n)
 | .hole,_,n=>([.jj],[],n)
 | .sl e,x,n=>([.cB n none],[(n, .arr e x)],n+1)
 | .fz e,x,n=>([.ro e x none],[],n)
 | .st fs,x,n=>fs.bJ x n
def aI.bJ:(ts:aI)→ts.D→Nat→List ah×List (Nat×bK)×Nat
 | .nil,_,n=>([],[],n)
 | .cons t ts,x,n=>
   let a:=t.bJ x.1 n
   let b:=ts.bJ x.2 a.2.2
   (a.1++b.1,a.2.1++b.2.1,b.2.2)
end
abbrev nw:=List (Nat×Option bK)
abbrev gY:=ah×nw
def QH:Nat:=1000000
structure Cx where
 ty:Nat→Option Ty
 eqv:Nat→Bool
 call:Nat→List ah→Env→Nat→Out gY
 frz:Nat→Bool:=λ_=>false
 T5:Nat→Nat:=λ_=>0
def ofValue:Value→ah
 | .bool x=> .b x
 | .int k n=> .i k n
 | .string s=>if s.data.toList.length≤aM then .s s.data.toList else .dead
 | .slice none 0 0=> .mD
 | .nilIface=> .er true
 |_=> .dead
abbrev bA:Nat:=68719476736
def pj:Op→List Operand
 | .range _ x| .next x _| .move x| .assign x| .box _ x| .load _ x| .nilCheck x| .unOp _ _ x| .convert _ _ x| .fieldAddr _ x _| .field _ x _| .extract x _=>[x]
 | .pick c a b=>[c,a,b]
 | .build _ ps| .buildSlice _ _ ps=>ps.toList.map (·.2)
 | .store _ a v| .binOp _ _ a v _| .makeSlice _ a v| .indexAddr _ a v| .index _ a v=>[a,v]
 | .slice _ x l h m=>[x]++l.toList++h.toList++m.toList
 | .makeFunc _ _ cs=>cs.toList
 | .call c=>c.operands.toList
 |_=>[]
def cu (v:ah):Out gY:= .ret (v,[])
def eK (cs:List ah) (off:Nat) (new:List ah):List ah:=cs.take off++new++cs.drop (off+new.length)
def Pm (op:BinOp) (k:IntKind) (x y:Int):Out gY:=
 match op with
 | .add=>cu (.i k (k.wrap (x+y)))
 | .sub=>cu (.i k (k.wrap (x - y)))
 | .mul=>cu (.i k (k.wrap (x*y)))
 | .quo=> .ite (y==0) .fail (cu (.i k (k.wrap (x.tdiv y))))
 | .rem=> .ite (y==0) .fail (cu (.i k (x.tmod y)))
 | .and=>cu (.i k (k.wrap (BitVec.ofInt k.bits x &&& BitVec.ofInt k.bits y).toNat))
 | .or=>cu (.i k (k.wrap (BitVec.ofInt k.bits x ||| BitVec.ofInt k.bits y).toNat))
 | .xor=>cu (.i k (k.wrap (BitVec.ofInt k.bits x ^^^ BitVec.ofInt k.bits y).toNat))
 | .andNot=>cu (.i k (k.wrap (BitVec.ofInt k.bits x &&& ~~~(BitVec.ofInt k.bits y)).toNat))
 | .eql=>cu (.b (x==y))
 | .neq=>cu (.b (x != y))
 | .lss=>cu (.b (decide (x<y)))
 | .leq=>cu (.b (decide (x≤y)))
 | .gtr=>cu (.b (decide (x>y)))
 | .geq=>cu (.b (decide (x≥y)))
 |_=> .fail
def FR (op:BinOp) (k:IntKind) (x y:Int):Out gY:=
 match op with
 | .shl=> .ite (decide (y<0)) .fail (cu (.i k (k.wrap (x*2 ^ (min y.toNat k.bits)))))
 | .shr=> .ite (decide (y<0)) .fail (cu (.i k (x.fdiv (2 ^ (min y.toNat k.bits)))))
 |_=> .fail
def Pn (op:BinOp) (x y:List UInt8):Out gY:=
 match op with
 | .add=> .ite (decide (x.length+y.length≤bA)) (cu (.s (x++y))) .fail
 | .eql=>cu (.b (x==y))
 | .neq=>cu (.b (x != y))
 | .lss=>cu (.b (Op.bytesLess x y))
 | .leq=>cu (.b (Op.bytesLess x y||x==y))
 | .gtr=>cu (.b (!(Op.bytesLess x y||x==y)))
 | .geq=>cu (.b (!(Op.bytesLess x y)))
 |_=> .fail
def DR:Ty→ah→ah→Option Bool
 | .bool, .b x, .b y=>some (x==y)
 | .int k, .i k1 x, .i k2 y=>if k1=k∧k2=k then some (x==y) else none
 | .str, .s x, .s y=>some (x==y)
 |_,_,_=>none
def aI.To:aI→List ah→List ah→Option Bool
 | .nil,[],[]=>some true
 | .cons t ts,x::r,y::q=>(DR t x y).bind λb=>(ts.To r q).map λz=>b&&z
 |_,_,_=>none
def Ty.To:Ty→List ah→List ah→Option Bool
 | .st fs,x,y=>fs.To x y
 |_,_,_=>none
def DS:BinOp→Bool
 | .shl| .shr=>true
 |_=>false
def JR:Option Ty→Bool
 |some .bool=>true
 |_=>false
def abu (t:Option Ty) (op:BinOp) (x y:ah):Out gY:=
 match x,y with
 | .i k a, .i k' b=>if DS op=true then FR op k a b else if k=k' then Pm op k a b else .fail
 | .s a, .s b=>Pn op a b
 | .b a, .b b=>if JR t=true then
   match op with
   | .eql=>cu (.b (a==b))
   | .neq=>cu (.b (!(a==b)))
   |_=> .fail else .fail
 |_,_=> .fail
def FT (op:BinOp) (z:Bool):Out gY:=
 match op with
 | .eql=>cu (.b z)
 | .neq=>cu (.b (!z))
 |_=> .fail
def unD (op:UnOp) (x:ah):Out gY:=
 match op,x with
 | .not, .b a=>cu (.b (!a))
 | .neg, .i k a=>cu (.i k (k.wrap (0 - a)))
 |_,_=> .fail
def AM (E:Env):ah→Option Nat
 | .ro _ xs _=>some xs.length
 | .mD=>some 0
 | .cB id none=>
   match E id with
   |some (.arr _ xs)=>some xs.length
   |some (.zv _ xs _ _ _ _ _)=>some xs.length
   |some (.tP _ xs _ _)=>some xs.length
   |some (.cut _ ys k)=>some (k+ys.length)
   |_=>none
 | .cB _ (some (_,l))=>some l
 |_=>none
def abv (E:Env) (t:Ty) (x:ah):Option Nat:=
 match t,x with
 | .str, .s x=>some x.length
 | .sl _,x=>AM E x
 |_,_=>none
def mX (E:Env) (id:Nat):Option Nat:=
 match E id with
 |some (.arr e _)=>some e.size
 |some (.zv e _ _ _ _ _ _)=>some e.size
 |some (.tP e _ _ _)=>some e.size
 |some (.cut e _ _)=>some e.size
 |_=>none
def HO (E:Env) (es:Nat) (x:ah) (n:Int):Out gY:=
 match x with
 | .ro e xs _=>if e.size=es then .ite (decide (0≤n)) (.get (nth xs n.toNat) λy=>cu (.AA e y 0)) .fail else .fail
 | .cB id none=>
   .of (AM E (.cB id none)) λl=>if mX E id=some es then .ite (decide (0≤n∧n<(l:Int))) (cu (.jv id n.toNat 0)) .fail else .fail
 | .cB id (some (o,l))=>if mX E id=some es then .ite (decide (0≤n∧n<(l:Int))) (cu (.jv id (o+n.toNat) 0)) .fail else .fail
 |_=> .fail
def news (l:List (Nat×bK)):nw:=l.map λx=>(x.1,some x.2)
def Po (E:Env) (t:Ty) (id i off fr:Nat) (v:bK):Out gY:=
 .of (gT E v) λex=> .get (nth ex.2 i) λx=> .of (ex.1.cq x off (ex.1.cS off t)) λy=>
  match ex.1.cS off t,y with
  | .sl e',y=> .ret (.cB fr none,((bz v).map λk=>(k,none))++[(id,some (.zv ex.1 ex.2 x i off (.sl e') fr)),(fr,some (.arr e' y))])
  |t,y=>cu (mg t (t.jl y))
def Vw (E:Env) (k:Nat) (t:Ty) (id i off fr:Nat) (v:bK):Out gY:=
 match k,v with
 |0, .tP _ _ j cs=>if off+t.size≤cs.length then .ite (i==j) (cu (mg t ((cs.drop off).take t.size))) .fail else .fail
 |1,v=> .of (gT E v) λex=> .get (nth ex.2 i) λx=>
  if off+t.size≤ex.1.size∧(ex.1.bJ x fr).2.2≤fr+64 then
   .ret (mg t (((ex.1.bJ x fr).1.drop off).take t.size),((bz v).map λk=>(k,none))++([(id,some (.tP ex.1 ex.2 i (ex.1.bJ x fr).1))]++news (ex.1.bJ x fr).2.1))
  else .fail
 |_,v=>Po E t id i off fr v
def zw (E:Env) (k:Nat) (t:Ty) (a:ah) (fr:Nat):Out gY:=
 match a with
 | .vptr id off=>
   match E id with
   |some (.var cs)=>if off+t.size≤cs.length then cu (mg t ((cs.drop off).take t.size)) else .fail
   |_=> .fail
 | .AA t' x off=> .of (t'.cq x off (t'.cS off t)) λy=>cu (mg (t'.cS off t) ((t'.cS off t).jk y))
 | .jv id i off=> .of (E id) λv=>Vw E k t id i off fr v
 |_=> .fail
def Tp (E:Env):bK→Bool
 | .zv _ _ _ _ _ _ id=>(E id).isNone
 |_=>false
def bK.cS (off:Nat) (t:Ty):bK→Ty
 | .arr e _=>e.cS off t
 | .zv e _ _ _ _ _ _=>e.cS off t
 | .tP e _ _ _=>e.cS off t
 |_=>t
def Pp (E:Env) (t:Ty) (id i off:Nat) (w:bK) (v:ah):Out gY:=
    .of (xL E t v.cells) λy=>if y.2.contains id=true∨v.cells.all ah.bs=false then .fail else
    if y.2.any (λk=>(bz w).contains k)=true∨Tp E w=true then
     match w with
     | .zv e xs _ j tS u _=>if off=tS∧t.beq u=true then
      .ite (i==j) (.get (nth xs i) λx=> .of (e.cw x off t y.1) λx'=> .ret (.undef,(y.2.map λk=>(k,none))++[(id,some (.arr e (xs.set i x')))])) .fail else .fail
     |_=> .fail
    else .of (gT E w) λex=> .get (nth ex.2 i) λx=> .of (ex.1.cw x off t y.1) λx'=>
     .ret (.undef,((bz w++y.2).map λk=>(k,none))++[(id,some (.arr ex.1 (ex.2.set i x')))])
def Pq (E:Env) (k:Nat) (t:Ty) (id i off:Nat) (w:bK) (v:ah):Out gY:=
 match k,w with
 |0, .tP e xs j cs=>
  if off+t.size≤cs.length∧v.cells.length=t.size∧v.cells.all ah.bs=true then .ite (i==j) (.ret (.undef,[(id,some (.tP e xs j (eK cs off v.cells)))])) .fail else .fail
 |_,w=>Pp E (w.cS off t) id i off w v
def zx (E:Env) (k:Nat) (t:Ty) (a v:ah):Out gY:=
 match a with
 | .vptr id off=>
   match E id with
   |some (.var cs)=>
    if off+t.size≤cs.length∧v.cells.length=t.size∧v.cells.all ah.bs=true then .ret (.undef,[(id,some (.var (eK cs off v.cells)))]) else .fail
   |_=> .fail
 | .jv id i off=> .of (E id) λw=>Pq E k t id i off w v
 |_=> .fail
def abw:ah→Option Bool
 | .b x=>some x
 |_=>none
def lG:ah→Option Int
 | .i _ x=>some x
 |_=>none
def Pr (l:List UInt8) (lo hi:Option Int):Out gY:=
 let mG:=lo.getD 0
 match hi with
 |none=> .ite (decide (0≤mG∧mG≤(l.length:Int))) (cu (.s (l.drop mG.toNat))) .fail
 |some h=> .ite (decide (0≤mG∧mG≤h∧h≤(l.length:Int))) (cu (.s ((l.take h.toNat).drop mG.toNat))) .fail
def Ps (E:Env) (es:Nat) (x:ah) (lo hi:Option Int):Out gY:=
 let mG:=lo.getD 0
 match x with
 | .ro e l _=>if e.size=es then
   match hi with
   |none=> .ite (decide (0≤mG∧mG≤(l.length:Int))) (cu (.ro e (l.drop mG.toNat) none)) .fail
   |some h=> .ite (decide (0≤mG∧mG≤h∧h≤(l.length:Int))) (cu (.ro e ((l.take h.toNat).drop mG.toNat) none)) .fail
   else .fail
 | .cB id vw=>
   .of (AM E (.cB id vw)) λn=>if mX E id=some es then
    .ite (decide (0≤mG∧mG≤hi.getD n∧hi.getD n≤(n:Int))) (cu (.cB id (some ((vw.map (·.1)).getD 0+mG.toNat,(hi.getD n).toNat - mG.toNat)))) .fail
    else .fail
 |_=> .fail
def DT (E:Env) (t:Ty) (x:ah) (lo hi:Option Int):Out gY:=
 match t,x with
 | .str, .s x=>Pr x lo hi
 | .sl e,x=>Ps E e.size x lo hi
 |_,_=> .fail
def Pt (E:Env) (e:Ty):ah→Option (List e.D)
 | .mD=>some []
 | .ro e' xs _=>Ty.zu (.sl e') (.sl e) xs
 | .cB id none=>
   match E id with
   |some (.arr e' xs)=>Ty.cast (.sl e') (.sl e) xs
   |_=>none
 | .cB id (some (o,l))=>
   match E id with
   |some (.arr e' xs)=>(Ty.cast (.sl e') (.sl e) xs).map λ(ys:List e.D)=>(ys.drop o).take l
   |_=>none
 |_=>none
def DU (E:Env) (e:Ty):ah→Option (List Nat×Nat×Nat×Nat×Nat×List e.D)
 | .cB id (some (o,l))=>
   match E id with
   |some (.cut e' xs k)=>(Ty.cast (.sl e') (.sl e) xs).map λys=>([],id,o,l,k,ys)
   |some v=>(gT E v).bind λex=>(Ty.cast (.sl ex.1) (.sl e) ex.2).map λys=>(bz v,id,o,l,0,ys)
   |none=>none
 |_=>none
def DV (E:Env) (e:Ty) (x y:ah) (fr:Nat):Out gY:=
 .of (iE E e x) λa=>
  match e.flat,y with
  |true,y=> .of (rY E e y) λb=>if y.ids.any (a.2.contains ·)=true then .fail else
   .ite (decide (List.length a.1+List.length b≤bA)) (.ret (.cB fr none,(a.2.map λk=>(k,none))++[(fr,some (.arr e (a.1++b)))])) .fail
  |false,y=>if e.mC=true then
    .of (Pt E e y) λb=>if y.ids.any (a.2.contains ·)=true then .fail else
     .ite (decide (List.length a.1+List.length b≤bA)) (.ret (.cB fr none,(a.2.map λk=>(k,none))++[(fr,some (.arr e (a.1++b)))])) .fail
   else
    match DU E e y with
    |some p=>if (p.2.1::p.1).any (a.2.contains ·)=true then .fail else
     .ite (decide (p.2.2.2.2.1≤p.2.2.1∧List.length a.1+p.2.2.2.1≤bA)) (.ret (.cB fr none,((a.2++(p.2.1::p.1)).map λk=>(k,none))++[(fr,some (.arr e (a.1++(p.2.2.2.2.2.drop (p.2.2.1 - p.2.2.2.2.1)).take p.2.2.2.1))),(p.2.1,some (.cut e (p.2.2.2.2.2.drop (p.2.2.1 - p.2.2.2.2.1+p.2.2.2.1)) (p.2.2.1+p.2.2.2.1)))])) .fail
    |none=> .of (iE E e y) λb=>if b.2.any (a.2.contains ·)=true then .fail else
     .ite (decide (List.length a.1+List.length b.1≤bA)) (.ret (.cB fr none,((a.2++b.2).map λk=>(k,none))++[(fr,some (.arr e (a.1++b.1)))])) .fail
def Ty.isInt:Ty→Bool
 | .int _=>true
 |_=>false
def DW (E:Env) (e:Ty) (x y:ah) (fr:Nat):Out gY:=
 match y with
 | .i _ n=> .of (iE E e x) λa=> .ite (decide (0≤n∧List.length a.1+n.toNat≤bA)) (.ret (.cB fr none,(a.2.map λk=>(k,none))++[(fr,some (.arr e (a.1++List.replicate n.toNat e.zero)))])) .fail
 |_=> .fail
def Pu (E:Env) (e:Ty) (x y:ah):Out gY:=
 match x with
 | .cB id vw=>if e.flat=true then
    .of (E id) λv=> .of (gT E v) λex=> .of (Ty.cast (.sl ex.1) (.sl e) ex.2) λ(xs:List e.D)=> .of (rY E e y) λ(ys:List e.D)=>
     .ret (.i .i64 ((min ((vw.map (·.2)).getD xs.length) ys.length:Nat):Int),((bz v).map λk=>(k,none))++[(id,some (.arr e
      (xs.take ((vw.map (·.1)).getD 0)++ys.take (min ((vw.map (·.2)).getD xs.length) ys.length)++xs.drop ((vw.map (·.1)).getD 0+min ((vw.map (·.2)).getD xs.length) ys.length))))])
   else .fail
 |_=> .fail
def nT (t:Ty) (ev:Operand→ah):List (Nat×Operand)→List ah→Option (List ah)
 |[],cs=>some cs
 |(k,x)::r,cs=>
  match t.field k with
  |some (off,u)=>if (ev x).cells.length=u.size∧(ev x).cells.all ah.bs=true then nT t ev r (eK cs off (ev x).cells) else none
  |none=>none
def jJ (E:Env) (e:Ty) (ev:Operand→ah):List (Nat×Operand)→List e.D→List Nat→Option (List e.D×List Nat)
 |[],xs,g=>some (xs,g)
 |(k,x)::r,xs,g=>if xs.length≤k∨(ev x).cells.all ah.bs=false then none else
  (xL E e (ev x).cells).bind λy=>if y.2.any (g.contains ·)=true then none else jJ E e ev r (xs.set k y.1) (g++y.2)
def rZ:Ty→Option Ty
 | .sl e=>some e
 |_=>none
def JS:Option Ty→Bool
 |some (.sl (.int .u8))=>true
 |_=>false
def Pv (C:Cx) (E:Env) (src dst:Nat) (x:ah):Out gY:=
 .of (C.ty dst) λt=>
  match t,x with
  | .int k, .i _ n=>if (C.ty src).isSome=true then cu (.i k (k.wrap n)) else .fail
  | .str, .s l=>if (C.ty src).isSome=true then cu (.s l) else .fail
  | .str,x=>if JS (C.ty src)=true then .of (rY E (.int .u8) x) λ(l:List Int)=>cu (.s (l.map λn=>UInt8.ofNat n.toNat)) else .fail
  |_,_=> .fail
def Pw (C:Cx) (ty:Nat) (x:ah) (fr:Nat):Out gY:=
 match x with
 | .mD=>
   match (C.ty ty).bind rZ with
   |some e=> .ret (.cB fr none,[(fr,some (.arr e []))])
   |none=>cu .mD
 |x=>cu x
def BB:nw→Nat→Option bK
 |[],_=>none
 |(k,x)::r,id=>
  match BB r id with
  |some y=>some y
  |none=>if k=id∧(r.all λz=>z.1 != id)=true then x else none
def Px (E:Env) (x:ah):Out gY:=
 match x with
 | .vptr id 0=>
   match E id with
   |some (.it s p)=> .ite (decide (p<s.length)) (.get (nth s p) λb=> .ite (decide (b.toNat<128)) (.ret (.FQ [.b true, .i .i64 (p:Int), .i .i32 (b.toNat:Int)],[(id,some (.it s (p+1)))])) .fail) (cu (.FQ [.b false]))
   |_=> .fail
 |_=> .fail
def abx (E:Env) (r:gY):Out gY:=
 match r with
 |(.jv id i off,[])=>
  match E id with
  |some (.arr e xs)=> .of (Ty.zu (.sl e) (.sl e.Az) xs) λ(ys:List e.Az.D)=> .ret (.jv id i off,[(id,some (.arr e.Az ys))])
  |_=> .fail
 |_=> .fail
def DX (E:Env) (k:Nat) (t:Ty) (a v:ah):Out gY:=
 if k=6 then
  match v with
  | .cB id none=>
    match E id with
    |some (.arr e xs)=>(zx (λj=>if j=id then none else E j) k t a (.ro e xs none)).bind λr=> .ret (r.1,(id,none)::r.2)
    |_=> .fail
  |_=> .fail
 else zx E k t a v
def ae6 (E:Env) (k:Nat) (o:Out gY):Out gY:=if k=4 then o.bind (abx E) else o
def core0 (C:Cx) (op:Op) (ty:Nat) (ev:Operand→ah) (E:Env) (fr:Nat):Out gY:=
 match op with
 | .move x| .assign x=>Pw C ty (ev x) fr
 | .pick c a b=> .of (abw (ev c)) λx=> .ite x (cu (ev a)) (cu (ev b))
 | .alloc t=> .of (C.ty t) λt=>if (t.bJ t.zero (fr+1)).2.2≤fr+64 then
   .ret (.vptr fr 0,news (t.bJ t.zero (fr+1)).2.1++[(fr,some (.var (t.bJ t.zero (fr+1)).1))]) else .fail
 | .box t x=> .of (C.ty t) λt=>if (ev x).cells.length=t.size∧(ev x).cells.all ah.bs=true then .ret (.vptr fr 0,[(fr,some (.var (ev x).cells))]) else .fail
 | .build t ps=> .of (C.ty t) λt=>if t.jI=true∧(t.bJ t.zero fr).2.2≤fr+64 then
   .of (nT t ev ps.toList (t.bJ t.zero fr).1) λcs=> .ret (.agg cs,news (t.bJ t.zero fr).2.1) else .fail
 | .buildSlice t n ps=> .of (C.ty t) λt=> .of (rZ t) λe=>if n*e.size≤16777216 then
  .of (jJ E e ev ps.toList (List.replicate n e.zero) []) λy=> .ret (.cB fr none,(y.2.map λk=>(k,none))++[(fr,some (.arr e y.1))]) else .fail
 | .load t a=> .of (C.ty t) λt=>zw E (C.T5 (fr / 64)) t (ev a) fr
 | .store t a v=> .of (C.ty t) λt=>DX E (C.T5 (fr / 64)) t (ev a) (ev v)
 | .nilCheck x=>
   match ev x with
   | .vptr id off=>cu (.vptr id off)
   | .jv id i off=>cu (.jv id i off)
   | .AA t x off=>cu (.AA t x off)
   |_=> .fail
 | .binOp op t x (.const .nilIface) _=>
   match ev x with
   | .er b=>if C.eqv (t+QH)=true then FT op b else .fail
   |_=> .fail
 | .binOp op t x y _=>
   match ev x,ev y with
   | .agg a, .agg b=> .of (C.ty t) λty=>if C.eqv t=true∧t<QH then
    .of (ty.To a b) λz=>FT op z else .fail
   |a,b=>abu (C.ty t) op a b
 | .unOp op _ x=>unD op (ev x)
 | .convert src d x=>Pv C E src d (ev x)
 | .fieldAddr t x k=> .of (C.ty t) λt=> .of (t.field k) λf=>
   match ev x with
   | .vptr id off=>cu (.vptr id (off+f.1))
   | .jv id i off=>cu (.jv id i (off+f.1))
   | .AA t x off=>cu (.AA t x (off+f.1))
   |_=> .fail
 | .field t x k=> .of (C.ty t) λt=> .of (t.field k) λf=>
   match ev x with
   | .agg cs=>if f.1+f.2.size≤cs.length then cu (mg f.2 ((cs.drop f.1).take f.2.size)) else .fail
   |_=> .fail
 | .indexAddr t x n=>ae6 E (C.T5 (fr / 64)) (.of (C.ty t) λt=> .of (rZ t) λe=> .of (lG (ev n)) λn=>HO E e.size (ev x) n)
 | .index t x n=> .of (C.ty t) λt=> .of (lG (ev n)) λn=>
   match t,ev x with
   | .str, .s l=> .ite (decide (0≤n)) (.get (nth l n.toNat) λc=>cu (.i .u8 (c.toNat:Int))) .fail
   |_,_=> .fail
 | .extract x k=>
   match ev x with
   | .FQ vs=> .of vs[k]? λv=>cu v
   |_=> .fail
 | .makeSlice t l c=> .of (C.ty t) λt=> .of (rZ t) λe=> .of (lG (ev l)) λn=> .of (lG (ev c)) λm=>
  .ite (decide (0≤n∧n≤m∧m≤(bA:Int))) (.ret (.cB fr none,[(fr,some (.arr e (List.replicate n.toNat e.zero)))])) .fail
 | .slice t x lo hi none=> .of (C.ty t) λt=>
   match lo.map λz=>lG (ev z),hi.map λz=>lG (ev z) with
   |some none,_=> .fail
   |_,some none=> .fail
   |l,h=>DT E t (ev x) (l.bind id) (h.bind id)
 | .range t x=> .of (C.ty t) λt=>
   match t,ev x with
   | .str, .s l=> .ret (.vptr fr 0,[(fr,some (.it l 0))])
   |_,_=> .fail
 | .next x true=>Px E (ev x)
 | .makeFunc (.func f) first cs=>if first.size=0 then cu (.fn f (cs.toList.map ev)) else .fail
 | .call { callee:= .builtin .len,args,argTypes }=>
   match args.toList,argTypes.toList with
   |[x],[t]=> .of (C.ty t) λt=> .of (abv E t (ev x)) λn=>cu (.i .i64 (n:Int))
   |_,_=> .fail
 | .call { callee:= .builtin .append,args,argTypes }=>
   match args.toList,argTypes.toList with
   |[x,y],[t,t']=>if t=t' then .of (C.ty t) λt=> .of (rZ t) λe=>DV E e (ev x) (ev y) fr else .of (C.ty t) λt=> .of (rZ t) λe=> .of (C.ty t') λt'=>if t'.isInt=true then DW E e (ev x) (ev y) fr else .fail
   |_,_=> .fail
 | .call { callee:= .builtin .copy,args,argTypes }=>
   match args.toList,argTypes.toList with
   |[x,y],[t,_]=> .of (C.ty t) λt=> .of (rZ t) λe=>Pu E e (ev x) (ev y)
   |_,_=> .fail
 | .call { callee:= .value (.func f),args, .. }=>C.call f (args.toList.map ev) E fr
 | .call { callee:= .value (.tmp f),args, .. }=>
   match ev (.tmp f) with
   | .fn g nS=>C.call g (args.toList.map ev++nS) E fr
   |_=> .fail
 |_=> .fail
def zy (m i:Nat) (d:ah) (u:nw):Option (ah×nw):=
 match d with
 | .cB id none=>if m=0∨m.testBit i=true then
    match BB u id with
    |some (.arr e xs)=>some (.ro e xs none,u++[(id,none)])
    |_=>none
   else some (.cB id none,u)
 |d=>some (d,u)
def JT (m:Nat):Nat→List ah→nw→Option (List ah×nw)
 |_,[],u=>some ([],u)
 |i,d::r,u=>(zy m i d u).bind λq=>(JT m (i+1) r q.2).map λp=>(q.1::p.1,p.2)
def Py (m i:Nat) (d:ah) (u:nw):Option (ah×nw):=
 match d with
 | .agg ds=>(JT m i ds u).map λq=>(.agg q.1,q.2)
 |d=>zy m i d u
def JU (m:Nat):Nat→List ah→nw→Option (List ah×nw)
 |_,[],u=>some ([],u)
 |i,d::r,u=>(Py m i d u).bind λq=>(JU m (i+d.cells.length) r q.2).map λp=>(q.1::p.1,p.2)
def ae7 (m:Nat) (d:ah) (u:nw):Option (ah×nw):=
 match d with
 | .FQ ds=>(JU m 0 ds u).map λq=>(.FQ q.1,q.2)
 |d=>Py m 0 d u
def ae8 (m:Nat) (r:gY):Out gY:= .of (ae7 m r.1 r.2) λq=> .ret q
def core (C:Cx) (op:Op) (ty:Nat) (ev:Operand→ah) (E:Env) (fr:Nat):Out gY:=
 if C.frz (fr / 64)=true then (core0 C op ty ev E fr).bind (ae8 (C.T5 (fr / 64))) else core0 C op ty ev E fr
end
section
open Go
structure du where
 t:List ah
 v:List (Nat×bK)
 w:List (Nat×bK):=[]
 k:List Nat
 kn:List (Nat×Bool)
structure kM where
 t:Nat→ah
 v:Nat→Option bK
 k:Nat→Prop
def bf:List (Nat×bK)→Nat→Option bK
 |[],_=>none
 |(k,x)::r,id=>if k=id then some x else bf r id
def vP:List (Nat×bK)→Nat→List (Nat×bK)
 |[],_=>[]
 |(k,x)::r,id=>if k=id then vP r id else (k,x)::vP r id
def Pz:List (Nat×bK)→Nat→bK→List (Nat×bK)
 |[],id,y=>[(id,y)]
 |(k,x)::r,id,y=>if k=id then (k,y)::r else (k,x)::Pz r id y
def AN (v:List (Nat×bK)):nw→List (Nat×bK)
 |[]=>v
 |(id,some x)::r=>AN (Pz v id x) r
 |(id,none)::r=>AN (vP v id) r
def du.env (s:du):Nat→Option bK:=bf (s.v++s.w)
def du.f (s:du):kM:={ t:=λj=>s.t.getD j .dead,v:=s.env,k:=λid=>id / 64∈s.k }
def du.free (s:du) (u:nw):Bool:=u.all λx=> !(s.w.map (·.1)).contains x.1
def eT (t:Nat→ah):Operand→ah
 | .tmp j=>t j
 | .const v=>ofValue v
 | .func f=> .fn f []
 | .global _=> .dead
def PA (v:Env) (id:Nat):List Nat:=
 match v id with
 |some x=>x.ids
 |none=>[]
def cl (v:Env) (l:List Nat):List Nat:=l++l.flatMap (PA v)
def tids (op:Op) (t:Nat→ah) (v:Env):List Nat:=cl v (cl v (cl v ((pj op).flatMap λx=>(eT t x).ids)))
def oD (T:List Nat) (v:Env):Env:=λid=>if T.contains id=true then v id else none
def makes (g:Nat) (u:nw):Bool:=u.any λx=>x.1 / 64==g
def PB (T:List Nat) (g:Nat) (mk:Bool) (id:Nat):Bool:=T.contains id||(mk&&id / 64==g)
def Vx (T:List Nat) (g:Nat) (mk:Bool) (x:Nat×Option bK):Bool:=
 PB T g mk x.1&&(match x.2 with|some y=>y.ids.all (PB T g mk)|none=>true)
def JV (T:List Nat) (g:Nat) (r:gY):Bool:=
 r.1.ids.all (PB T g (makes g r.2))&&r.2.all (Vx T g (makes g r.2))
def BC (t:List ah) (dst:Option Nat):Bool:=
 match dst with
 |some d=>decide (d<t.length)
 |none=>true
def FU (t:List ah) (dst:Option Nat) (v:ah):List ah:=
 match dst with
 |some d=>t.set d v
 |none=>t
def JW (kn:List (Nat×Bool)) (dst:Option Nat):List (Nat×Bool):=
 match dst with
 |some d=>kn.filter λx=>x.1 != d
 |none=>kn
def gU:List (Nat×Bool)→Nat→Option Bool
 |[],_=>none
 |(j,b)::r,d=>if j=d then some b else gU r d
def HP (kn:List (Nat×Bool)):Operand→Option Bool
 | .const (.bool b)=>some b
 | .tmp d=>gU kn d
 |_=>none
def Vy (kn:List (Nat×Bool)):Op→Op
 | .pick c a b=>
   match HP kn c with
   |some true=> .move a
   |some false=> .move b
   |none=> .pick c a b
 |op=>op
def PC (kn:List (Nat×Bool)) (dst:Option Nat):Op→List (Nat×Bool)
 | .move x| .assign x=>
   match dst,HP kn x with
   |some d,some b=>[(d,b)]
   |_,_=>[]
 | .unOp .not _ x=>
   match dst,HP kn x with
   |some d,some b=>[(d, !b)]
   |_,_=>[]
 |_=>[]
structure Log where
 i:Nat
 g:Nat
 mkd:Bool
 dst:Option Nat
 reads:List Nat
 T:List Nat
 R:List Nat
 U:List Nat
def tmpsOf:List Operand→List Nat
 |[]=>[]
 | .tmp j::r=>j::tmpsOf r
 |_::r=>tmpsOf r
def tT (ops:List Oper) (g:Option (Nat×Bool)):List Nat:=
 match g with
 |some (j,_)=>((ops[j]?).bind (·.dst)).toList
 |none=>[]
def PD (T:List Nat) (t:Operand→ah):Op→List Nat
 | .move _=>[]
 | .assign _=>[]
 | .fieldAddr _ _ _=>[]
 | .nilCheck _=>[]
 | .field _ _ _=>[]
 | .extract _ _=>[]
 | .load _ x=>
   match t x with
   | .vptr id _=>T.filter (· ==id)
   |_=>T
 |_=>T
def zz (C:Cx) (ops:List Oper) (g:Nat) (i:Nat) (o:Oper) (s:du):Out (du×Log):=
 let op:=Vy s.kn o.op
 let T:=tids op (λj=>s.t.getD j .dead) s.env
 (core C op o.type (eT λj=>s.t.getD j .dead) (oD T s.env) (g*64)).bind λr=>
  if JV T g r=true∧s.k.contains g=false∧BC s.t o.dst=true∧s.free r.2=true then
   .ret ({ t:=FU s.t o.dst r.1,v:=AN s.v r.2,w:=s.w,k:=if makes g r.2=true then g::s.k else s.k,kn:=PC s.kn o.dst op++JW s.kn o.dst },
    { i,g,mkd:=makes g r.2,dst:=o.dst,reads:=tmpsOf (pj o.op)++tT ops o.guard,T,R:=PD T (eT λj=>s.t.getD j .dead) op,U:=r.2.map (·.1) })
  else .fail
def zA (ops:List Oper) (g:Nat) (i:Nat) (o:Oper) (s:du):Out (du×Log):=
 if BC s.t o.dst=true then
  .ret ({ s with t:=FU s.t o.dst .undef,kn:=JW s.kn o.dst },{ i,g,mkd:=false,dst:=o.dst,reads:=tT ops o.guard,T:=[],R:=[],U:=[] })
 else .fail
def opL (C:Cx) (ops:List Oper) (g:Nat) (i:Nat) (o:Oper) (s:du):Out (du×Log):=
 match o.guard with
 |none=>zz C ops g i o s
 |some (j,want)=>
  match (ops[j]?).bind (·.dst) with
  |none=> .fail
  |some d=>
   match gU s.kn d with
   |some b=>if b=want then zz C ops g i o s else zA ops g i o s
   |none=>
    match s.t.getD d .dead with
    | .b c=> .ite (c==want) (zz C ops g i o { s with t:=s.t.set d (.b want),kn:=(d,want)::s.kn })
     (zA ops g i o { s with t:=s.t.set d (.b !want),kn:=(d, !want)::s.kn })
    | .undef=>zA ops g i o s
    |_=> .fail
def nU (C:Cx) (ops:List Oper) (base:Nat):List (Nat×Oper)→du→List Log→Out (du×List Log)
 |[],s,log=> .ret (s,log)
 |(i,o)::r,s,log=>(opL C ops (base+i) i o s).bind λx=>nU C ops base r x.1 (x.2::log)
def bits (l:List Nat) (after:List Edge):Nat:=
 after.foldl (λs e=>if Region.binds .any e then s ||| 2 ^ e.on ||| l.getD e.on 0 else s) 0
def eW:List Oper→List Nat→List Nat
 |[],acc=>acc
 |o::r,acc=>eW r (acc++[bits acc o.after.toList])
def PE (a b:List Nat):Bool:=a.all λx=> !b.contains x
def indep (a b:Log):Bool:=
 PE a.dst.toList (b.reads++b.dst.toList)&&PE b.dst.toList a.reads&&PE a.U (b.R++b.U)&&PE b.U a.R&&
 (!a.mkd||b.T.all λid=>id / 64 != a.g)
def tU (B:List Nat):List Log→Bool
 |[]=>true
 |b::r=>r.all (λa=>(B.getD b.i 0).testBit a.i||indep a b)&&tU B r
def BD (n:Nat):List Oper→Bool
 |[]=>true
 |o::r=>o.after.toList.all (λe=> !Region.binds .any e||decide (e.on<n))&&BD (n+1) r
def region (C:Cx) (id:Nat) (ops:List Oper) (draw:Bool) (s:du):Out du:=
 (nU C ops (id*256+1) (ops.zipIdx.map λx=>(x.2,x.1)) s []).bind λx=>
  if draw=true∧(tU (eW ops []) x.2=false∨BD 0 ops=false) then .fail else .ret x.1
inductive Ex where
 |normal
 |ret
 |exit (id:Nat)
def tV (id:Nat) (r:Ex×du):Ex×du:=
 match r.1 with
 | .exit n=>if n=id then (.normal,r.2) else r
 |_=>r
inductive Slot where
 |dead
 |jj
 |b
 |i (k:IntKind)
 |s
 |ro (e:Ty) (tk:Option Nat)
 |bg (id:Nat)
 |srv (id:Nat)
 |vptr (id off:Nat)
 |jv (id off:Nat)
 |AA (t:Ty) (off:Nat)
 |fn (f:Nat) (ids:List Nat)
 |kp (n:Nat)
 |keep
inductive eA where
 |var (cs:List Slot)
 |arr (e:Ty)
 |it
def JX:Slot→Type→Type
 | .b,T=>Bool×T
 | .i _,T=>Int×T
 | .s,T=>List UInt8×T
 | .ro e _,T=>List e.D×T
 | .jv _ _,T=>Nat×T
 | .srv _,T=>(Nat×Nat)×T
 | .AA t _,T=>t.D×T
 |_,T=>T
def BE (T:Type):(x:Slot)→JX x T→ah×T
 | .b,y=>(.b y.1,y.2)
 | .i k,y=>(.i k y.1,y.2)
 | .s,y=>(.s y.1,y.2)
 | .ro e tk,y=>(.ro e y.1 tk,y.2)
 | .jv id off,y=>(.jv id y.1 off,y.2)
 | .srv id,y=>(.cB id (some y.1),y.2)
 | .AA t off,y=>(.AA t y.1 off,y.2)
 | .dead,y=>(.dead,y)
 | .jj,y=>(.jj,y)
 | .bg id,y=>(.cB id none,y)
 | .vptr id off,y=>(.vptr id off,y)
 | .fn f ids,y=>(.fn f (ids.map λid=> .vptr id 0),y)
 | .kp n,y=>(.kp n,y)
 | .keep,y=>(.dead,y)
def kB:List Slot→Type
 |[]=>Unit
 |x::r=>JX x (kB r)
def fH:(l:List Slot)→kB l→List ah
 |[],_=>[]
 |x::r,y=>(BE (kB r) x y).1::fH r (BE (kB r) x y).2
def nV:List (Nat×eA)→Type
 |[]=>Unit
 |(_, .var cs)::r=>kB cs×nV r
 |(_, .arr e)::r=>List e.D×nV r
 |(_, .it)::r=>(List UInt8×Nat)×nV r
def dH:(l:List (Nat×eA))→nV l→List (Nat×bK)
 |[],_=>[]
 |(id, .var cs)::r,x=>(id, .var (fH cs x.1))::dH r x.2
 |(id, .arr e)::r,x=>(id, .arr e x.1)::dH r x.2
 |(id, .it)::r,x=>(id, .it x.1.1 x.1.2)::dH r x.2
def Slot.isC:Slot→Bool
 | .dead=>false
 | .keep=>false
 |_=>true
structure Shape where
 t:List Slot
 v:List (Nat×eA)
abbrev Shape.D (S:Shape):Type:=kB S.t×nV S.v
def Slot.nW:Slot→Bool
 | .keep=>true
 |_=>false
def eo:List Slot→Nat→Bool
 |[],_=>false
 |x::_,0=>x.nW
 |_::r,j+1=>eo r j
def jc:List Slot→List ah→List ah→List ah
 |x::r,d::ds,e::es=>(bif x.nW then d else e)::jc r ds es
 |_,_,es=>es
def Shape.enc (S:Shape) (ts:List ah) (W:List (Nat×bK)) (K:List Nat) (x:S.D):du:=
 { t:=jc S.t ts (fH S.t x.1),v:=dH S.v x.2,w:=W,k:=0::(S.v.map (·.1 / 64)++K),kn:=[] }
def PF:List Nat→List ah→List (Nat×Nat)
 |a::r, .vptr b _::q=>(a,b)::PF r q
 |_,_=>[]
def pn:List Slot→List ah→List (Nat×Nat)
 | .bg id::r, .cB dC none::q=>(id,dC)::pn r q
 | .srv id::r, .cB dC (some _)::q=>(id,dC)::pn r q
 | .vptr id _::r, .vptr dC _::q=>(id,dC)::pn r q
 | .jv id _::r, .jv dC _ _::q=>(id,dC)::pn r q
 | .fn _ ids::r, .fn _ nS::q=>PF ids nS++pn r q
 |_::r,_::q=>pn r q
 |_,_=>[]
def eC:List (Nat×Nat)→Nat→Option Nat
 |[],_=>none
 |(a,b)::r,x=>if a=x then some b else eC r x
def zB (v:List (Nat×bK)):List (Nat×eA)→List (Nat×Nat)→List (Nat×Nat)
 |[],m=>m
 |(id, .var cs)::r,m=>
  match (eC m id).bind (bf v) with
  |some (.var ds)=>zB v r (m++pn cs ds)
  |_=>zB v r m
 |(_, .arr _)::r,m=>zB v r m
 |(_, .it)::r,m=>zB v r m
def zC (m:List (Nat×Nat)):List Nat→List ah→Bool
 |[],[]=>true
 |a::r, .vptr b 0::q=>decide (eC m a=some b)&&zC m r q
 |_,_=>false
def Vz (m:List (Nat×Nat)) (T:Type):(x:Slot)→ah→Option (T→JX x T)
 | .dead,_=>some λy=>y
 | .jj,d=>if d.bs=true then some λy=>y else none
 | .b, .b x=>some λy=>(x,y)
 | .i k, .i k' x=>if k=k' then some λy=>(x,y) else none
 | .s, .s x=>some λy=>(x,y)
 | .ro e tk, .ro e' xs tk'=>if tk=none∨tk=tk' then (Ty.cast (.sl e') (.sl e) xs).map λx y=>(x,y) else none
 | .bg id, .cB dC none=>if eC m id=some dC then some λy=>y else none
 | .srv id, .cB dC (some v)=>if eC m id=some dC then some λy=>(v,y) else none
 | .vptr id off, .vptr dC tS=>if eC m id=some dC∧off=tS then some λy=>y else none
 | .jv id off, .jv dC x tS=>if eC m id=some dC∧off=tS then some λy=>(x,y) else none
 | .fn f ids, .fn f' nS=>if f=f'∧zC m ids nS=true then some λy=>y else none
 | .AA t off, .AA t' x tS=>if off=tS then (Ty.cast t' t x).map λx y=>(x,y) else none
 | .kp n, .kp n'=>if n=n' then some λy=>y else none
 | .keep,_=>some λy=>y
 |_,_=>none
def r7 (m:List (Nat×Nat)):(l:List Slot)→List ah→Option (kB l)
 |[],[]=>some ()
 |x::r,d::q=>(Vz m (kB r) x d).bind λf=>(r7 m r q).map f
 |_,_=>none
def HQ (v:List (Nat×bK)) (e:Ty) (x:bK):Option (List e.D):=(gT (bf v) x).bind λy=>Ty.cast (.sl y.1) (.sl e) y.2
def mh (m:List (Nat×Nat)) (v:List (Nat×bK)):(l:List (Nat×eA))→Option (nV l)
 |[]=>some ()
 |(id, .var cs)::r=>
  match (eC m id).bind (bf v) with
  |some (.var ds)=>if cs.all Slot.isC=true then (r7 m cs ds).bind λx=>(mh m v r).map λy=>(x,y) else none
  |_=>none
 |(id, .arr e)::r=>
  match (eC m id).bind (bf v) with
  |some x=>(HQ v e x).bind λx=>(mh m v r).map λy=>(x,y)
  |none=>none
 |(id, .it)::r=>
  match (eC m id).bind (bf v) with
  |some (.it s p)=>(mh m v r).map λy=>((s,p),y)
  |_=>none
def mE (m:List (Nat×Nat)) (v:List (Nat×bK)):List (Nat×eA)→List Nat
 |[]=>[]
 |(id,_)::r=>
  match eC m id with
  |some k=>k::(((bf v k).map bz).getD []++mE m v r)
  |none=>mE m v r
def Shape.map (S:Shape) (s:du):List (Nat×Nat):=zB s.v S.v (pn S.t s.t)
def tW:List Slot→List ah→List Nat
 |x::r,d::ds=>(bif x.nW then d.ids else [])++tW r ds
 |_,_=>[]
def Shape.dec (S:Shape) (W:List (Nat×bK)) (s:du):Option S.D:=
 let m:=S.map s
 if nodupB (mE m s.v S.v)=true∧nodupB (S.v.map (·.1))=true∧m.all (λx=>(S.v.map (·.1)).contains x.1&&(decide (64≤x.1)||x.1==x.2))=true
   ∧(S.v.all λx=> !(W.map (·.1)).contains x.1)=true∧(W.all λx=>x.2.ids.all λid=> !(S.v.map (·.1)).contains id)=true∧((tW S.t s.t).all λid=> !(S.v.map (·.1)).contains id)=true∧(s.w.all λx=> !(s.v.map (·.1)).contains x.1)=true then
  (r7 m S.t s.t).bind λx=>(mh m s.v S.v).map λy=>(x,y)
 else none
def Shape.rest (S:Shape) (s:du):List (Nat×bK):=s.v.filter λx=> !(mE (S.map s) s.v S.v).contains x.1
abbrev bc:Nat:=18446744073709551616
structure aq where
 head:Shape
 out:Shape
 ret:Option Shape
 fr:Bool:=false
inductive Round (α β γ:Type) where
 |again (x:α)
 |out (y:β)
 |ret (z:γ)
def iter {α β γ:Type} (f:α→Out (Round α β γ)):Nat→α→Option (β ⊕ γ)
 |0,_=>none
 |n+1,x=>
  match (f x).eval with
  |some (.again x')=>iter f n x'
  |some (.out y)=>some (.inl y)
  |some (.ret z)=>some (.inr z)
  |none=>none
def bx {α β:Type} (f:α→Out (Round α β Empty)) (n:Nat) (x:α):Option β:=
 (iter f n x).map λr=>match r with
  | .inl y=>y
  | .inr z=>nomatch z
def PG:Option Shape→Type
 |some S=>S.D
 |none=>Empty
def zD (id:Nat) (A:aq) (r:Ex×du):Out (Round A.head.D A.out.D (PG A.ret)):=
 match r.1 with
 | .normal=> .of (A.head.dec r.2.w r.2) λx=> .ret (.again x)
 | .exit n=>if n=id then .of (A.out.dec r.2.w r.2) λy=> .ret (.out y) else .fail
 | .ret=>
   match A.ret,(inferInstance:Inhabited Unit) with
   |some S,_=> .of (S.dec r.2.w r.2) λz=> .ret (.ret z)
   |none,_=> .fail
def loose (S:Shape):List Nat:=(S.t.zipIdx.filter λx=> !x.1.nW).map (·.2)
def DY (h:List Slot) (n:Nat) (ds:List Nat) (l:List Slot):Bool:=decide (l.length=n)&&l.zipIdx.all λx=> !x.1.nW||(eo h x.2&& !ds.contains x.2)
def PH (l:List Slot):Bool:=l.all λx=> !x.nW
def aq.lH (A:aq):List Shape:=A.head::A.out::A.ret.toList
def aq.vQ (A:aq) (n:Nat) (ds:List Nat):Bool:=
 A.lH.all (λS=>DY A.head.t n ds S.t)&&(A.fr||A.lH.all λS=>PH S.t)
def aq.rest (A:aq) (s:du):List (Nat×bK):=if A.fr=true then A.head.rest s else []
def aq.known (A:aq) (s:du):List Nat:=if A.fr=true∨s.w.isEmpty=false then s.k else []
def aq.fin (A:aq) (s:du) (S:Shape) (x:S.D):du:={ S.enc s.t [] (A.known s) x with v:=dH S.v x.2++A.rest s,w:=s.w }
def FV (id:Nat) (A:aq) (ds:List Nat) (f:du→Out (Ex×du)) (s:du):Out (Ex×du):=
 if A.vQ s.t.length ds=true then
  .of (A.head.dec (A.rest s++s.w) s) λx=>
   match A.ret,(λx=>(f (A.head.enc s.t (A.rest s++s.w) (A.known s) x)).bind (zD id A):A.head.D→Out (Round A.head.D A.out.D (PG A.ret))) with
   |some S,g=> .get (iter g bc x) λr=> .alt r (λy=> .ret (.normal,A.fin s A.out y)) λz=> .ret (.ret,A.fin s S z)
   |none,g=> .get (bx g bc x) λy=> .ret (.normal,A.fin s A.out y)
 else .fail
def afc:Code→Option Code
 | .loop b=>some b
 |_=>none
def afd:Operand→List Nat
 | .tmp d=>[d]
 |_=>[]
def lI (A:Nat→Option aq):Code→List Nat
 | .seq a b=>lI A a++lI A b
 | .cond c x y=>afd c++(lI A x++lI A y)
 | .block id (.loop b)=>
   match A id with
   |some a=>lI A b++(loose a.out++(match a.ret with|some S=>loose S|none=>[]))
   |none=>[]
 | .block _ c=>lI A c
 | .region _ ops _=>ops.toList.flatMap λo=>o.dst.toList
 |_=>[]
def dt (C:Cx) (A:Nat→Option aq):Code→du→Out (Ex×du)
 | .skip,s=> .ret (.normal,s)
 | .ret,s=> .ret (.ret,s)
 | .exit n,s=> .ret (.exit n,s)
 | .seq a b,s=>(dt C A a s).bind λr=>
   match r.1 with
   | .normal=>dt C A b r.2
   |_=> .ret r
 | .cond c x y,s=>
   match HP s.kn c with
   |some true=>dt C A x s
   |some false=>dt C A y s
   |none=>
    match c,eT (λj=>s.t.getD j .dead) c with
    | .tmp d, .b p=> .ite p (dt C A x { s with t:=s.t.set d (.b true),kn:=(d,true)::s.kn }) (dt C A y { s with t:=s.t.set d (.b false),kn:=(d,false)::s.kn })
    |_,_=> .fail
 | .block id (.loop b),s=>
   match A id with
   |some a=>FV id a (lI A b) (dt C A b) s
   |none=> .fail
 | .block id c,s=>(dt C A c s).map (tV id)
 | .region id ops draw,s=>(region C id ops.toList draw s).map λs'=>(.normal,s')
 |_,_=> .fail
end
section
open Go
variable {z:Fz}
inductive Loc where
 |at (B o:Nat)
 |qQ (a:Option Addr) (len cap sz:Nat)
instance:Inhabited Loc:=⟨.at 0 0⟩
def MQ (cs:Array Value):Obj→Prop:=λo=>∃ E n,o= .cells cs E n
def MR:List (Nat×(Obj→Prop)):=[(0,MQ (Lib.pow10Tab.map λz=>Value.int .u64 z).toArray)]
def K2 (S:Nat→Prop) (w:World):Prop:=∀ p∈MR,S p.1∧∃ o,w.heap[p.1]? =some o∧p.2 o
def Dd (S:Nat→Prop) (w:World):Prop:=(∀ b,S b→b<w.heap.size)∧K2 S w
theorem K2.mono {S S':Nat→Prop} {w w':World} (h:K2 S w) (hS:∀ b,S b→S' b) (hw:∀ b,S b→w'.heap[b]? =w.heap[b]?):K2 S' w':=λp hp=>by
 obtain ⟨h1,o,h2,h3⟩:=h p hp;exact ⟨hS _ h1,o,by rw [hw _ h1];exact h2,h3⟩
structure Ctx where
 P:Program
 S:Nat→Prop
 w0:World
 M:Nat→Nat→Prop
 tok:Nat→Value
 loc:Nat→Loc
 hS:Dd S w0
def Ctx.fz (c:Ctx):Fz:=⟨c.S,c.w0⟩
def erV (v:Value) (n:Bool):Prop:=v.oneCell'=true∧if n=true then v= .nilIface else ∃ t p,v= .iface t p
mutual
def an (c:Ctx) (μ:Nat→Loc) (v:Value):ah→Prop
 | .dead=>True
 | .jj=>v.oneCell'=true
 | .undef=>v=undef
 | .b x=>v= .bool x
 | .i k x=>v= .int k x
 | .s x=>v= .string ⟨x.toArray⟩∧x.length≤aM
 | .ro e xs tk=>(Ty.sl e).aN c.S c.w0 [v] xs∧∀ k,tk=some k→v=c.tok k
 | .mD=>∃ a,v= .slice a 0 0
 | .cB id none=>∃ a len cap sz,μ id= .qQ a len cap sz∧v= .slice a len cap
 | .cB id (some (o,l))=>∃ a len cap sz a',μ id= .qQ a len cap sz∧o+l≤len∧len≤cap∧v= .slice a' l (cap - o)∧(cap - o=0∨∃ b o',a=some ⟨b,o',none⟩∧a'=some ⟨b,o'+o*sz,none⟩)
 | .vptr id off=>∃ B o,μ id= .at B o∧v= .pointer (some ⟨B,o+off,none⟩)
 | .jv id i off=>∃ b o len cap sz,μ id= .qQ (some ⟨b,o,none⟩) len cap sz∧i<len∧v= .pointer (some ⟨b,o+i*sz+off,none⟩)
 | .AA t x off=>∃ b o,c.S b∧t.aN c.S c.w0 (aE c.w0 b o t.size) x∧v= .pointer (some ⟨b,o+off,none⟩)
 | .agg ds=>∃ vs,v= .agg vs∧ai c μ vs.toList ds
 | .FQ ds=>∃ vs,v= .tuple vs∧ai c μ vs.toList ds
 | .fn f ds=>∃ vs,v= .func (.func f) #[] vs∧ai c μ vs.toList ds
 | .er n=>erV v n
 | .kp n=>v=c.tok n∧v.oneCell'=true
def ai (c:Ctx) (μ:Nat→Loc) (vs:List Value):List ah→Prop
 |[]=>vs=[]
 |d::ds=>∃ v aZ,vs=v::aZ∧an c μ v d∧ai c μ aZ ds
end
mutual
theorem an.mono {c:Ctx} {μ μ':Nat→Loc}:{v:Value}→(d:ah)→(∀ id∈d.ids,μ' id=μ id)→an c μ v d→an c μ' v d
 |_, .dead,_,h=>h
 |_, .jj,_,h=>h
 |_, .undef,_,h=>h
 |_, .b _,_,h=>h
 |_, .i _ _,_,h=>h
 |_, .s _,_,h=>h
 |_, .ro _ _ _,_,h=>h
 |_, .mD,_,h=>h
 |_, .cB id none,hm,h=>by simp only [an] at h ⊢; rwa [hm id (by simp [ah.ids])]
 |_, .cB id (some (o,l)),hm,h=>by simp only [an] at h ⊢; rwa [hm id (by simp [ah.ids])]
 |_, .vptr id off,hm,h=>by simp only [an] at h ⊢; rwa [hm id (by simp [ah.ids])]
 |_, .jv id i off,hm,h=>by simp only [an] at h ⊢; rwa [hm id (by simp [ah.ids])]
 |_, .AA _ _ _,_,h=>h
 |_, .er _,_,h=>h
 |_, .kp _,_,h=>h
 |_, .agg ds,hm,h=>by simp only [an] at h ⊢; obtain ⟨vs,e,h⟩:=h;exact ⟨vs,e,ai.mono ds (by simpa [ah.ids] using hm) h⟩
 |_, .FQ ds,hm,h=>by simp only [an] at h ⊢; obtain ⟨vs,e,h⟩:=h;exact ⟨vs,e,ai.mono ds (by simpa [ah.ids] using hm) h⟩
 |_, .fn f ds,hm,h=>by simp only [an] at h ⊢; obtain ⟨vs,e,h⟩:=h;exact ⟨vs,e,ai.mono ds (by simpa [ah.ids] using hm) h⟩
theorem ai.mono {c:Ctx} {μ μ':Nat→Loc}:{vs:List Value}→(ds:List ah)→(∀ id∈ah.bC ds,μ' id=μ id)→ai c μ vs ds→ai c μ' vs ds
 |_,[],_,h=>h
 |_,d::ds,hm,h=>by
  simp only [ai] at h ⊢; obtain ⟨v,aZ,e,h1,h2⟩:=h;exact ⟨v,aZ,e,an.mono d (λid hi=>hm id (by simp [ah.bC,hi])) h1,ai.mono ds (λid hi=>hm id (by simp [ah.bC,hi])) h2⟩
end
theorem ai.length {c:Ctx} {μ:Nat→Loc}:{vs:List Value}→{ds:List ah}→ai c μ vs ds→vs.length=ds.length
 |_,[],h=>by simp only [ai] at h;subst h;rfl
 |_,_::_,h=>by simp only [ai] at h;obtain ⟨v,aZ,rfl,_,h⟩:=h;simp [ai.length h]
theorem ai.append {c:Ctx} {μ:Nat→Loc}:{vs us:List Value}→{ds es:List ah}→ai c μ vs ds→ai c μ us es→ai c μ (vs++us) (ds++es)
 |_,_,[],_,h,h'=>by simp only [ai] at h;subst h;exact h'
 |_,_,_::_,_,h,h'=>by
  simp only [ai] at h;obtain ⟨v,aZ,rfl,h1,h⟩:=h;simp only [List.cons_append,ai];exact ⟨v,_,rfl,h1,ai.append h h'⟩
theorem ai.get {c:Ctx} {μ:Nat→Loc}:{vs:List Value}→{ds:List ah}→ai c μ vs ds→∀ {j:Nat} {d:ah},ds[j]? =some d→∃ v,vs[j]? =some v∧an c μ v d
 |_,[],_,_,_,hd=>by simp at hd
 |_,_::_,h,j,d,hd=>by
  simp only [ai] at h;obtain ⟨v,aZ,rfl,h1,h⟩:=h;cases j with
  |zero=>simp at hd;subst hd;exact ⟨v,rfl,h1⟩
  |succ j=>simpa using ai.get h (j:=j) (d:=d) (by simpa using hd)
theorem ai.zE {c:Ctx} {μ:Nat→Loc}:{vs:List Value}→{ds:List ah}→vs.length=ds.length→(∀ (j:Nat) (d:ah) (v:Value),ds[j]? =some d→vs[j]? =some v→an c μ v d)→ai c μ vs ds
 |vs,[],hl,_=>by simp only [ai];exact acp (by simpa using hl)
 |[],_::_,hl,_=>by simp at hl
 |v::vs,d::ds,hl,h=>by
  simp only [ai];exact ⟨v,vs,rfl,h 0 d v rfl rfl,ai.zE (by simpa using hl) λj d' v' h1 h2=>h (j+1) d' v' (by simpa using h1) (by simpa using h2)⟩
theorem ai.take {c:Ctx} {μ:Nat→Loc} {vs:List Value} {ds:List ah} (h:ai c μ vs ds) (n:Nat):ai c μ (vs.take n) (ds.take n):=by
 have hl:=h.length;refine ai.zE (by simp [hl]) λj d v hd hv=> ?_;rw [afD] at hd hv;split at hd
 . rename_i hj;simp only [hj,ae4] at hv;obtain ⟨u,hu,hr⟩:=h.get hd;rw [hu] at hv;cases hv;exact hr
 . simp at hd
theorem ai.drop {c:Ctx} {μ:Nat→Loc} {vs:List Value} {ds:List ah} (h:ai c μ vs ds) (n:Nat):ai c μ (vs.drop n) (ds.drop n):=by
 have hl:=h.length;refine ai.zE (by simp [hl]) λj d v hd hv=> ?_;rw [ab8] at hd hv;obtain ⟨u,hu,hr⟩:=h.get hd;rw [hu] at hv;cases hv;exact hr
theorem po (a b:List ah):ah.bC (a++b)=ah.bC a++ah.bC b:=by
 induction a with
 |nil=>rfl
 |cons x xs ih=>simp [ah.bC,ih]
theorem gb {ds:List ah} {id:Nat}:id∈ah.bC ds↔∃ d∈ds,id∈d.ids:=by
 induction ds with
 |nil=>simp [ah.bC]
 |cons x xs ih=>simp [ah.bC,ih]
theorem an.iA {c:Ctx} {μ:Nat→Loc} {v:Value} {d:ah} (h:an c μ v d) (hc:d.bs=true):v.oneCell'=true:=by
 cases d with
 |dead=>simp [ah.bs] at hc
 |undef=>simp [ah.bs] at hc
 |agg _=>simp [ah.bs] at hc
 |FQ _=>simp [ah.bs] at hc
 |jj=>exact h
 |b x=>simp only [an] at h;subst h;rfl
 |i k x=>simp only [an] at h;subst h;rfl
 |s x=>simp only [an] at h;rw [h.1];rfl
 |ro e xs tk=>simp only [an] at h;obtain ⟨h,_⟩:=h;simp only [Ty.aN] at h;obtain ⟨a,cap,e,_⟩:=h;cases e;rfl
 |mD=>simp only [an] at h;obtain ⟨a,rfl⟩:=h;rfl
 |cB id vw=>
  rcases vw with _|⟨o,l⟩
  . simp only [an] at h;obtain ⟨a,len,cap,sz,_,rfl⟩:=h;rfl
  . simp only [an] at h;obtain ⟨a,len,cap,sz,a',_,_,_,rfl,_⟩:=h;rfl
 |vptr id off=>simp only [an] at h;obtain ⟨B,o,_,rfl⟩:=h;rfl
 |jv id i off=>simp only [an] at h;obtain ⟨b,o,len,cap,sz,_,_,rfl⟩:=h;rfl
 |AA t x off=>simp only [an] at h;obtain ⟨b,o,_,_,rfl⟩:=h;rfl
 |fn f ds=>simp only [an] at h;obtain ⟨vs,rfl,_⟩:=h;rfl
 |er n=>exact h.1
 |kp n=>exact h.2
theorem gf {v:Value} (h:v.oneCell'=true):v.cells= #[v]:=by cases v<;>simp_all [Value.oneCell',Value.cells]
theorem an.cells {c:Ctx} {μ:Nat→Loc} {v:Value} {d:ah} (h:an c μ v d) (hc:d.cells.all ah.bs=true):ai c μ v.cells.toList d.cells:=by
 by_cases ha:∃ ds,d= .agg ds
 . obtain ⟨ds,rfl⟩:=ha
   simp only [an] at h;obtain ⟨vs,rfl,h⟩:=h;exact h
 . have hd:d.cells=[d]:=by cases d<;>first|rfl|exact absurd ⟨_,rfl⟩ ha
   rw [hd] at hc ⊢;simp only [ack,List.all_nil,afy] at hc;rw [gf (h.iA hc)];simp only [ai];exact ⟨v,[],rfl,h,rfl⟩
def HR (z:Fz) (w:World) (a:Option Addr) (cap:Nat) (e:Ty) (xs:List e.D) (i off:Nat) (u:Ty) (h:Loc) (fp:List Nat):Prop:=
 ∃ a' mY jP e' b o C E,h= .qQ a' mY jP (Ty.size e')∧u= .sl e'∧a=some ⟨b,o,none⟩∧b∈fp∧w.heap[b]? =some (.cells C E (0,0))∧
 C[o+i*e.size+off]? =some (.slice a' mY jP)∧
 ∀ (z':Fz) (w':World) (C':Array Value) (hd:Value) (ys:u.D) (fp':List Nat),z.le z'→w'.heap[b]? =some (.cells C' E (0,0))→C'.size=C.size→(∀ j,j≠o+i*e.size+off→C'[j]? =C[j]?)→
   C'[o+i*e.size+off]? =some hd→(∀ b'∈fp,b'≠b→w'.heap[b']? =w.heap[b']?)→u.ar z' w' [hd] ys fp'→
   ∃ x x' Tq,xs[i]? =some x∧e.cw x off u ys=some x'∧(Ty.sl e).ar z' w' [.slice a xs.length cap] (xs.set i x') Tq∧Tq.Perm (fp++fp')
def Tr (z:Fz) (w:World) (a:Option Addr) (cap:Nat) (e:Ty) (xs:List e.D) (i b o:Nat) (C:Array Value) (E:TypeId) (p q:List Nat):Prop:=
 ∀ (z':Fz) (w':World) (x':e.D) (GN:List Nat) (C':Array Value),z.le z'→w'.heap[b]? =some (.cells C' E (0,0))→C'.size=C.size→
   (∀ j,j<o+i*e.size∨o+(i+1)*e.size≤j→C'[j]? =C[j]?)→(∀ b'∈p++q,w'.heap[b']? =w.heap[b']?)→b ∉ p++q→
   e.ar z' w' (aE w' b (o+i*e.size) e.size) x' GN→(Ty.sl e).ar z' w' [.slice a xs.length cap] (xs.set i x') (b::(p++GN++q))
theorem Tr.frame {z z1:Fz} {w w1:World} {a:Option Addr} {cap:Nat} {e:Ty} {xs:List e.D} {i b o:Nat} {C C1:Array Value} {E:TypeId} {p q:List Nat} (h:Tr z w a cap e xs i b o C E p q) (hz:z.le z1)
  (hs:∀ b'∈p++q,w1.heap[b']? =w.heap[b']?) (hC:C1.size=C.size) (hj:∀ j,j<o+i*e.size∨o+(i+1)*e.size≤j→C1[j]? =C[j]?):Tr z1 w1 a cap e xs i b o C1 E p q:=
 λz' w' x' GN C' q1 q2 q3 q4 q5 q6 q7=>h z' w' x' GN C' (Fz.le_trans hz q1) q2 (q3.trans hC) (λj GU=>(q4 j GU).trans (hj j GU)) (λb' b8=>(q5 b' b8).trans (hs b' b8)) q6 q7
def cz (c:Ctx) (μ:Nat→Loc) (w:World) (id:Nat) (fp:List Nat):bK→Prop
 | .var cs=>∃ B o C E,μ id= .at B o∧fp=[B]∧w.heap[B]? =some (.cells C E (0,0))∧o+cs.length≤C.size∧
  ai c μ (aE w B o cs.length) cs∧cs.all ah.bs=true∧(B<c.w0.heap.size→∀ j,j<cs.length→c.M B (o+j))
 | .arr e xs=>∃ a cap,μ id= .qQ a xs.length cap e.size∧(Ty.sl e).ar c.fz w [.slice a xs.length cap] xs fp∧(∀ b∈fp,b<c.w0.heap.size→∀ j,c.M b j)
 | .zv e xs x i off u dC=>∃ a cap,μ id= .qQ a xs.length cap e.size∧HR c.fz w a cap e xs i off u (μ dC) fp∧(∀ b∈fp,b<c.w0.heap.size→∀ j,c.M b j)∧xs.length≤cap∧(cap=0∨∃ b o,a=some ⟨b,o,none⟩)∧xs[i]? =some x
 | .tP e xs i cs=>∃ a cap b o C E p q,μ id= .qQ a xs.length cap e.size∧a=some ⟨b,o,none⟩∧fp=b::(p++q)∧w.heap[b]? =some (.cells C E (0,0))∧o+cap*e.size≤C.size∧xs.length≤cap∧i<xs.length∧
  Tr c.fz w a cap e xs i b o C E p q∧ai c μ (aE w b (o+i*e.size) e.size) cs∧cs.length=e.size∧cs.all ah.bs=true∧b ∉ p++q∧(∀ b∈fp,b<c.w0.heap.size→∀ j,c.M b j)
 | .cut e ys k=>∃ a cap a',μ id= .qQ a (k+ys.length) cap e.size∧k+ys.length≤cap∧(0<cap→∃ b o,a=some ⟨b,o,none⟩)∧(cap - k=0∨∃ b o,a=some ⟨b,o,none⟩∧a'=some ⟨b,o+k*e.size,none⟩)∧
  (Ty.sl e).ar c.fz w [.slice a' ys.length (cap - k)] ys fp∧(∀ b∈fp,b<c.w0.heap.size→∀ j,c.M b j)
 | .it s p=>∃ B,μ id= .at B 0∧fp=[B]∧w.heap[B]? =some (.stringIter ⟨s.toArray⟩ p)∧s.length≤aM∧(B<c.w0.heap.size→c.M B 0)
structure cJ (c:Ctx) (μ:Nat→Loc) (fp:Nat→List Nat) (v:Env) (w:World):Prop where
 rel:∀ id x,v id=some x→cz c μ w id (fp id) x
 nodup:∀ id x,v id=some x→(fp id).Nodup
 sep:∀ id dC,id≠dC→v id≠none→v dC≠none→∀ b∈fp id,b ∉ fp dC
 iQ:∀ id,v id≠none→∀ b∈fp id,¬ c.S b
 lt:∀ id,v id≠none→∀ b∈fp id,b<w.heap.size
structure Ev (c:Ctx) (w:World):Prop where
 size:c.w0.heap.size≤w.heap.size
 os:w.os=c.w0.os
 output:w.output=c.w0.output
 S:∀ b,c.S b→w.heap[b]? =c.w0.heap[b]?
 wH:∀ b,b<c.w0.heap.size→w.heap[b]? =c.w0.heap[b]? ∨(∃ C C' E,c.w0.heap[b]? =some (.cells C E (0,0))∧w.heap[b]? =some (.cells C' E (0,0))∧C'.size=C.size∧∀ j,¬ c.M b j→C'[j]? =C[j]?)∨(c.M b 0∧∃ s p p',c.w0.heap[b]? =some (.stringIter s p)∧w.heap[b]? =some (.stringIter s p'))
 frozen:∀ a,a.block<c.w0.heap.size→w.frozen? a=c.w0.frozen? a
theorem Ev.comp {c c1:Ctx} {w w':World} (h:Ev c w) (h':Ev c1 w') (hw:c1.w0=w) (hS:∀ b,c.S b→c1.S b) (hM:∀ b j,b<c.w0.heap.size→c1.M b j→c.M b j):Ev c w':=by
 subst hw;refine ⟨abG h.size h'.size,h'.os.trans h.os,h'.output.trans h.output,λb hb=>(h'.S b (hS b hb)).trans (h.S b hb),λb hb=> ?_,λa ha=>(h'.frozen a (aci ha h.size)).trans (h.frozen a ha)⟩;have b8:=aci hb h.size;rcases h'.wH b b8 with e'|⟨D,D',T,a1,a2,a3,a4⟩|⟨m1,s1,p1,p2,a1,a2⟩
 . rw [e'];exact h.wH b hb
 . rcases h.wH b hb with e|⟨C,C',T',b1,b2,b3,b4⟩|⟨_,_,_,_,_,b2⟩
   . exact .inr (.inl ⟨D,D',T,by rw [← e,a1],a2,a3,λj hj=>a4 j λhm=>hj (hM b j hb hm)⟩)
   . rw [a1] at b2;cases b2
     exact .inr (.inl ⟨C,D',T,b1,a2,a3.trans b3,λj hj=>(a4 j λhm=>hj (hM b j hb hm)).trans (b4 j hj)⟩)
   . rw [a1] at b2;cases b2
 . rcases h.wH b hb with e|⟨C,C',T',b1,b2,b3,b4⟩|⟨_,s2,p3,p4,b1,b2⟩
   . exact .inr (.inr ⟨hM b 0 hb m1,s1,p1,p2,by rw [← e,a1],a2⟩)
   . rw [a1] at b2;cases b2
   . rw [a1] at b2;cases b2
     exact .inr (.inr ⟨hM b 0 hb m1,_,_,_,b1,a2⟩)
structure Ext (c c':Ctx):Prop where
 P:c'.P=c.P
 tok:c'.tok=c.tok
 loc:c'.loc=c.loc
 S:∀ b,c.S b→c'.S b
 new:∀ b,c'.S b→c.S b∨c.w0.heap.size≤b∨∀ j,c.M b j
 ev:Ev c c'.w0
 M:∀ b j,b<c.w0.heap.size→c'.M b j→c.M b j
theorem Ev.start (c:Ctx):Ev c c.w0:=⟨abE _,rfl,rfl,λ_ _=>rfl,λ_ _=> .inl rfl,λ_ _=>rfl⟩
theorem Ext.refl (c:Ctx):Ext c c:=⟨rfl,rfl,rfl,λ_ h=>h,λ_ h=> .inl h,Ev.start c,λ_ _ _ h=>h⟩
theorem Ext.back {c c':Ctx} {w:World} (h:Ext c c') (ev:Ev c' w):Ev c w:=h.ev.comp ev rfl h.S h.M
theorem Ext.trans {a b c:Ctx} (h:Ext a b) (h':Ext b c):Ext a c where
 P:=h'.P.trans h.P
 tok:=h'.tok.trans h.tok
 loc:=h'.loc.trans h.loc
 S x hx:=h'.S x (h.S x hx)
 new x hx:=by
  rcases h'.new x hx with hx|hx|hx
  . exact h.new x hx
  . exact .inr (.inl (abG h.ev.size hx))
  . rcases acH x a.w0.heap.size with bS|GP
    . exact .inr (.inr λj=>h.M x j bS (hx j))
    . exact .inr (.inl GP)
 ev:=h.back h'.ev
 M x j bS hm:=h.M x j bS (h'.M x j (aci bS h.ev.size) hm)
mutual
theorem an.ext {c c':Ctx} (h:Ext c c') {μ:Nat→Loc}:{v:Value}→(d:ah)→an c μ v d→an c' μ v d
 |_, .dead,h1=>h1
 |_, .jj,h1=>h1
 |_, .undef,h1=>h1
 |_, .b _,h1=>h1
 |_, .i _ _,h1=>h1
 |_, .s _,h1=>h1
 |_, .er _,h1=>h1
 |_, .kp n,h1=>by simp only [an] at h1 ⊢; rw [h.tok];exact h1
 |_, .ro e xs tk,h1=>by
  simp only [an] at h1 ⊢;exact ⟨Ty.dM (λb hb=>⟨h.S b hb,h.ev.S b hb⟩) _ h1.1,λk hk=>by rw [h.tok];exact h1.2 k hk⟩
 |_, .mD,h1=>h1
 |_, .cB id none,h1=>h1
 |_, .cB id (some (o,l)),h1=>h1
 |_, .vptr id off,h1=>h1
 |_, .jv id i off,h1=>h1
 |_, .AA t x off,h1=>by
  simp only [an] at h1 ⊢;obtain ⟨b,o,hb,h1,h2⟩:=h1;refine ⟨b,o,h.S b hb, ?_,h2⟩;rw [eN (h.ev.S b hb)];exact Ty.dM (λb hb=>⟨h.S b hb,h.ev.S b hb⟩) _ h1
 |_, .agg ds,h1=>by simp only [an] at h1 ⊢; obtain ⟨vs,e,h1⟩:=h1;exact ⟨vs,e,ai.ext h ds h1⟩
 |_, .FQ ds,h1=>by simp only [an] at h1 ⊢; obtain ⟨vs,e,h1⟩:=h1;exact ⟨vs,e,ai.ext h ds h1⟩
 |_, .fn f ds,h1=>by simp only [an] at h1 ⊢; obtain ⟨vs,e,h1⟩:=h1;exact ⟨vs,e,ai.ext h ds h1⟩
theorem ai.ext {c c':Ctx} (h:Ext c c') {μ:Nat→Loc}:{vs:List Value}→(ds:List ah)→ai c μ vs ds→ai c' μ vs ds
 |_,[],h1=>h1
 |_,d::ds,h1=>by
  simp only [ai] at h1 ⊢; obtain ⟨v,aZ,e,h1,h2⟩:=h1;exact ⟨v,aZ,e,an.ext h d h1,ai.ext h ds h2⟩
end
def Ctx.next (c:Ctx) (w:World) (S':Nat→Prop) (r8:Dd S' w):Ctx where
 P:=c.P
 S:=S'
 w0:=w
 M:=λb j=>c.M b j∨c.w0.heap.size≤b
 tok:=c.tok
 loc:=c.loc
 hS:=r8
theorem Ext.next {c:Ctx} {w:World} {S':Nat→Prop} {r8:Dd S' w} (ev:Ev c w) (h:∀ b,c.S b→S' b) (h':∀ b,S' b→c.S b∨c.w0.heap.size≤b∨∀ j,c.M b j):Ext c (c.next w S' r8) where
 P:=rfl
 tok:=rfl
 loc:=rfl
 S:=h
 new:=h'
 ev:=ev
 M b j bS hm:=by
   rcases hm with hm|hm
   . exact hm
   . omega
theorem Ext.fz {c c':Ctx} (h:Ext c c'):c.fz.le c'.fz:=λb hb=>⟨h.S b hb,h.ev.S b hb⟩
theorem HR.mono {z z':Fz} (hz:z.le z') {w:World} {a:Option Addr} {cap:Nat} {e:Ty} {xs:List e.D} {i off:Nat} {u:Ty} {h:Loc} {fp:List Nat} (hw:HR z w a cap e xs i off u h fp):HR z' w a cap e xs i off u h fp:=by
 obtain ⟨a',mY,jP,e',b,o,C,E,h1,h2,h3,h4,h5,h6,h7⟩:=hw;exact ⟨a',mY,jP,e',b,o,C,E,h1,h2,h3,h4,h5,h6,λz'' w'' C' hd ys fp' q=>h7 z'' w'' C' hd ys fp' (Fz.le_trans hz q)⟩
theorem cz.next {c:Ctx} {μ:Nat→Loc} {w w1:World} {S':Nat→Prop} {r8:Dd S' w1} (e:Ext c (c.next w1 S' r8)) {id:Nat} {f:List Nat} {x:bK} (h1:cz c μ w id f x):cz (c.next w1 S' r8) μ w id f x:=by
 have hM:∀ b j,(b<c.w0.heap.size→c.M b j)→(c.next w1 S' r8).M b j:=λb j hb=>by
  rcases acH b c.w0.heap.size with bS|GP
  . exact .inl (hb bS)
  . exact .inr GP
 cases x with
 |var cs=>
  obtain ⟨B,o,C,E,h1,h2,h3,h4,h5,h6,h7⟩:=h1;exact ⟨B,o,C,E,h1,h2,h3,h4,ai.ext e cs h5,h6,λ_ j hj=>hM B (o+j) λbS=>h7 bS j hj⟩
 |arr el xs=>
  obtain ⟨a,cap,h1,h2,h3⟩:=h1;exact ⟨a,cap,h1,Ty.cZ e.fz _ h2,λb hb _ j=>hM b j λbS=>h3 b hb bS j⟩
 |zv el xs x i off u dC=>
  obtain ⟨a,cap,h1,h2,h3,h4⟩:=h1;exact ⟨a,cap,h1,h2.mono e.fz,λb hb _ j=>hM b j λbS=>h3 b hb bS j,h4⟩
 |it s p=>
  obtain ⟨B,h1,h2,h3,h4,h5⟩:=h1;exact ⟨B,h1,h2,h3,h4,λ_=>hM B 0 h5⟩
 |cut el ys k=>
  obtain ⟨a,cap,a',h1,h2,h3,h4,h5,h6⟩:=h1;exact ⟨a,cap,a',h1,h2,h3,h4,Ty.cZ e.fz _ h5,λb hb _ j=>hM b j λbS=>h6 b hb bS j⟩
 |tP el xs i cs=>
  obtain ⟨a,cap,b,o,C,E,p,q,h1,h2,h3,h4,h5,h6,h7,h8,h9,RR,RS,Ym,LS⟩:=h1;exact ⟨a,cap,b,o,C,E,p,q,h1,h2,h3,h4,h5,h6,h7,h8.frame e.fz (λ_ _=>rfl) rfl λ_ _=>rfl,ai.ext e cs h9,RR,RS,Ym,λb hb _ j=>hM b j λbS=>LS b hb bS j⟩
theorem cJ.next {c:Ctx} {μ:Nat→Loc} {fp:Nat→List Nat} {v:Env} {w w1:World} {S':Nat→Prop} {r8:Dd S' w1} (e:Ext c (c.next w1 S' r8)) (h:cJ c μ fp v w) (hn:∀ id,v id≠none→∀ b∈fp id,¬ S' b):
  cJ (c.next w1 S' r8) μ fp v w where
 rel id x hx:=(h.rel id x hx).next e
 nodup:=h.nodup
 sep:=h.sep
 iQ:=hn
 lt:=h.lt
structure om (s:kM):Prop where
 t:∀ j,∀ id∈(s.t j).ids,s.k id
 v:∀ id x,s.v id=some x→s.k id∧∀ dC∈x.ids,s.k dC
structure il (c:Ctx) (μ:Nat→Loc) (fp:Nat→List Nat) (s:kM) (n:Nat) (a:Act) (w:World):Prop where
 tm:∀ j,an c μ (a.tmps.getD j Go.undef) (s.t j)
 n:n≤a.tmps.size
 defers:a.defers=[]
 vs:cJ c μ fp s.v w
 known:om s
 ev:Ev c w
 fix:∀ id,id<64→s.k id∧μ id=c.loc id
theorem AO (w:World) (C:Array Value) (E:TypeId) (a:Addr):(w.alloc (.cells C E)).frozen? a=w.frozen? a:=by
 rcases Nat.lt_trichotomy a.block w.heap.size with h|h|h
 . simp only [World.frozen?]
   rw [heap_alloc_old w _ a.block h]
 . simp only [World.frozen?]
   have e2:w.heap[a.block]? =none:=by rw [h];simp
   have e1:(w.alloc (.cells C E)).heap[a.block]? =some (.cells C E (0,0)):=by rw [h];exact heap_alloc_new w _
   rw [e1,e2];simp
 . simp only [World.frozen?]
   have e2:w.heap[a.block]? =none:=by simp;omega
   have e1:(w.alloc (.cells C E)).heap[a.block]? =none:=by simp;omega
   rw [e1,e2]
theorem zH {w:World} {b:Nat} {C C':Array Value} {E:TypeId} (hb:w.heap[b]? =some (.cells C E (0,0))) (a:Addr):(w.setRow b C').frozen? a=w.frozen? a:=by
 simp only [World.frozen?];by_cases h:a.block=b
 . rw [h,setRow_heap w b C C' E (0,0) hb,hb]
 . rw [setRow_other w b a.block C' h]
theorem Ev.alloc {c:Ctx} {w:World} (h:Ev c w) (C:Array Value) (E:TypeId):Ev c (w.alloc (.cells C E)) where
 size:=by simp;have:=h.size;omega
 os:=h.os
 output:=h.output
 S b hb:=by
   have:=c.hS.1 b hb;have:=h.size;rw [heap_alloc_old w _ b (by omega)];exact h.S b hb
 wH b hb:=by
  have:=h.size;rw [heap_alloc_old w _ b (by omega)];exact h.wH b hb
 frozen a ha:=(AO w C E a).trans (h.frozen a ha)
theorem Ev.drew {c:Ctx} {w:World} (h:Ev c w):Ev c w.drew:=⟨h.size,h.os,h.output,h.S,h.wH,h.frozen⟩
theorem Ev.setRow {c:Ctx} {w:World} (h:Ev c w) {b:Nat} {C C':Array Value} {E:TypeId} (hb:w.heap[b]? =some (.cells C E (0,0))) (hs:¬ c.S b)
  (hz:C'.size=C.size) (hm:b<c.w0.heap.size→∀ j,¬ c.M b j→C'[j]? =C[j]?):Ev c (w.setRow b C') where
 size:=by simp;exact h.size
 os:=h.os
 output:=h.output
 S b' b8:=by
   have:b'≠b:=λe=>hs (e ▸ b8);rw [setRow_other w b b' C' this];exact h.S b' b8
 wH b' b8:=by
  by_cases e:b'=b
  . subst e
    rw [setRow_heap w b' C C' E (0,0) hb];rcases h.wH b' b8 with h1|⟨C0,C1,E1,h0,h1,h2,h3⟩|⟨_,_,_,_,_,h1⟩
    . exact .inr (.inl ⟨C,C',E,by rw [← h1,hb],rfl,hz,hm b8⟩)
    . rw [hb] at h1;cases h1
      exact .inr (.inl ⟨C0,C',E,h0,rfl,hz.trans h2,λj hj=>(hm b8 j hj).trans (h3 j hj)⟩)
    . rw [hb] at h1;cases h1
  . rw [setRow_other w b b' C' e];exact h.wH b' b8
 frozen a ha:=(zH hb a).trans (h.frozen a ha)
theorem ck {w:World} {b:Nat} {C:Array Value} {E:TypeId} {fr:Nat×Nat} (h:w.heap[b]? =some (.cells C E fr)) (o n:Nat):aE w b o n=(C.toList.drop o).take n:=by
 simp [aE,h]
theorem HR.frame {w w':World} {a:Option Addr} {cap:Nat} {e:Ty} {xs:List e.D} {i off:Nat} {u:Ty} {h:Loc} {fp:List Nat}
  (hw:HR z w a cap e xs i off u h fp) (hs:∀ b∈fp,w'.heap[b]? =w.heap[b]?):HR z w' a cap e xs i off u h fp:=by
 obtain ⟨a',mY,jP,e',b,o,C,E,h1,h2,h3,h4,h5,h6,h7⟩:=hw;exact ⟨a',mY,jP,e',b,o,C,E,h1,h2,h3,h4,(hs b h4).trans h5,h6,λz'' w'' C' hd ys fp' q0 q1 q2 q3 q4 q5=>h7 z'' w'' C' hd ys fp' q0 q1 q2 q3 q4 λb' hb dV=>(q5 b' hb dV).trans (hs b' hb)⟩
theorem cz.frame {c:Ctx} {μ μ':Nat→Loc} {w w':World} {id:Nat} {fp:List Nat} {x:bK} (h:cz c μ w id fp x)
  (hs:∀ b∈fp,w'.heap[b]? =w.heap[b]?) (zI:μ' id=μ id) (hi:∀ dC∈x.ids,μ' dC=μ dC):cz c μ' w' id fp x:=by
 cases x with
 |var cs=>
  obtain ⟨B,o,C,E,h1,rfl,h2,h3,h4,h5,h6⟩:=h;refine ⟨B,o,C,E,zI.trans h1,rfl,(hs B (by simp)).trans h2,h3, ?_,h5,h6⟩;rw [eN (hs B (by simp))];exact ai.mono cs hi h4
 |arr e xs=>
  obtain ⟨a,cap,h1,h2,h3⟩:=h;exact ⟨a,cap,zI.trans h1,Ty.cR _ h2 hs,h3⟩
 |zv e xs x i off u dC=>
  obtain ⟨a,cap,h1,h2,h3,h4⟩:=h;refine ⟨a,cap,zI.trans h1, ?_,h3,h4⟩;rw [hi dC (by simp [bK.ids])];exact h2.frame hs
 |it s p=>
  obtain ⟨B,h1,rfl,h2,h3,h4⟩:=h;exact ⟨B,zI.trans h1,rfl,(hs B (by simp)).trans h2,h3,h4⟩
 |cut e ys k=>
  obtain ⟨a,cap,a',h1,h2,h3,h4,h5,h6⟩:=h;exact ⟨a,cap,a',zI.trans h1,h2,h3,h4,Ty.cR _ h5 hs,h6⟩
 |tP e xs i cs=>
  obtain ⟨a,cap,b,o,C,E,p,q,h1,h2,rfl,h4,h5,h6,h7,h8,h9,RR,RS,Ym,LS⟩:=h;refine ⟨a,cap,b,o,C,E,p,q,zI.trans h1,h2,rfl,(hs b (by simp)).trans h4,h5,h6,h7,h8.frame (Fz.le_refl _) (λb' b8=>hs b' (afm _ b8)) rfl (λ_ _=>rfl), ?_,RR,RS,Ym,LS⟩;rw [eN (hs b (by simp))];exact ai.mono cs hi h9
theorem cJ.frame {c:Ctx} {μ μ':Nat→Loc} {fp:Nat→List Nat} {v:Env} {w w':World} (h:cJ c μ fp v w) (hz:w.heap.size≤w'.heap.size)
  (hs:∀ id,v id≠none→∀ b∈fp id,w'.heap[b]? =w.heap[b]?) (zI:∀ id x,v id=some x→μ' id=μ id∧∀ dC∈x.ids,μ' dC=μ dC):cJ c μ' fp v w' where
 rel id x hx:=(h.rel id x hx).frame (hs id (by simp [hx])) (zI id x hx).1 (zI id x hx).2
 nodup:=h.nodup
 sep:=h.sep
 iQ:=h.iQ
 lt id hx b hb:=aci (h.lt id hx b hb) hz
end
section
open Go
variable {z:Fz}
mutual
theorem Ty.beq_refl:(t:Ty)→t.beq t=true
 | .bool=>rfl
 | .int _=>by simp [Ty.beq]
 | .str=>rfl
 | .hole=>rfl
 | .sl e=>by simp only [Ty.beq];exact Ty.beq_refl e
 | .fz e=>by simp only [Ty.beq];exact Ty.beq_refl e
 | .st fs=>by simp only [Ty.beq];exact aI.beq_refl fs
theorem aI.beq_refl:(t:aI)→t.beq t=true
 | .nil=>rfl
 | .cons t ts=>by simp_all [aI.beq,Ty.beq_refl,aI.beq_refl]
end
theorem Ty.eh (t:Ty) (x:t.D):Ty.cast t t x=some x:=by simp_all [Ty.cast,Ty.beq_refl]
def afe (z:Fz) (w:World) (t:Ty) (cs:List Value) (x:t.D) (fp:List Nat) (off:Nat) (u:Ty) (y:u.D):Prop:=
 ∃ pre uJ post f1 fm f2,cs=pre++uJ++post∧pre.length=off∧fp=f1++fm++f2∧u.ar z w uJ y fm∧
   ∀ (z':Fz) (w':World) (vR:List Value) (y':u.D) (K3:List Nat),z.le z'→(∀ b∈f1++f2,w'.heap[b]? =w.heap[b]?)→u.ar z' w' vR y' K3→
     ∃ x',t.cw x off u y'=some x'∧t.ar z' w' (pre++vR++post) x' (f1++K3++f2)
def aff (z:Fz) (w:World) (t:aI) (cs:List Value) (x:t.D) (fp:List Nat) (off:Nat) (u:Ty) (y:u.D):Prop:=
 ∃ pre uJ post f1 fm f2,cs=pre++uJ++post∧pre.length=off∧fp=f1++fm++f2∧u.ar z w uJ y fm∧
   ∀ (z':Fz) (w':World) (vR:List Value) (y':u.D) (K3:List Nat),z.le z'→(∀ b∈f1++f2,w'.heap[b]? =w.heap[b]?)→u.ar z' w' vR y' K3→
     ∃ x',t.cw x off u y'=some x'∧t.ar z' w' (pre++vR++post) x' (f1++K3++f2)
theorem jd {w:World} {t:Ty} {cs:List Value} {x:t.D} {fp:List Nat} {u:Ty} {y:u.D} (h:t.ar z w cs x fp) (hc:Ty.cast t u x=some y)
  (Fe:∀ y',t.cw x 0 t y'=some y'):afe z w t cs x fp 0 u y:=by
 obtain ⟨rfl,rfl⟩:=Ty.dm hc;refine ⟨[],cs,[],[],fp,[],by simp,rfl,by simp,h,by grind⟩
mutual
theorem Ty.kX {w:World}:(t:Ty)→{cs:List Value}→{x:t.D}→{fp:List Nat}→{off:Nat}→{u:Ty}→{y:u.D}→t.ar z w cs x fp→t.cq x off u=some y→afe z w t cs x fp off u y
 | .bool,_,x,_,off,u,_,h,hg=>by grind [Ty.cq,jd,Ty.cw,Ty.eh]
 | .int _,_,x,_,off,u,_,h,hg=>by grind [Ty.cq,jd,Ty.cw,Ty.eh]
 | .str,_,x,_,off,u,_,h,hg=>by grind [Ty.cq,jd,Ty.cw,Ty.eh]
 | .hole,_,x,_,off,u,_,h,hg=>by grind [Ty.cq,jd,Ty.cw,Ty.eh]
 | .sl _,_,x,_,off,u,_,h,hg=>by grind [Ty.cq,jd,Ty.cw,Ty.eh]
 | .fz _,_,x,_,off,u,_,h,hg=>by grind [Ty.cq,jd,Ty.cw,Ty.eh]
 | .st fs,cs,x,fp,off,u,y,h,hg=>by
   simp only [Ty.cq] at hg;split at hg
   . rename_i h0
     obtain ⟨rfl,hb⟩:=h0;exact jd h hg λy'=>by simp [Ty.cw,Ty.beq_refl,Ty.eh]
   . rename_i h0
     have h':fs.ar z w cs x fp:=by grind [Ty.ar]
     obtain ⟨pre,uJ,post,f1,fm,f2,h1,h2,h3,h4,h5⟩:=aI.kX fs h' hg;refine ⟨pre,uJ,post,f1,fm,f2,h1,h2,h3,h4,λz' w' vR y' K3 hz hs hr=> ?_⟩;obtain ⟨x',hx,FO⟩:=h5 z' w' vR y' K3 hz hs hr;refine ⟨x', ?_,by grind [Ty.ar]⟩;have:¬ (off=0∧u.beq (.st fs)=true):=by grind [Ty.beq_eq,Ty.beq_refl]
     simp only [Ty.cw,this];exact hx
theorem aI.kX {w:World}:(t:aI)→{cs:List Value}→{x:t.D}→{fp:List Nat}→{off:Nat}→{u:Ty}→{y:u.D}→t.ar z w cs x fp→t.cq x off u=some y→aff z w t cs x fp off u y
 | .nil,_,_,_,_,_,_,_,hg=>by grind [aI.cq]
 | .cons t ts,_,x,_,off,u,y,h,hg=>by
   simp only [aI.ar] at h;obtain ⟨c1,c2,g1,g2,rfl,rfl,hr1,hr2⟩:=h;simp only [aI.cq] at hg;split at hg
   . rename_i bS
     obtain ⟨pre,uJ,post,f1,fm,f2,rfl,h2,rfl,h4,h5⟩:=Ty.kX t hr1 hg;refine ⟨pre,uJ,post++c2,f1,fm,f2++g2,by simp,h2,by simp,h4,λz' w' vR y' K3 hz hs hr=> ?_⟩;obtain ⟨x',hx,FO⟩:=h5 z' w' vR y' K3 hz (λb hb=>hs b (by simp at hb ⊢; rcases hb with h|h<;>simp [h])) hr;refine ⟨(x',x.2),by simp only [aI.cw,bS,ae4,hx];rfl, ?_⟩;simp only [aI.ar];exact ⟨pre++vR++post,c2,f1++K3++f2,g2,by simp,by simp,FO,by grind [aI.cZ,aI.cR]⟩
   . rename_i bS
     obtain ⟨pre,uJ,post,f1,fm,f2,rfl,h2,rfl,h4,h5⟩:=aI.kX ts hr2 hg;have hl:=Ty.eS t hr1;refine ⟨c1++pre,uJ,post,g1++f1,fm,f2,by simp,by grind,by simp,h4,λz' w' vR y' K3 hz hs hr=> ?_⟩;obtain ⟨x',hx,FO⟩:=h5 z' w' vR y' K3 hz (λb hb=>hs b (by simp at hb ⊢; rcases hb with h|h<;>simp [h])) hr;refine ⟨(x.1,x'),by simp only [aI.cw,bS,if_false,hx];rfl, ?_⟩;simp only [aI.ar];exact ⟨c1,pre++vR++post,g1,f1++K3++f2,by simp,by simp,by grind [Ty.cZ,Ty.cR],FO⟩
end
mutual
theorem Ty.iR:(t:Ty)→{x:t.D}→{off:Nat}→{u:Ty}→{y:u.D}→{x':t.D}→t.cw x off u y=some x'→∃ z,t.cq x off u=some z
 | .bool,x,off,u,y,x',h=>by
   simp only [Ty.cw] at h;split at h
   . rename_i h0;obtain ⟨rfl,_⟩:=Ty.dm h;grind [Ty.cq,Ty.eh]
   . simp at h
 | .int _,x,off,u,y,x',h=>by
   simp only [Ty.cw] at h;split at h
   . rename_i h0;obtain ⟨rfl,_⟩:=Ty.dm h;grind [Ty.cq,Ty.eh]
   . simp at h
 | .str,x,off,u,y,x',h=>by
   simp only [Ty.cw] at h;split at h
   . rename_i h0;obtain ⟨rfl,_⟩:=Ty.dm h;grind [Ty.cq,Ty.eh]
   . simp at h
 | .hole,x,off,u,y,x',h=>by
   simp only [Ty.cw] at h;split at h
   . rename_i h0;obtain ⟨rfl,_⟩:=Ty.dm h;grind [Ty.cq,Ty.eh]
   . simp at h
 | .sl _,x,off,u,y,x',h=>by
   simp only [Ty.cw] at h;split at h
   . rename_i h0;obtain ⟨rfl,_⟩:=Ty.dm h;grind [Ty.cq,Ty.eh]
   . simp at h
 | .fz _,x,off,u,y,x',h=>by
   simp only [Ty.cw] at h;split at h
   . rename_i h0;obtain ⟨rfl,_⟩:=Ty.dm h;grind [Ty.cq,Ty.eh]
   . simp at h
 | .st fs,x,off,u,y,x',h=>by
   by_cases h0:off=0∧u.beq (Ty.st fs)=true
   . have h:Ty.cast u (.st fs) y=some x':=(aa5 h0).symm.trans h
     obtain ⟨rfl,_⟩:=Ty.dm h;grind [Ty.cq,Ty.eh]
   . have h:fs.cw x off u y=some x':=(aa3 h0).symm.trans h
     obtain ⟨z,hz⟩:=aI.iR fs h;have:¬ (off=0∧(Ty.st fs).beq u=true):=by grind [Ty.beq_eq,Ty.beq_refl]
     exact ⟨z,(aa3 this).trans hz⟩
theorem aI.iR:(t:aI)→{x:t.D}→{off:Nat}→{u:Ty}→{y:u.D}→{x':t.D}→t.cw x off u y=some x'→∃ z,t.cq x off u=some z
 | .nil,_,_,_,_,_,h=>by simp [aI.cw] at h
 | .cons t ts,x,off,u,y,x',h=>by
   simp only [aI.cw] at h;split at h
   . rename_i bS
     cases hx:t.cw x.1 off u y with
     |none=>rw [hx] at h;cases h
     |some z=>obtain ⟨q,hq⟩:=Ty.iR t hx;exact ⟨q,by simp [aI.cq,bS,hq]⟩
   . rename_i bS
     cases hx:ts.cw x.2 (off - t.size) u y with
     |none=>rw [hx] at h;cases h
     |some z=>obtain ⟨q,hq⟩:=aI.iR ts hx;exact ⟨q,by simp [aI.cq,bS,hq]⟩
end
/- The same for what is only read. -/
mutual
theorem Ty.pq {S:Nat→Prop} {w:World}:(t:Ty)→{cs:List Value}→{x:t.D}→{off:Nat}→{u:Ty}→{y:u.D}→t.aN S w cs x→t.cq x off u=some y→
  ∃ pre uJ post,cs=pre++uJ++post∧pre.length=off∧u.aN S w uJ y
 | .bool,cs,x,off,u,_,h,hg=>by
   simp only [Ty.cq] at hg;split at hg
   . rename_i h0;obtain ⟨rfl,rfl⟩:=Ty.dm hg;exact ⟨[],cs,[],by simp,h0.symm,h⟩
   . simp at hg
 | .int _,cs,x,off,u,_,h,hg=>by
   simp only [Ty.cq] at hg;split at hg
   . rename_i h0;obtain ⟨rfl,rfl⟩:=Ty.dm hg;exact ⟨[],cs,[],by simp,h0.symm,h⟩
   . simp at hg
 | .str,cs,x,off,u,_,h,hg=>by
   simp only [Ty.cq] at hg;split at hg
   . rename_i h0;obtain ⟨rfl,rfl⟩:=Ty.dm hg;exact ⟨[],cs,[],by simp,h0.symm,h⟩
   . simp at hg
 | .hole,cs,x,off,u,_,h,hg=>by
   simp only [Ty.cq] at hg;split at hg
   . rename_i h0;obtain ⟨rfl,rfl⟩:=Ty.dm hg;exact ⟨[],cs,[],by simp,h0.symm,h⟩
   . simp at hg
 | .sl _,cs,x,off,u,_,h,hg=>by
   simp only [Ty.cq] at hg;split at hg
   . rename_i h0;obtain ⟨rfl,rfl⟩:=Ty.dm hg;exact ⟨[],cs,[],by simp,h0.symm,h⟩
   . simp at hg
 | .fz _,cs,x,off,u,_,h,hg=>by
   simp only [Ty.cq] at hg;split at hg
   . rename_i h0;obtain ⟨rfl,rfl⟩:=Ty.dm hg;exact ⟨[],cs,[],by simp,h0.symm,h⟩
   . simp at hg
 | .st fs,cs,x,off,u,y,h,hg=>by
   simp only [Ty.cq] at hg;split at hg
   . rename_i h0;obtain ⟨rfl,rfl⟩:=Ty.dm hg;exact ⟨[],cs,[],by simp,h0.1.symm,h⟩
   . have h':fs.aN S w cs x:=by simpa only [Ty.aN] using h
     exact aI.pq fs h' hg
theorem aI.pq {S:Nat→Prop} {w:World}:(t:aI)→{cs:List Value}→{x:t.D}→{off:Nat}→{u:Ty}→{y:u.D}→t.aN S w cs x→t.cq x off u=some y→
  ∃ pre uJ post,cs=pre++uJ++post∧pre.length=off∧u.aN S w uJ y
 | .nil,_,_,_,_,_,_,hg=>by grind [aI.cq]
 | .cons t ts,_,x,off,u,y,h,hg=>by
   simp only [aI.aN] at h;obtain ⟨c1,c2,rfl,hr1,hr2⟩:=h;simp only [aI.cq] at hg;split at hg
   . obtain ⟨pre,uJ,post,rfl,h2,h4⟩:=Ty.pq t hr1 hg
     grind
   . rename_i bS
     obtain ⟨pre,uJ,post,rfl,h2,h4⟩:=aI.pq ts hr2 hg;grind [Ty.jZ]
end
mutual
theorem Ty.mZ {c:Ctx} {μ:Nat→Loc}:(t:Ty)→{cs:List Value}→{x:t.D}→t.aN c.S c.w0 cs x→ai c μ cs (t.jk x)
 | .bool,cs,x,h=>by grind [Ty.aN,Ty.jk,ai,an]
 | .int _,cs,x,h=>by grind [Ty.aN,Ty.jk,ai,an]
 | .str,cs,x,h=>by grind [Ty.aN,Ty.jk,ai,an]
 | .hole,cs,x,h=>by simp only [Ty.aN] at h;obtain ⟨v,rfl,hv⟩:=h;simpa [Ty.jk,ai,an] using hv
 | .sl e,cs,x,h=>by
   have h':=h;simp only [Ty.aN] at h;obtain ⟨a,cap,rfl,_⟩:=h;simp only [Ty.jk,ai];exact ⟨_,[],rfl,by simp only [an];exact ⟨h',by simp⟩,rfl⟩
 | .fz e,cs,x,h=>by
   have h':=jG.1 h;simp only [Ty.aN] at h;obtain ⟨a,cap,rfl,_⟩:=h;simp only [Ty.jk,ai];exact ⟨_,[],rfl,by simp only [an];exact ⟨h',by simp⟩,rfl⟩
 | .st fs,cs,x,h=>by simp only [Ty.jk];exact aI.mZ fs (by simpa only [Ty.aN] using h)
theorem aI.mZ {c:Ctx} {μ:Nat→Loc}:(t:aI)→{cs:List Value}→{x:t.D}→t.aN c.S c.w0 cs x→ai c μ cs (t.jk x)
 | .nil,cs,x,h=>by grind [aI.aN,aI.jk,ai]
 | .cons t ts,cs,x,h=>by
   simp only [aI.aN] at h;obtain ⟨c1,c2,rfl,h1,h2⟩:=h;simp only [aI.jk];exact (Ty.mZ t h1).append (aI.mZ ts h2)
end
mutual
theorem Ty.na {c:Ctx} {μ:Nat→Loc} {w:World}:(t:Ty)→{cs:List Value}→{x:t.D}→{fp:List Nat}→t.ar c.fz w cs x fp→ai c μ cs (t.jl x)
 | .bool,cs,x,_,h=>by grind [Ty.ar,Ty.jl,ai,an]
 | .int _,cs,x,_,h=>by grind [Ty.ar,Ty.jl,ai,an]
 | .str,cs,x,_,h=>by grind [Ty.ar,Ty.jl,ai,an]
 | .hole,cs,x,_,h=>by simp only [Ty.ar] at h;obtain ⟨⟨v,rfl,hv⟩,_⟩:=h;simpa [Ty.jl,ai,an] using hv
 | .sl e,cs,x,_,h=>by
   simp only [Ty.ar] at h;obtain ⟨a,cap,rfl,_⟩:=h;simp only [Ty.jl,ai];exact ⟨_,[],rfl,by simp only [an];rfl,rfl⟩
 | .fz e,cs,x,_,h=>by
   have h:=(show _∧_ by simpa only [Ty.ar] using h).1;have h':=jG.1 h;simp only [Ty.aN] at h;obtain ⟨a,cap,rfl,_⟩:=h;simp only [Ty.jl,ai];exact ⟨_,[],rfl,by simp only [an];exact ⟨h',by simp⟩,rfl⟩
 | .st fs,cs,x,_,h=>by simp only [Ty.jl];exact aI.na fs (by simpa only [Ty.ar] using h)
theorem aI.na {c:Ctx} {μ:Nat→Loc} {w:World}:(t:aI)→{cs:List Value}→{x:t.D}→{fp:List Nat}→t.ar c.fz w cs x fp→ai c μ cs (t.jl x)
 | .nil,cs,x,_,h=>by grind [aI.ar,aI.jl,ai]
 | .cons t ts,cs,x,_,h=>by
   simp only [aI.ar] at h;obtain ⟨c1,c2,f1,f2,rfl,rfl,h1,h2⟩:=h;simp only [aI.jl];exact (Ty.na t h1).append (aI.na ts h2)
end
theorem AP {α:Type} (l:List (List α)) (i:Nat) (h:i<l.length):l.flatten=(l.take i).flatten++l[i]++(l.drop (i+1)).flatten:=by grind [List.take_append_drop,List.flatten_append,List.drop_eq_getElem_cons,List.flatten_cons,List.append_assoc]
theorem FW {α:Type} (l:List (List α)) (o n:Nat):(((l.drop o).take n).flatten).Sublist l.flatten:=by
 have e:l.flatten=(l.take o).flatten++(((l.drop o).take n).flatten++((l.drop o).drop n).flatten):=by grind [List.flatten_append,List.take_append_drop]
 grind
theorem vS {w:World} {e:Ty} {a:Option Addr} {cap:Nat} {xs:List e.D} {fp:List Nat} (h:(Ty.sl e).ar z w [.slice a xs.length cap] xs fp) {i:Nat} {x:e.D} (hx:xs[i]? =some x):
  ∃ b o C E p fi q,a=some ⟨b,o,none⟩∧w.heap[b]? =some (.cells C E (0,0))∧o+cap*e.size≤C.size∧xs.length≤cap∧fp=b::(p++fi++q)∧
    e.ar z w (aE w b (o+i*e.size) e.size) x fi∧
    ∀ (z':Fz) (w':World) (x':e.D) (GN:List Nat) (C':Array Value),z.le z'→w'.heap[b]? =some (.cells C' E (0,0))→C'.size=C.size→
      (∀ j,j<o+i*e.size∨o+(i+1)*e.size≤j→C'[j]? =C[j]?)→(∀ b'∈p++q,w'.heap[b']? =w.heap[b']?)→b ∉ p++q→
      e.ar z' w' (aE w' b (o+i*e.size) e.size) x' GN→(Ty.sl e).ar z' w' [.slice a xs.length cap] (xs.set i x') (b::(p++GN++q)):=by
 have bS:i<xs.length:=(by grind)
 simp only [Ty.ar] at h;obtain ⟨a',jP,he,hc,h⟩:=h;cases he;rcases h with ⟨h0,_⟩|⟨b,o,C,E,fps,ha,hb,ho,hl,hf,hi⟩
 . omega
 have hif:i<fps.length:=by omega
 have kx:fps=fps.take i++fps[i]::fps.drop (i+1):=by simp_all
 refine ⟨b,o,C,E,(fps.take i).flatten,fps[i],(fps.drop (i+1)).flatten,ha,hb,ho,hc.1, ?_,by grind, ?_⟩
 . grind
 intro z' w' x' GN C' hzz b8 hz tX PI hnb hr;simp only [Ty.ar];refine ⟨a,cap,by simp,by simpa using hc, .inr ⟨b,o,C',E,fps.set i GN,ha,b8,by omega,by simpa using hl, ?_, ?_⟩⟩
 . grind
 intro j y f hy hfj;by_cases hj:j=i
 . grind
 . have Eu:(xs.set i x')[j]? =some y:=hy
   have VA:(fps.set i GN)[j]? =some f:=hfj;have nO:xs[j]? =some y:=by grind
   have AE:fps[j]? =some f:=by grind
   have QT:j<fps.length:=(by grind)
   have FX:∀ b'∈f,b'∈(fps.take i).flatten++(fps.drop (i+1)).flatten:=by
    intro b' b8;have hfe:fps[j]=f:=(by grind)
    simp only [abp,af6];grind
   have aiQ:aE w' b (o+j*e.size) e.size=aE w b (o+j*e.size) e.size:=by
    rw [ck b8,ck hb];apply acB;intro k;by_cases hk:k<e.size
    . rw [ab9 hk,ab9 hk,ab8,ab8,acm,acm]
      apply tX;rcases acH j i with h|h
      . left
        have:(j+1)*e.size≤i*e.size:=abX _ h;grind
      . right
        have:(i+1)*e.size≤j*e.size:=abX _ (by omega);omega
    grind
   grind [Ty.cZ,Ty.cR]
theorem K4 {S:Nat→Prop} {w:World} {e:Ty} {v:Value} {xs:List e.D} (h:(Ty.sl e).aN S w [v] xs) {i:Nat} {x:e.D} (hx:xs[i]? =some x):
  ∃ b o cap,v= .slice (some ⟨b,o,none⟩) xs.length cap∧S b∧e.aN S w (aE w b (o+i*e.size) e.size) x:=by
 simp only [Ty.aN] at h;grind
theorem zJ {S:Nat→Prop} {w:World} {e:Ty} {a:Option Addr} {n cap:Nat} {xs:List e.D} (h:(Ty.sl e).aN S w [.slice a n cap] xs) {o l:Nat} (hl:o+l≤n) {a':Option Addr}
  (ha:cap - o=0∨∃ b o',a=some ⟨b,o',none⟩∧a'=some ⟨b,o'+o*e.size,none⟩):(Ty.sl e).aN S w [.slice a' l (cap - o)] ((xs.drop o).take l):=by
 simp only [Ty.aN] at h ⊢;obtain ⟨a0,K5,he,hc,h⟩:=h;cases he;have hlen:((xs.drop o).take l).length=l:=by simp;omega
 refine ⟨a',cap - o,by rw [hlen],by grind, ?_⟩;grind
theorem PJ {w:World} {e:Ty} {a:Option Addr} {n cap:Nat} {xs:List e.D} {fp:List Nat} (h:(Ty.sl e).ar z w [.slice a n cap] xs fp) {o l:Nat} (hl:o+l≤n) {a':Option Addr}
  (ha:cap - o=0∨∃ b o',a=some ⟨b,o',none⟩∧a'=some ⟨b,o'+o*e.size,none⟩):
  ∃ fp',(Ty.sl e).ar z w [.slice a' l (cap - o)] ((xs.drop o).take l) fp'∧(fp.Nodup→fp'.Nodup)∧∀ b∈fp',b∈fp:=by
 simp only [Ty.ar] at h;obtain ⟨a0,K5,he,hc,h⟩:=h;cases he;have hlen:((xs.drop o).take l).length=l:=by simp;omega
 by_cases h0:cap - o=0
 . refine ⟨[], ?_,by simp,by simp⟩
   grind [Ty.ar]
 rcases ha with ha|⟨b',o',he,rfl⟩
 . omega
 rcases h with ⟨h1,_⟩|⟨b,o1,C,E,fps,ha,hb,ho,hlf,rfl,hi⟩
 . omega
 subst he;cases ha;refine ⟨b'::((fps.drop o).take l).flatten, ?_, ?_, ?_⟩
 . simp only [Ty.ar]
   refine ⟨_,cap - o,by rw [hlen],by grind, .inr ⟨b',o'+o*e.size,C,E,(fps.drop o).take l,rfl,hb, ?_,by simp;omega,by simp, ?_⟩⟩
   . rw [Nat.sub_mul]
     have:o*e.size≤cap*e.size:=abX _ (by omega);omega
   grind
 . grind [FW]
 . intro x hx
   simp only [abF,af6] at hx ⊢;grind
end
section
open Go
variable {z:Fz}
theorem iX {e e':Ty} {xs:List e'.D} {ys:List e.D} (h:Ty.cast (.sl e') (.sl e) xs=some ys):∃ he:e'=e,ys=he ▸ xs:=by
 unfold Ty.cast at h;grind
theorem pt (S:Nat→Prop) (w:World) (e:Ty) (a:Option Addr):(Ty.sl e).aN S w [.slice a 0 0] ([]:List e.D):=by
 simp only [Ty.aN];exact ⟨a,0,rfl,by grind, .inl rfl⟩
theorem tY (w:World) (e:Ty) (a:Option Addr):(Ty.sl e).ar z w [.slice a 0 0] ([]:List e.D) []:=by
 simp only [Ty.ar];exact ⟨a,0,rfl,⟨abE 0,ac0 _⟩, .inl ⟨rfl,trivial⟩⟩
section
variable {c:Ctx} {μ:Nat→Loc} {fp:Nat→List Nat} {v:Env} {w:World} {E:Env}
theorem cJ.jm (h:cJ c μ fp v w):∀ (ids:List Nat),ids.Nodup→(∀ id∈ids,v id≠none)→(ids.flatMap fp).Nodup
 |[],_,_=>by simp
 |id::ids,hn,hp=>by
  rw [acu] at hn;rw [aeC,aca];obtain ⟨x,hx⟩:=Option.ne_none_iff_exists'.1 (hp id (by simp));refine ⟨h.nodup id x hx,h.jm ids hn.2 (by grind), ?_⟩;intro a ha b hb e;subst e;obtain ⟨i,hi,hm⟩:=List.mem_flatMap.1 hb;exact h.sep id i (by grind) (hp id (by simp)) (hp i (by simp [hi])) a ha hm
theorem JY {ds:List ah} {r:Bool×List ah} (h:Tl ds=some r):ds= .b r.1::r.2:=by
 unfold Tl at h;grind
theorem JZ {k:IntKind} {ds:List ah} {r:Int×List ah} (h:Tm k ds=some r):ds= .i k r.1::r.2:=by
 unfold Tm at h;grind
theorem PK {cs:List Value} {ds:List ah} {r:Unit×List ah} (hr:ai c μ cs ds) (h:abq ds=some r):∃ x vs d,cs=x::vs∧ds=d::r.2∧d.bs=true∧an c μ x d∧ai c μ vs r.2:=by
 unfold abq at h;split at h
 . rename_i d q
   split at h
   . rename_i hd
     cases h;simp only [ai] at hr;obtain ⟨x,vs,rfl,hx,hr⟩:=hr;exact ⟨x,vs,d,rfl,rfl,hd,hx,hr⟩
   . cases h
 . cases h
theorem J0 {ds:List ah} {r:List UInt8×List ah} (h:Tn ds=some r):ds= .s r.1::r.2:=by
 unfold Tn at h;grind
theorem FY {e:Ty} {cs:List Value} {ds:List ah} {r:List e.D×List ah} (hr:ai c μ cs ds) (h:Pl e ds=some r):
  ∃ x vs,cs=x::vs∧(Ty.sl e).aN c.S c.w0 [x] r.1∧ai c μ vs r.2:=by
 unfold Pl at h;split at h
 . cases h
   simp only [ai] at hr;obtain ⟨x,vs,rfl,hx,hr⟩:=hr;simp only [an] at hx;obtain ⟨a,rfl⟩:=hx;exact ⟨_,vs,rfl,pt c.S c.w0 e a,hr⟩
 . obtain ⟨y,hy,rfl⟩:=Option.map_eq_some_iff.1 h
   obtain ⟨he,AQ⟩:=iX hy;clear hy h;subst he;simp only [ai] at hr;obtain ⟨x,vs,rfl,hx,hr⟩:=hr;simp only [an] at hx;grind
 . cases h
theorem PL (h:∀ id x,v id=some x→cz c μ w id (fp id) x) (hE:∀ id x,E id=some x→v id=some x) {e:Ty} {cs:List Value} {ds:List ah} {r:List e.D×List ah×List Nat} (hr:ai c μ cs ds) (hf:abr E e ds=some r):
  ∃ x vs,cs=x::vs∧(Ty.sl e).ar c.fz w [x] r.1 (r.2.2.flatMap fp)∧ai c μ vs r.2.1∧ah.bC ds=r.2.2++ah.bC r.2.1∧(∀ k∈r.2.2,∃ e xs,E k=some (.arr e xs))∧(∀ b∈r.2.2.flatMap fp,b<c.w0.heap.size→∀ j,c.M b j):=by
 unfold abr at hf;split at hf
 . cases hf
   simp only [ai] at hr;obtain ⟨x,vs,rfl,hx,hr⟩:=hr;simp only [an] at hx;obtain ⟨a,rfl⟩:=hx;exact ⟨_,vs,rfl,tY w e a,hr,rfl,by simp,by simp⟩
 . rename_i id q
   split at hf
   . rename_i e' xs he
     obtain ⟨y,hy,rfl⟩:=Option.map_eq_some_iff.1 hf;obtain ⟨hee,AQ⟩:=iX hy;clear hy hf;subst hee;simp only [ai] at hr;obtain ⟨x,vs,rfl,hx,hr⟩:=hr;simp only [an] at hx;obtain ⟨a,len,cap,sz,hm,rfl⟩:=hx;obtain ⟨a',jP,oH,dp,PM⟩:=h id _ (hE _ _ he);rw [oH] at hm;cases hm;exact ⟨_,vs,rfl,by grind,hr,rfl,by grind,by grind⟩
   . cases hf
 . cases hf
mutual
theorem Ty.nb (h:∀ id x,v id=some x→cz c μ w id (fp id) x) (hE:∀ id x,E id=some x→v id=some x):
  (t:Ty)→{cs:List Value}→{ds:List ah}→{r:t.D×List ah×List Nat}→ai c μ cs ds→t.tQ E ds=some r→
   ∃ c1 c2,cs=c1++c2∧t.ar c.fz w c1 r.1 (r.2.2.flatMap fp)∧ai c μ c2 r.2.1∧ah.bC ds=r.2.2++ah.bC r.2.1∧(∀ k∈r.2.2,∃ e xs,E k=some (.arr e xs))∧(∀ b∈r.2.2.flatMap fp,b<c.w0.heap.size→∀ j,c.M b j)
 | .bool,cs,ds,r,hr,hf=>by
   obtain ⟨y,hy,rfl⟩:=Option.map_eq_some_iff.1 hf;rw [JY hy] at hr ⊢;simp only [ai] at hr;obtain ⟨x,vs,rfl,hx,hr⟩:=hr;simp only [an] at hx;subst hx;exact ⟨[_],vs,rfl,by simp [Ty.ar],hr,rfl,by simp,by simp⟩
 | .int k,cs,ds,r,hr,hf=>by
   obtain ⟨y,hy,rfl⟩:=Option.map_eq_some_iff.1 hf;rw [JZ hy] at hr ⊢;simp only [ai] at hr;obtain ⟨x,vs,rfl,hx,hr⟩:=hr;simp only [an] at hx;subst hx;exact ⟨[_],vs,rfl,by simp [Ty.ar],hr,rfl,by simp,by simp⟩
 | .str,cs,ds,r,hr,hf=>by
   obtain ⟨y,hy,rfl⟩:=Option.map_eq_some_iff.1 hf;rw [J0 hy] at hr ⊢;simp only [ai] at hr;obtain ⟨x,vs,rfl,hx,hr⟩:=hr;simp only [an] at hx;exact ⟨[_],vs,rfl,by simp only [Ty.ar];exact ⟨by rw [hx.1],rfl,hx.2⟩,hr,rfl,by simp,by simp⟩
 | .hole,cs,ds,r,hr,hf=>by
   obtain ⟨y,hy,rfl⟩:=Option.map_eq_some_iff.1 hf;unfold ae5 at hy;split at hy
   . rename_i d q
     split at hy
     . rename_i hd
       cases hy;simp only [ai] at hr;obtain ⟨x,vs,rfl,hx,hr⟩:=hr;exact ⟨[x],vs,rfl,by simp only [Ty.ar];exact ⟨⟨x,rfl,hx.iA hd.1⟩,rfl⟩,hr,by grind [ah.bC],by simp,by simp⟩
     . cases hy
   . cases hy
 | .sl e,cs,ds,r,hr,hf=>by
   obtain ⟨x,vs,rfl,h1,h2,h3,h4,h5⟩:=PL h hE hr hf;grind
 | .fz e,cs,ds,r,hr,hf=>by
   obtain ⟨y,hy,rfl⟩:=Option.map_eq_some_iff.1 hf;obtain ⟨x,vs,rfl,hx,FO⟩:=FY hr hy;refine ⟨[x],vs,rfl,by simp only [Ty.ar];exact ⟨jG.2 hx,rfl⟩,FO, ?_,by simp,by simp⟩;unfold Pl at hy;split at hy
   . cases hy;rfl
   . obtain ⟨z,_,rfl⟩:=Option.map_eq_some_iff.1 hy;rfl
   . cases hy
 | .st fs,cs,ds,r,hr,hf=>by
   obtain ⟨c1,c2,h1,h2,h3⟩:=aI.nb h hE fs hr hf;grind [Ty.ar]
theorem aI.nb (h:∀ id x,v id=some x→cz c μ w id (fp id) x) (hE:∀ id x,E id=some x→v id=some x):
  (t:aI)→{cs:List Value}→{ds:List ah}→{r:t.D×List ah×List Nat}→ai c μ cs ds→t.tQ E ds=some r→
   ∃ c1 c2,cs=c1++c2∧t.ar c.fz w c1 r.1 (r.2.2.flatMap fp)∧ai c μ c2 r.2.1∧ah.bC ds=r.2.2++ah.bC r.2.1∧(∀ k∈r.2.2,∃ e xs,E k=some (.arr e xs))∧(∀ b∈r.2.2.flatMap fp,b<c.w0.heap.size→∀ j,c.M b j)
 | .nil,cs,ds,r,hr,hf=>by
   simp only [aI.tQ,acv] at hf;subst hf;exact ⟨[],cs,rfl,by simp [aI.ar],hr,rfl,by simp,by simp⟩
 | .cons t ts,cs,ds,r,hr,hf=>by
   unfold aI.tQ at hf;obtain ⟨x,hx,hf⟩:=Option.bind_eq_some_iff.1 hf;obtain ⟨y,hy,rfl⟩:=Option.map_eq_some_iff.1 hf;obtain ⟨c1,c2,rfl,h2,h3,h4,h5,h6⟩:=Ty.nb h hE t hr hx;obtain ⟨c3,c4,rfl,g2,g3,g4,g5,g6⟩:=aI.nb h hE ts h3 hy;refine ⟨c1++c3,c4,by simp, ?_,g3, ?_, ?_, ?_⟩
   . simp only [aI.ar,List.flatMap_append];exact ⟨c1,c3,_,_,rfl,rfl,h2,g2⟩
   . rw [h4,g4,acj]
   . intro k hk
     rcases abp.1 hk with hk|hk
     . exact h5 k hk
     . exact g5 k hk
   . intro b hb
     rw [List.flatMap_append,abp] at hb;rcases hb with hb|hb
     . exact h6 b hb
     . exact g6 b hb
end
theorem BF (b:Nat) (p fi q:List Nat):(b::(p++fi++q)).Perm ((b::(p++q))++fi):=by grind
theorem lJ:∀ (l:List Nat),nodupB l=true→l.Nodup
 |[],_=>by simp
 |a::l,h=>by simp [nodupB] at h;rw [acu];exact ⟨h.1,lJ l h.2⟩
theorem zK (h:∀ id x,v id=some x→cz c μ w id (fp id) x) (hE:∀ id x,E id=some x→v id=some x) {id:Nat} {x:bK} (hx:E id=some x) {e:Ty} {xs:List e.D} (hu:gT E x=some ⟨e,xs⟩):
  ∃ a cap f,μ id= .qQ a xs.length cap e.size∧(Ty.sl e).ar c.fz w [.slice a xs.length cap] xs f∧f.Perm ((id::bz x).flatMap fp)∧(id::bz x).Nodup∧
    (∀ k∈id::bz x,v k≠none∧E k≠none)∧(∀ b∈f,b<c.w0.heap.size→∀ j,c.M b j):=by
 have hv:=hE id x hx;cases x with
 |var cs=>grind [gT]
 |it _ _=>grind [gT]
 |cut _ _ _=>grind [gT]
 |tP e' xs' i cs=>
  obtain ⟨a,cap,b,o,C,E',p,q,h1,rfl,h3,h4,h5,h6,h7,h8,h9,RR,RS,Ym,LS⟩:=h id _ hv;simp only [gT] at hu;split at hu
  case h_2=>cases hu
  rename_i x' ids ht;split at hu
  case isFalse=>cases hu
  rename_i hn;obtain ⟨rfl,hu⟩:=Sigma.mk.inj (aa6 hu);cases hu;obtain ⟨c1,c2,e1,r1,r2,r3,r4,r5⟩:=Ty.nb h hE e' h9 ht;simp only [ai] at r2;subst r2;simp only [ah.bC,acG] at r3 e1;rw [← e1] at r1;have oS:=lJ _ hn;clear hu;have hid:id ∉ ids:=by grind
  have dp:=h8 c.fz w x' (ids.flatMap fp) C (Fz.le_refl _) h4 rfl (λ_ _=>rfl) (λ_ _=>rfl) Ym r1;refine ⟨some ⟨b,o,none⟩,cap,b::(p++ids.flatMap fp++q),by simpa using h1,by grind, ?_, ?_, ?_, ?_⟩
  . grind [bz,BF]
  . grind [bz,List.nodup_cons]
  . intro k hk
    simp only [bz,r3,abF] at hk;grind
  grind
 |arr e' xs'=>
  simp only [gT] at hu;cases hu;obtain ⟨a,cap,h1,h2,h3⟩:=h id _ hv;exact ⟨a,cap,fp id,h1,h2,by simp [bz],by simp [bz],by grind [bz],h3⟩
 |zv e' xs' x0 i off u dC=>
  simp only [gT] at hu;cases hy:E dC with
  |none=>grind
  |some y=>
   cases y with
   |var _=>grind
   |zv _ _ _ _ _ _ _=>grind
   |it _ _=>grind
   |cut _ _ _=>grind
   |tP _ _ _ _=>grind
   |arr e2 ys=>
    simp only [hy] at hu;have LX:=hE dC _ hy;have dV:id≠dC:=by grind
    obtain ⟨a,cap,h1,⟨a',mY,jP,e3,bb,ob,CC,EE,g1,rfl,_,_,g4,g5,g3⟩,h3,_,_,xM⟩:=h id _ hv;obtain ⟨a2,cap2,k1,k2,k3⟩:=h dC _ LX;rw [k1] at g1;cases hc:Ty.cast (.sl e2) (.sl e3) ys with
    |none=>grind
    |some y3=>
     rw [hc] at hu;obtain ⟨he,rfl⟩:=Ty.dm hc;cases he;cases g1;obtain ⟨x,x',Tq,q1,q2,q3,q4⟩:=g3 c.fz w CC _ ys (fp dC) (Fz.le_refl _) g4 rfl (λ_ _=>rfl) g5 (λ_ _ _=>rfl) k2;have hu:((e'.cw x0 off (.sl e2) ys).map λx'=>(⟨e',xs'.set i x'⟩:(e:Ty)×List e.D))=some ⟨e,xs⟩:=hu;rw [xM] at q1;cases q1;rw [q2] at hu;cases hu;refine ⟨a,cap,Tq,by simpa using h1,by simpa using q3,by grind [bz],by simp [bz,dV], ?_, ?_⟩
     . intro k hk
       simp only [bz,abF,List.not_mem_nil,or_false] at hk;grind
     grind
theorem gL (h:cJ c μ fp v w) (hE:∀ id x,E id=some x→v id=some x) {id:Nat} {x:bK} (hx:E id=some x) {e:Ty} {xs:List e.D} (hu:gT E x=some ⟨e,xs⟩):
 ∃ a cap f,μ id= .qQ a xs.length cap e.size∧(Ty.sl e).ar c.fz w [.slice a xs.length cap] xs f∧f.Perm ((id::bz x).flatMap fp)∧(id::bz x).Nodup∧
   (∀ k∈id::bz x,v k≠none∧E k≠none)∧(∀ b∈f,b<c.w0.heap.size→∀ j,c.M b j):=zK h.rel hE hx hu
theorem vT {S:Nat→Prop} {w:World} {e' e:Ty} {xs:List e'.D} {ys:List e.D} (h:wG e' e xs=some ys) {cs:List Value} (hr:(Ty.sl e').aN S w cs xs):(Ty.sl e).aN S w cs ys:=by
 unfold wG at h;split at h
 . rename_i y hy
   obtain rfl:=aa6 h;obtain ⟨hz,rfl⟩:=Ty.nR hy;exact Ty.ik _ _ hz _ _ hr
 . obtain ⟨he,AQ⟩:=iX h
   clear h;subst he;rw [AQ];simp only [Ty.aN] at hr ⊢;obtain ⟨a,cap,rfl,hc,hr⟩:=hr;refine ⟨a,cap,by simp,by simpa using hc, ?_⟩;rcases hr with rfl|⟨b,o,ha,hb,hi⟩
   . exact .inl rfl
   . refine .inr ⟨b,o,ha,hb,λi y hy=> ?_⟩
     have hy:(xs.map e'.erase)[i]? =some y:=hy;rw [afj] at hy;obtain ⟨x,hx,rfl⟩:=Option.map_eq_some_iff.1 hy;grind [Ty.pf,Ty.lF]
theorem nX (h:cJ c μ fp v w) (ev:Ev c w) (hE:∀ id x,E id=some x→v id=some x) {S':Nat→Prop} (hS:∀ b,c.S b→S' b) (hP:∀ id,E id≠none→∀ b∈fp id,S' b)
  {e:Ty} {d:ah} {x:Value} {xs:List e.D} (hx:an c μ x d) (hl:rY E e d=some xs):(Ty.sl e).aN S' w [x] xs:=by
 cases d with
 |ro e' ys tk=>
  simp only [an] at hx;exact vT (show wG e' e ys=some xs from hl) (Ty.dM (λb hb=>⟨hS b hb,ev.S b hb⟩) _ hx.1)
 |mD=>
  obtain rfl:[]=xs:=aa6 hl;simp only [an] at hx;obtain ⟨a,rfl⟩:=hx;exact pt S' w e a
 |cB id vw=>
  rcases vw with _|⟨o,l⟩
  . have hl:(E id).bind (λv=>(gT E v).bind λx=>wG x.1 e x.2)=some xs:=hl
    obtain ⟨y,hy,hl⟩:=Option.bind_eq_some_iff.1 hl;obtain ⟨⟨e',ys⟩,hu,hl⟩:=Option.bind_eq_some_iff.1 hl;obtain ⟨a,cap,f,h1,h2,h3,_,h5,_⟩:=gL h hE hy hu;have h4:(Ty.sl e').aN S' w [.slice a ys.length cap] ys:=by
     refine Ty.ga (λb hb=>⟨hS b hb,ev.S b hb⟩) _ h2 λb hb=> ?_;grind
    simp only [an] at hx;obtain ⟨a',len,jP,sz,g1,rfl⟩:=hx;grind [vT]
  . have hl:(E id).bind (λv=>(gT E v).bind λx=>wG x.1 e ((x.2.drop o).take l))=some xs:=hl
    obtain ⟨y,hy,hl⟩:=Option.bind_eq_some_iff.1 hl;obtain ⟨⟨e',ys⟩,hu,hl⟩:=Option.bind_eq_some_iff.1 hl;obtain ⟨a,cap,f,h1,h2,h3,_,h5,_⟩:=gL h hE hy hu;have h4:(Ty.sl e').aN S' w [.slice a ys.length cap] ys:=by
     refine Ty.ga (λb hb=>⟨hS b hb,ev.S b hb⟩) _ h2 λb hb=> ?_;grind
    simp only [an] at hx;obtain ⟨a',len,jP,sz,a2,g1,g2,g3,rfl,g4⟩:=hx;grind [vT,zJ]
 |_=>cases hl
theorem Ts {e:Ty} {ds:List ah} {r:List e.D×List ah×List Nat} (h:abt E e ds=some r):∃ d,ds=d::r.2.1∧iE E e d=some (r.1,r.2.2):=by
 unfold abt at h;split at h
 . rename_i d q
   obtain ⟨x,hx,rfl⟩:=Option.map_eq_some_iff.1 h;grind
 . cases h
structure kC (c:Ctx) (fp:Nat→List Nat) (v E:Env) (ids:List Nat) (f:List Nat):Prop where
 mem:∀ b∈f,∃ id∈ids,b∈fp id
 nodup:f.Nodup
 there:∀ id∈ids,v id≠none∧E id≠none
 may:∀ b∈f,b<c.w0.heap.size→∀ j,c.M b j
theorem gM (h:cJ c μ fp v w) (hE:∀ id x,E id=some x→v id=some x) {e:Ty} {d:ah} {x:Value} {r:List e.D×List Nat} (hx:an c μ x d) (hl:iE E e d=some r):
  ∃ f,(Ty.sl e).ar c.fz w [x] r.1 f∧kC c fp v E r.2 f:=by
 cases d with
 |mD=>
  obtain rfl:([],[])=r:=aa6 hl;simp only [an] at hx;obtain ⟨a,rfl⟩:=hx;exact ⟨[],tY w e a,⟨by simp,by simp,by simp,by simp⟩⟩
 |cB id vw=>
  rcases vw with _|⟨o,l⟩
  . have hl:(E id).bind (λv=>(gT E v).bind λx=>(Ty.cast (.sl x.1) (.sl e) x.2).map λy=>(y,id::bz v))=some r:=hl
    obtain ⟨y,hy,hl⟩:=Option.bind_eq_some_iff.1 hl;obtain ⟨⟨e',ys⟩,hu,hl⟩:=Option.bind_eq_some_iff.1 hl;obtain ⟨zs,hc,rfl⟩:=Option.map_eq_some_iff.1 hl;obtain ⟨he,AQ⟩:=iX hc;clear hc hl;subst he;obtain ⟨a,cap,f,h1,h2,h3,h4,h5,h6⟩:=gL h hE hy hu;have hn:f.Nodup:=h3.nodup_iff.2 (h.jm _ h4 λk hk=>(h5 k hk).1);have hg:kC c fp v E (id::bz y) f:=⟨by grind,hn,h5,h6⟩
    simp only [an] at hx;grind
  . have hl:(E id).bind (λv=>(gT E v).bind λx=>(Ty.cast (.sl x.1) (.sl e) ((x.2.drop o).take l)).map λy=>(y,id::bz v))=some r:=hl
    obtain ⟨y,hy,hl⟩:=Option.bind_eq_some_iff.1 hl;obtain ⟨⟨e',ys⟩,hu,hl⟩:=Option.bind_eq_some_iff.1 hl;obtain ⟨zs,hc,rfl⟩:=Option.map_eq_some_iff.1 hl;obtain ⟨he,AQ⟩:=iX hc;clear hc hl;subst he;obtain ⟨a,cap,f,h1,h2,h3,h4,h5,h6⟩:=gL h hE hy hu;have hn:f.Nodup:=h3.nodup_iff.2 (h.jm _ h4 λk hk=>(h5 k hk).1);have hg:kC c fp v E (id::bz y) f:=⟨by grind,hn,h5,h6⟩
    simp only [an] at hx;obtain ⟨a',len,jP,sz,a2,g1,g2,g3,rfl,g4⟩:=hx;rw [h1] at g1;cases g1;obtain ⟨f',k1,k2,k3⟩:=PJ h2 g2 g4;exact ⟨f',AQ ▸ k1,⟨by grind,k2 hn,h5,by grind⟩⟩
 |_=>cases hl
theorem kC.append (h:cJ c μ fp v w) {ids zL f f':List Nat} (g:kC c fp v E ids f) (g':kC c fp v E zL f') (hn:(ids++zL).Nodup):kC c fp v E (ids++zL) (f++f') where
 mem b hb:=by
  rcases abp.1 hb with hb|hb
  . obtain ⟨i,hi,hm⟩:=g.mem b hb;grind
  . obtain ⟨i,hi,hm⟩:=g'.mem b hb;grind
 nodup:=by
  rw [aca];refine ⟨g.nodup,g'.nodup,λa ha b hb e=> ?_⟩;subst e;obtain ⟨i,hi,hm⟩:=g.mem a ha;obtain ⟨j,hj,oH⟩:=g'.mem a hb;have:i≠j:=by grind
  exact h.sep i j this (g.there i hi).1 (g'.there j hj).1 a hm oH
 there i hi:=by
  rcases abp.1 hi with hi|hi
  . exact g.there i hi
  . exact g'.there i hi
 may b hb:=by
  rcases abp.1 hb with hb|hb
  . exact g.may b hb
  . exact g'.may b hb
mutual
theorem Ty.nc (h:cJ c μ fp v w) (hE:∀ id x,E id=some x→v id=some x):
  (t:Ty)→{cs:List Value}→{ds:List ah}→{r:t.D×List ah×List Nat}→ai c μ cs ds→t.tR E ds=some r→r.2.2.Nodup→
   ∃ c1 c2 f,cs=c1++c2∧t.ar c.fz w c1 r.1 f∧ai c μ c2 r.2.1∧kC c fp v E r.2.2 f
 | .bool,cs,ds,r,hr,hf,_=>by
   obtain ⟨y,hy,rfl⟩:=Option.map_eq_some_iff.1 hf;rw [JY hy] at hr;simp only [ai] at hr;obtain ⟨x,vs,rfl,hx,hr⟩:=hr;simp only [an] at hx;subst hx;exact ⟨[_],vs,[],rfl,by simp [Ty.ar],hr,⟨by simp,by simp,by simp,by simp⟩⟩
 | .int k,cs,ds,r,hr,hf,_=>by
   obtain ⟨y,hy,rfl⟩:=Option.map_eq_some_iff.1 hf;rw [JZ hy] at hr;simp only [ai] at hr;obtain ⟨x,vs,rfl,hx,hr⟩:=hr;simp only [an] at hx;subst hx;exact ⟨[_],vs,[],rfl,by simp [Ty.ar],hr,⟨by simp,by simp,by simp,by simp⟩⟩
 | .str,cs,ds,r,hr,hf,_=>by
   obtain ⟨y,hy,rfl⟩:=Option.map_eq_some_iff.1 hf;rw [J0 hy] at hr;simp only [ai] at hr;obtain ⟨x,vs,rfl,hx,hr⟩:=hr;simp only [an] at hx;exact ⟨[_],vs,[],rfl,by simp_all [Ty.ar],hr,⟨by simp,by simp,by simp,by simp⟩⟩
 | .hole,cs,ds,r,hr,hf,_=>by
   obtain ⟨y,hy,rfl⟩:=Option.map_eq_some_iff.1 hf;obtain ⟨x,vs,d,rfl,_,hd,hx,hr⟩:=PK hr hy;exact ⟨[x],vs,[],rfl,by simp only [Ty.ar];exact ⟨⟨x,rfl,hx.iA hd⟩,trivial⟩,hr,⟨by simp,by simp,by simp,by simp⟩⟩
 | .sl e,cs,ds,r,hr,hf,_=>by
   obtain ⟨d,e1,hy⟩:=Ts hf;rw [e1] at hr;simp only [ai] at hr;obtain ⟨x,vs,rfl,hx,hr⟩:=hr;obtain ⟨f,h1,h2⟩:=gM h hE hx hy;grind
 | .fz e,cs,ds,r,hr,hf,_=>by
   obtain ⟨y,hy,rfl⟩:=Option.map_eq_some_iff.1 hf;obtain ⟨x,vs,rfl,hx,hr⟩:=FY hr hy;exact ⟨[x],vs,[],rfl,by simp only [Ty.ar];exact ⟨jG.2 hx,trivial⟩,hr,⟨by simp,by simp,by simp,by simp⟩⟩
 | .st fs,cs,ds,r,hr,hf,hn=>by
   obtain ⟨c1,c2,f,h1,h2,h3,h4⟩:=aI.nc h hE fs hr hf hn;exact ⟨c1,c2,f,h1,by grind [Ty.ar],h3,h4⟩
theorem aI.nc (h:cJ c μ fp v w) (hE:∀ id x,E id=some x→v id=some x):
  (t:aI)→{cs:List Value}→{ds:List ah}→{r:t.D×List ah×List Nat}→ai c μ cs ds→t.tR E ds=some r→r.2.2.Nodup→
   ∃ c1 c2 f,cs=c1++c2∧t.ar c.fz w c1 r.1 f∧ai c μ c2 r.2.1∧kC c fp v E r.2.2 f
 | .nil,cs,ds,r,hr,hf,_=>by
   simp only [aI.tR,acv] at hf;subst hf;exact ⟨[],cs,[],rfl,by simp [aI.ar],hr,⟨by simp,by simp,by simp,by simp⟩⟩
 | .cons t ts,cs,ds,r,hr,hf,hn=>by
   unfold aI.tR at hf;obtain ⟨x,hx,hf⟩:=Option.bind_eq_some_iff.1 hf;obtain ⟨y,hy,rfl⟩:=Option.map_eq_some_iff.1 hf;have nv:(x.2.2++y.2.2).Nodup:=hn;obtain ⟨c1,c2,f1,rfl,h2,h3,h4⟩:=Ty.nc h hE t hr hx (aca.1 nv).1;obtain ⟨c3,c4,f2,rfl,h5,h6,h7⟩:=aI.nc h hE ts h3 hy (aca.1 nv).2.1;exact ⟨c1++c3,c4,f1++f2,by simp,by simp only [aI.ar];exact ⟨c1,c3,f1,f2,rfl,rfl,h2,h5⟩,h6,h4.append h h7 nv⟩
end
theorem wI (h:cJ c μ fp v w) (hE:∀ id x,E id=some x→v id=some x) {t:Ty} {cs:List Value} {ds:List ah} {r:t.D×List Nat} (hr:ai c μ cs ds) (hf:xL E t ds=some r):
  ∃ f,t.ar c.fz w cs r.1 f∧kC c fp v E r.2 f:=by
 unfold xL at hf;split at hf
 . rename_i x ids hx
   split at hf
   . rename_i hn
     cases hf;obtain ⟨c1,c2,f,rfl,h2,h3,h4⟩:=Ty.nc h hE t hr hx (lJ _ hn);grind [ai]
   . simp at hf
 . simp at hf
end
end
section
open Go
variable {z:Fz}
mutual
def Ty.zeroV:Ty→List Value
 | .bool=>[.bool false]
 | .int k=>[.int k 0]
 | .str=>[.string ⟨#[]⟩]
 | .hole=>[.slice none 0 0]
 | .sl _=>[.slice none 0 0]
 | .fz _=>[.slice none 0 0]
 | .st fs=>fs.zeroV
def aI.zeroV:aI→List Value
 | .nil=>[]
 | .cons t ts=>t.zeroV++ts.zeroV
end
def nY (P:Program) (t:Ty) (tid:TypeId):Prop:=
 ∃ i z,P.info? tid=some i∧i.size=t.size∧i.bytes≤1024∧i.zero=some z∧z.cells.toList=t.zeroV∧0<t.size
mutual
def Ty.Ok (P:Program):Ty→TypeId→Prop
 | .bool,tid=>nY P .bool tid∧P.underlying tid=some .bool
 | .int k,tid=>nY P (.int k) tid∧P.underlying tid=some (.int k)
 | .str,tid=>nY P .str tid∧P.underlying tid=some .string
 | .hole,tid=>nY P .hole tid∧∃ eid,P.underlying tid=some (.slice eid)
 | .sl e,tid=>nY P (.sl e) tid∧∃ eid,P.underlying tid=some (.slice eid)∧e.Ok P eid
 | .fz e,tid=>nY P (.fz e) tid∧∃ eid,P.underlying tid=some (.slice eid)∧e.Ok P eid
 | .st fs,tid=>nY P (.st fs) tid∧∃ fields,P.underlying tid=some (.struct fields)∧fs.AR P fields.toList 0
def aI.AR (P:Program):aI→List Field→Nat→Prop
 | .nil,fs,_=>fs=[]
 | .cons t ts,fs,off=>∃ f r,fs=f::r∧f.offset=off∧t.Ok P f.type∧ts.AR P r (off+t.size)
end
theorem Ty.Ok.base {P:Program} {t:Ty} {tid:TypeId} (h:t.Ok P tid):nY P t tid:=by
 cases t<;>simp only [Ty.Ok] at h<;>exact h.1
section
variable {P:Program} {w:World}
theorem Ty.Ok.kk {t:Ty} {tid:TypeId} (h:t.Ok P tid):(sizeOf tid).run P w= .ok t.size w:=by
 obtain ⟨i,z,h1,h2,_⟩:=h.base;simp [sizeOf,typeInfo,h1,h2]
theorem Ty.Ok.ng {t:Ty} {tid:TypeId} (h:t.Ok P tid):(isAgg tid).run P w= .ok t.jI w:=by
 cases t<;>simp only [Ty.Ok] at h
 . simp [isAgg,run_underlying h.2,Ty.jI]
 . simp [isAgg,run_underlying h.2,Ty.jI]
 . simp [isAgg,run_underlying h.2,Ty.jI]
 . obtain ⟨_,e,h⟩:=h;simp [isAgg,run_underlying h,Ty.jI]
 . obtain ⟨_,e,h,_⟩:=h;simp [isAgg,run_underlying h,Ty.jI]
 . obtain ⟨_,e,h,_⟩:=h;simp [isAgg,run_underlying h,Ty.jI]
 . obtain ⟨_,e,h,_⟩:=h;simp [isAgg,run_underlying h,Ty.jI]
theorem Ty.Ok.PN {t:Ty} {tid:TypeId} (h:t.Ok P tid):∃ z,(zeroValue tid).run P w= .ok z w∧z.cells.toList=t.zeroV:=by
 obtain ⟨i,z,h1,h2,_,h4,h5,_⟩:=h.base;simp_all [zeroValue,typeInfo]
theorem Ty.Ok.pos {t:Ty} {tid:TypeId} (h:t.Ok P tid):0<t.size:=by
 obtain ⟨i,z,_,_,_,_,_,h⟩:=h.base;exact h
end
mutual
theorem Ty.dO:(t:Ty)→t.zeroV.length=t.size
 | .bool=>rfl
 | .int _=>rfl
 | .str=>rfl
 | .hole=>rfl
 | .sl _=>rfl
 | .fz _=>rfl
 | .st fs=>by simp only [Ty.zeroV,Ty.size];exact aI.dO fs
theorem aI.dO:(t:aI)→t.zeroV.length=t.size
 | .nil=>rfl
 | .cons t ts=>by simp [aI.zeroV,aI.size,Ty.dO t,aI.dO ts]
end
mutual
theorem Ty.jn (w:World):(t:Ty)→t.ar z w t.zeroV t.zero []
 | .bool=>by simp [Ty.ar,Ty.zeroV,Ty.zero]
 | .int _=>by simp [Ty.ar,Ty.zeroV,Ty.zero]
 | .str=>by simp [Ty.ar,Ty.zeroV,Ty.zero]
 | .hole=>by simp only [Ty.ar];exact ⟨⟨_,rfl,rfl⟩,trivial⟩
 | .sl e=>tY w e none
 | .fz e=>by simp only [Ty.ar];exact ⟨jG.2 (pt _ _ e none),trivial⟩
 | .st fs=>by simp only [Ty.ar,Ty.zeroV];exact aI.jn w fs
theorem aI.jn (w:World):(t:aI)→t.ar z w t.zeroV t.zero []
 | .nil=>by simp [aI.ar,aI.zeroV]
 | .cons t ts=>by
   simp only [aI.ar,aI.zeroV];exact ⟨t.zeroV,ts.zeroV,[],[],rfl,rfl,Ty.jn w t,aI.jn w ts⟩
end
theorem aI.AR.field {P:Program}:(ts:aI)→{fs:List Field}→{o:Nat}→ts.AR P fs o→{k:Nat}→{r:Nat×Ty}→ts.offset k=some r→
  ∃ f,fs[k]? =some f∧f.offset=o+r.1∧r.2.Ok P f.type∧r.1+r.2.size≤ts.size
 | .nil,_,_,_,k,r,hk=>by grind [aI.offset]
 | .cons t ts,fs,o,h,k,r,hk=>by
   simp only [aI.AR] at h;obtain ⟨f,q,rfl,h1,h2,h3⟩:=h;cases k with
   |zero=>
    simp only [aI.offset,acv] at hk;subst hk;exact ⟨f,rfl,by simpa using h1,h2,by simp [aI.size]⟩
   |succ k=>
    simp only [aI.offset] at hk;obtain ⟨r',FO,rfl⟩:=Option.map_eq_some_iff.1 hk;obtain ⟨f',e1,e2,e3,e4⟩:=aI.AR.field ts h3 FO;exact ⟨f',by simpa using e1,by simp [e2];omega,e3,by simp [aI.size];omega⟩
theorem Ty.Ok.field {P:Program} {t:Ty} {tid:TypeId} (h:t.Ok P tid) {k:Nat} {r:Nat×Ty} (hk:t.field k=some r):
  ∃ fields f,P.underlying tid=some (.struct fields)∧fields[k]? =some f∧f.offset=r.1∧r.2.Ok P f.type∧r.1+r.2.size≤t.size:=by
 cases t<;>simp [Ty.field] at hk;rename_i fs;simp only [Ty.Ok] at h;obtain ⟨_,fields,hu,hf⟩:=h;obtain ⟨f,e1,e2,e3,e4⟩:=aI.AR.field fs hf hk;exact ⟨fields,f,hu,by simpa using e1,by simpa using e2,e3,by simpa [Ty.size] using e4⟩
def cp (v:Env):nw→Env
 |[]=>v
 |(id,x)::r=>cp (λk=>if k=id then x else v k) r
theorem dn (v:Env) (a b:nw):cp v (a++b)=cp (cp v a) b:=by
 induction a generalizing v with
 |nil=>rfl
 |cons x a ih=>grind [id,cp]
theorem j0 (v:Env) (l:List Nat) (k:Nat):cp v (l.map λid=>(id,none)) k=if k∈l then none else v k:=by
 induction l generalizing v with
 |nil=>simp [cp]
 |cons x l ih=>
  simp only [acd,cp,ih,abF];grind
theorem gq (v:Env) (l:List Nat) (id:Nat) (x:bK) (k:Nat):cp v ((l.map λi=>(i,none))++[(id,some x)]) k=if k=id then some x else if k∈l then none else v k:=by
 rw [dn];simp only [cp,j0]
theorem K6 (v:List (Nat×bK)) (id:Nat) (x:bK) (k:Nat):bf (Pz v id x) k=if k=id then some x else bf v k:=by
 induction v with
 |nil=>grind [Pz,bf,id]
 |cons a v ih=>
  grind [Pz,bf]
theorem FZ (v:List (Nat×bK)) (id:Nat) (k:Nat):bf (vP v id) k=if k=id then none else bf v k:=by
 induction v with
 |nil=>simp [vP,bf]
 |cons a v ih=>
  grind [vP,bf]
theorem vU (u:nw):∀ (v:List (Nat×bK)),bf (AN v u)=cp (bf v) u:=by
 induction u with
 |nil=>intro v;rfl
 |cons a u ih=>
  intro v;obtain ⟨id,x⟩:=a;cases x with
  |none=>simp only [AN,cp,ih];congr 1;funext k;exact FZ v id k
  |some x=>simp only [AN,cp,ih];congr 1;funext k;exact K6 v id x k
theorem cJ.lK {c:Ctx} {μ μ':Nat→Loc} {fp:Nat→List Nat} {v:Env} {w w':World} (h:cJ c μ fp v w) (rem:List Nat) (id0:Nat) (x0:bK) (f0:List Nat)
  (zI:∀ id x,v id=some x→id≠id0→id ∉ rem→μ' id=μ id∧∀ dC∈x.ids,μ' dC=μ dC)
  (J1:∀ id,v id≠none→id≠id0→id ∉ rem→∀ b∈fp id,w'.heap[b]? =w.heap[b]?) (pw:w.heap.size≤w'.heap.size)
  (rb:cz c μ' w' id0 f0 x0) (oS:f0.Nodup)
  (hf:∀ b∈f0,¬ c.S b∧b<w'.heap.size∧∀ id,v id≠none→id≠id0→id ∉ rem→b ∉ fp id):
  cJ c μ' (λk=>if k=id0 then f0 else fp k) (cp v ((rem.map λi=>(i,none))++[(id0,some x0)])) w':=by
 have hold:∀ {k:Nat},k≠id0→cp v ((rem.map λi=>(i,none))++[(id0,some x0)]) k≠none→k ∉ rem∧v k≠none:=by
  intro k hk hn;rw [gq,aa3 hk] at hn;split at hn
  . exact absurd rfl hn
  . exact ⟨‹_›, hn⟩
 have tZ:∀ {k:Nat},k≠id0→cp v ((rem.map λi=>(i,none))++[(id0,some x0)]) k≠none→∀ b∈fp k,b ∉ f0:=by grind
 constructor
 . intro k x hx
   by_cases hk:k=id0
   . subst hk
     rw [gq,aa5 rfl] at hx;grind
   . obtain ⟨hr,hv⟩:=hold hk (by rw [hx];simp)
     rw [gq,aa3 hk,aa3 hr] at hx;simp only [aa3 hk];exact (h.rel k x hx).frame (J1 k hv hk hr) (zI k x hx hk hr).1 (zI k x hx hk hr).2
 . intro k x hx
   by_cases hk:k=id0
   . grind
   . obtain ⟨hr,hv⟩:=hold hk (by rw [hx];simp)
     rw [gq,aa3 hk,aa3 hr] at hx;simp only [aa3 hk];exact h.nodup k x hx
 . intro k k' dV hv LX b hb
   by_cases hk:k=id0
   . grind
   . simp only [aa3 hk] at hb
     by_cases kH:k'=id0
     . grind
     . simp only [aa3 kH]
       exact h.sep k k' dV (hold hk hv).2 (hold kH LX).2 b hb
 . intro k hv b hb
   by_cases hk:k=id0
   . grind
   . simp only [aa3 hk] at hb
     exact h.iQ k (hold hk hv).2 b hb
 . intro k hv b hb
   by_cases hk:k=id0
   . grind
   . simp only [aa3 hk] at hb
     exact aci (h.lt k (hold hk hv).2 b hb) pw
theorem cJ.kN {c:Ctx} {μ μ':Nat→Loc} {fp:Nat→List Nat} {v:Env} {w w':World} (h:cJ c μ fp v w) (ev:Ev c w) (rem:List Nat) (id0:Nat) (x0:bK) (f0:List Nat)
  (zI:∀ id x,v id=some x→id≠id0→id ∉ rem→μ' id=μ id∧∀ dC∈x.ids,μ' dC=μ dC)
  (J1:∀ id,v id≠none→id≠id0→id ∉ rem→∀ b∈fp id,w'.heap[b]? =w.heap[b]?) (pw:w.heap.size≤w'.heap.size)
  (rb:cz c μ' w' id0 f0 x0) (oS:f0.Nodup)
  (hf:∀ b∈f0,(w.heap.size≤b∧b<w'.heap.size)∨∃ id,(id=id0∨id∈rem)∧v id≠none∧b∈fp id):
  cJ c μ' (λk=>if k=id0 then f0 else fp k) (cp v ((rem.map λi=>(i,none))++[(id0,some x0)])) w':=by
 refine h.lK rem id0 x0 f0 zI J1 pw rb oS λb hb=> ?_;rcases hf b hb with ⟨h1,h2⟩|⟨id,h1,h2,h3⟩
 . exact ⟨λhs=>by have:=c.hS.1 b hs;have:=ev.size;omega,h2,by grind⟩
 . refine ⟨h.iQ id h2 b h3,aci (h.lt id h2 b h3) pw,λk hv hk hr b8=>h.sep k id ?_ hv h2 b b8 h3⟩
   grind
theorem F1 (c:Ctx) (μ:Nat→Loc) (v:Value):an c μ v (ofValue v):=by
 unfold ofValue;split
 . simp [an]
 . simp [an]
 . split
   . simp_all [an]
   . simp [an]
 . simp [an]
 . exact ⟨rfl,rfl⟩
 . simp [an]
theorem ca {c:Ctx} {μ:Nat→Loc} {t:Nat→ah} {a:Act} (h:∀ j,an c μ (a.tmps.getD j Go.undef) (t j)) (x:Operand):an c μ (a.eval x) (eT t x):=by
 cases x with
 |tmp j=>exact h j
 |const v=>exact F1 c μ v
 |func f=>simp [eT,Act.eval,an,ai]
 |global g=>simp [eT,an]
structure DZ (c:Ctx) (μ:Nat→Loc) (s:kM) (r:gY) (v':Value) (w':World) (μ':Nat→Loc) (fp':Nat→List Nat):Prop where
 agree:∀ id,s.k id→μ' id=μ id
 val:an c μ' v' r.1
 vs:cJ c μ' fp' (cp s.v r.2) w'
 ev:Ev c w'
def oE (c:Ctx) (μ:Nat→Loc) (s:kM) (o:Oper) (a:Act) (w:World) (r:gY):Prop:=
 ∀ (K:Act→World→Prop) (Q:Exit→Act→World→Prop),(∀ v' w' μ' fp',DZ c μ s r v' w' μ' fp'→K (a.put o.dst v') w')→o.wp c.P a w K Q
theorem dc {c:Ctx} {μ μ':Nat→Loc} {fp':Nat→List Nat} {s:kM} {o:Oper} {a:Act} {w w':World} {r:gY} {v':Value}
  (hr:(execOp a.eval o).run c.P w= .ok (.value v') w') (hp:DZ c μ s r v' w' μ' fp'):oE c μ s o a w r:=by
 intro K Q h;grind [Oper.wp,Oper.upon_value]
theorem ub {c:Ctx} {μ μ':Nat→Loc} {fp':Nat→List Nat} {s:kM} {o:Oper} {a:Act} {w w':World} {r:gY}
  (hr:(execOp a.eval o).run c.P w= .ok .skip w') (hp:DZ c μ s r Go.undef w' μ' fp'):oE c μ s o a w r:=by
 intro K Q h;grind [Oper.wp,Oper.upon_skip]
theorem bq {c:Ctx} {μ:Nat→Loc} {fp:Nat→List Nat} {s:kM} {n:Nat} {o:Oper} {a:Act} {w:World} {d:ah} {v':Value} (h:il c μ fp s n a w)
  (hr:(execOp a.eval o).run c.P w= .ok (.value v') w) (hv:an c μ v' d):oE c μ s o a w (d,[]):=
 dc hr ⟨λ_ _=>rfl,hv,h.vs,h.ev⟩
end
section
open Go
section
variable {c:Ctx} {μ:Nat→Loc} {fp:Nat→List Nat} {s:kM} {n:Nat} {o:Oper} {a:Act} {w:World} {r:gY}
theorem aK {α ρ:Type} {o:Option α} {k:α→Out ρ} {r:ρ} (h:(Out.of o k).eval=some r):∃ x,o=some x∧(k x).eval=some r:=by
 cases o with
 |none=>cases h
 |some x=>exact ⟨x,rfl,h⟩
theorem aT {v:ah} (h:(cu v).eval=some r):r=(v,[]):=(aa6 h).symm
theorem bX {ρ:Type} {p:Bool} {x y:Out ρ} {r:ρ} (h:(Out.ite p x y).eval=some r):(p=true∧x.eval=some r)∨(p=false∧y.eval=some r):=by
 cases p
 . exact .inr ⟨rfl,h⟩
 . exact .inl ⟨rfl,h⟩
theorem iS {α ρ:Type} {o:Option α} {k:α→Out ρ} {r:ρ} (h:(Out.get o k).eval=some r):∃ x,o=some x∧(k x).eval=some r:=by
 cases o with
 |none=>cases h
 |some x=>exact ⟨x,rfl,h⟩
theorem BG {t:Ty} {d:ah} (h:t.jI=false):mg t [d]=d:=by simp [mg,h]
theorem HS {P:Program} {op:BinOp} {k:IntKind} {x y:Int} (hs:DS op=false) (h:(Pm op k x y).eval=some r) (t:TypeId):
  ∃ v',(binOp op t (.int k x) (.int k y)).run P w= .ok v' w∧(∀ c μ,an c μ v' r.1)∧r.2=[]:=by
 cases op<;>simp only [DS,Bool.true_eq_false] at hs
 case quo=>
  rcases bX h with ⟨_,h⟩|⟨h0,h⟩
  . cases h
  . have h0:y≠0:=by simpa using h0
    rw [aT h];exact ⟨.int k (k.wrap (x.tdiv y)),by simp [binOp,Op.intDiv,h0],λ_ _=>by simp [an],rfl⟩
 case rem=>
  rcases bX h with ⟨_,h⟩|⟨h0,h⟩
  . cases h
  . have h0:y≠0:=by simpa using h0
    rw [aT h];exact ⟨.int k (x.tmod y),by simp [binOp,Op.intDiv,h0],λ_ _=>by simp [an],rfl⟩
 all_goals
  rw [aT h];refine ⟨_,by simp [binOp,Op.intArith,Op.intBits,Op.intCmp];rfl,λ_ _=>by simp [an],rfl⟩
theorem D0 {P:Program} {op:BinOp} {k k':IntKind} {x y:Int} (h:(FR op k x y).eval=some r) (t:TypeId):
  ∃ v',(binOp op t (.int k x) (.int k' y)).run P w= .ok v' w∧(∀ c μ,an c μ v' r.1)∧r.2=[]:=by
 cases op<;>try cases h
 all_goals
  rcases bX h with ⟨_,h⟩|⟨h0,h⟩
  . cases h
  . have h0:¬ y<0:=by simpa using h0
    rw [aT h];refine ⟨_,by simp [binOp,Op.shift,h0];rfl,by grind [an],rfl⟩
theorem nZ (x:List UInt8):(ByteArray.mk x.toArray).size=x.length:=by simp [ByteArray.size]
theorem uc (x:List UInt8):(ByteArray.mk x.toArray).toList=x:=by simp_all
theorem D1 (x y:List UInt8):(ByteArray.mk x.toArray)++(ByteArray.mk y.toArray)=ByteArray.mk (x++y).toArray:=by
 apply ByteArray.ext;simp
theorem HT {P:Program} {op:BinOp} {x y:List UInt8} (h:(Pn op x y).eval=some r) (t:TypeId):
  ∃ v',(binOp op t (.string ⟨x.toArray⟩) (.string ⟨y.toArray⟩)).run P w= .ok v' w∧(∀ c μ,an c μ v' r.1)∧r.2=[]:=by
 cases op
 case add=>
  rcases bX h with ⟨h0,h⟩|⟨_,h⟩
  . have h0:x.length+y.length≤bA:=abJ h0
    rw [aT h];refine ⟨.string ⟨(x++y).toArray⟩, ?_,λ_ _=>by simp [an];grind,rfl⟩;have:¬ (((x.length+y.length:Nat):Int)>IntKind.i64.max):=by
     simp [IntKind.max,IntKind.signed,IntKind.bits];grind
    simp_all [binOp,Op.stringOp,nZ,D1]
  . cases h
 all_goals first
  |(cases h;done)
  |(rw [aT h]
    refine ⟨_,by simp only [binOp,Op.stringOp,uc];rfl,λ_ _=>by simp [an,bne],rfl⟩)
variable (h:il c μ fp s n a w)
include h
theorem il.ca (x:Operand):an c μ (a.eval x) (eT s.t x):=Dm.ca h.tm x
theorem il.new {fr:Nat} (hk:¬ s.k fr) (rem:List Nat) (L:Loc) (x0:bK) (f0:List Nat) {w':World}
  (J1:∀ id,s.v id≠none→id ∉ rem→∀ b∈fp id,w'.heap[b]? =w.heap[b]?) (pw:w.heap.size≤w'.heap.size)
  (rb:cz c (λid=>if id=fr then L else μ id) w' fr f0 x0) (oS:f0.Nodup)
  (hf:∀ b∈f0,(w.heap.size≤b∧b<w'.heap.size)∨∃ id,id∈rem∧s.v id≠none∧b∈fp id):
  (∀ id,s.k id→(λid=>if id=fr then L else μ id) id=μ id)∧
  cJ c (λid=>if id=fr then L else μ id) (λk=>if k=fr then f0 else fp k) (cp s.v ((rem.map λi=>(i,none))++[(fr,some x0)])) w':=by
 have ha:∀ id,s.k id→(λid=>if id=fr then L else μ id) id=μ id:=by grind
 refine ⟨ha,h.vs.kN h.ev rem fr x0 f0 ?_ ?_ pw rb oS ?_⟩
 . intro id x hx _ _
   exact ⟨by grind,λdC hi=>ha dC ((h.known.v id x hx).2 dC hi)⟩
 . grind
 grind
theorem J2 {C:Cx} {x:Operand} (ho:o.op= .move x∨o.op= .assign x) {ty fr:Nat} (hk:¬ s.k fr) (hr:(Pw C ty (eT s.t x) fr).eval=some r):oE c μ s o a w r:=by
 have hx:=h.ca x;have run:(execOp a.eval o).run c.P w= .ok (.value (a.eval x)) w:=by rcases ho with ho|ho<;>simp [execOp,ho]
 unfold Pw at hr;split at hr
 . rename_i e0
   split at hr
   . rename_i e he
     cases hr;rw [e0] at hx;simp only [an] at hx;obtain ⟨ad,hv⟩:=hx;obtain ⟨h1,h2⟩:=h.new hk [] (.qQ ad 0 0 e.size) (.arr e []) [] (w':=w) (λ_ _ _ _ _=>rfl) (abE _)
      ⟨ad,0,by simp,tY w e ad,by simp⟩ (by simp) (by simp)
     rw [hv] at run;refine dc run ⟨h1, ?_,h2,h.ev⟩;simp only [an];exact ⟨ad,0,0,e.size,by simp,rfl⟩
   . cases hr
     grind [bq]
 . cases hr
   grind [bq]
theorem PO {x y z:Operand} (ho:o.op= .pick x y z) (hr:(Out.of (abw (eT s.t x)) λp=> .ite p (cu (eT s.t y)) (cu (eT s.t z))).eval=some r):oE c μ s o a w r:=by
 obtain ⟨p,hp,hr⟩:=aK hr;have hx:=h.ca x;have e:eT s.t x= .b p:=by
  unfold abw at hp;grind
 rw [e] at hx;simp only [an] at hx;rcases bX hr with ⟨rfl,hr⟩|⟨rfl,hr⟩
 . rw [aT hr]
   exact bq h (v':=a.eval y) (by simp [execOp,ho,hx,asBool]) (h.ca y)
 . rw [aT hr]
   exact bq h (v':=a.eval z) (by simp [execOp,ho,hx,asBool]) (h.ca z)
theorem D2 {x:Operand} (ho:o.op= .nilCheck x)
  (hr:(match eT s.t x with
   | .vptr id off=>cu (.vptr id off)
   | .jv id i off=>cu (.jv id i off)
   | .AA t x off=>cu (.AA t x off)
   |_=> .fail:Out gY).eval=some r):oE c μ s o a w r:=by
 have hx:=h.ca x;split at hr
 . rename_i e;rw [e] at hx;rw [aT hr]
   have qZ:=hx;simp only [an] at hx;obtain ⟨B,o',_,hv⟩:=hx;exact bq h (by simp [execOp,ho,hv]) (hv ▸ qZ)
 . rename_i e;rw [e] at hx;rw [aT hr]
   have qZ:=hx;simp only [an] at hx;obtain ⟨b,o',len,cap,sz,_,_,hv⟩:=hx;exact bq h (by simp [execOp,ho,hv]) (hv ▸ qZ)
 . rename_i e;rw [e] at hx;rw [aT hr]
   have qZ:=hx;simp only [an] at hx;obtain ⟨b,o',_,_,hv⟩:=hx;exact bq h (by simp [execOp,ho,hv]) (hv ▸ qZ)
 . cases hr
theorem PQ {op:UnOp} {t:TypeId} {x:Operand} (ho:o.op= .unOp op t x) (hr:(unD op (eT s.t x)).eval=some r):oE c μ s o a w r:=by
 have hx:=h.ca x;unfold unD at hr;split at hr
 . rename_i e;rw [e] at hx;rw [aT hr]
   simp only [an] at hx;exact bq h (by simp [execOp,ho,hx,Op.unary];rfl) (by simp [an])
 . rename_i e;rw [e] at hx;rw [aT hr]
   simp only [an] at hx;exact bq h (by simp [execOp,ho,hx,Op.unary,Op.intArith];rfl) (by simp [an])
 . cases hr
theorem F2 {x:Operand} {k:Nat} (ho:o.op= .extract x k)
  (hr:(match eT s.t x with
   | .FQ vs=> .of vs[k]? λv=>cu v
   |_=> .fail:Out gY).eval=some r):oE c μ s o a w r:=by
 have hx:=h.ca x;split at hr
 . rename_i vs e
   rw [e] at hx;simp only [an] at hx;obtain ⟨us,hv,hx⟩:=hx;obtain ⟨d,hd,hr⟩:=aK hr;rw [aT hr];obtain ⟨u,hu,rb⟩:=hx.get hd;have yT:us[k]? =some u:=by simpa using hu
   exact bq h (v':=u) (by simp_all [execOp,Instr.extract]) rb
 . cases hr
theorem D3 {f:FuncId} {first cs:Array Operand} (ho:o.op= .makeFunc (.func f) first cs)
  (hr:(if first.size=0 then cu (.fn f (cs.toList.map (eT s.t))) else .fail).eval=some r):oE c μ s o a w r:=by
 split at hr
 . rename_i h0
   rw [aT hr];have:first= #[]:=by grind
   subst this;refine bq h (v':= .func (.func f) #[] (cs.map a.eval)) (by simp [execOp,ho,Instr.makeFunc]) ?_;simp only [an];refine ⟨_,rfl, ?_⟩;rw [Array.toList_map];refine ai.zE (by simp) λj d v hd hv=> ?_;rw [afj] at hd hv;obtain ⟨x,hx,rfl⟩:=Option.map_eq_some_iff.1 hd;rw [hx] at hv;cases hv;exact h.ca x
 . cases hr
theorem K7 {t:TypeId} {x y:Operand} (ho:o.op= .index t x y) (ht:c.P.underlying t=some .string)
  (hr:(Out.of (lG (eT s.t y)) λk=>
   match eT s.t x with
   | .s l=> .ite (decide (0≤k)) (.get (nth l k.toNat) λc=>cu (.i .u8 (c.toNat:Int))) .fail
   |_=> .fail).eval=some r):oE c μ s o a w r:=by
 have hx:=h.ca x;have hy:=h.ca y;obtain ⟨k,hk,hr⟩:=aK hr;have e:∃ kd,eT s.t y= .i kd k:=by
  unfold lG at hk;split at hk
  . rename_i e0;cases hk;exact ⟨_,e0⟩
  . cases hk
 obtain ⟨kd,e⟩:=e;rw [e] at hy;simp only [an] at hy;split at hr
 . rename_i l el
   rw [el] at hx;simp only [an] at hx;rcases bX hr with ⟨h0,hr⟩|⟨_,hr⟩
   . have h0:0≤k:=abJ h0
     obtain ⟨b,hb,hr⟩:=iS hr;rw [aT hr];have bS:k.toNat<l.length:=(List.getElem?_eq_some_iff.1 hb).1;have b8:(ByteArray.mk l.toArray)[k.toNat]? =some b:=by
      rw [ByteArray.getElem?_lt' _ _ (by rw [nZ];exact bS)];have:=(List.getElem?_eq_some_iff.1 hb).2;congr 1
     refine bq h (v':= .int .u8 b.toNat) ?_ (by simp [an]);simp_all [execOp,Instr.index,asIntOf,run_underlying]
   . cases hr
 . cases hr
theorem K8 {C:Cx} (hC:∀ tid t,C.ty tid=some t→t.Ok c.P tid) {t:TypeId} {x:Operand} {k:Nat} (ho:o.op= .field t x k)
  (hr:(Out.of (C.ty t) λt=> .of (t.field k) λf=>
  match eT s.t x with
  | .agg cs=>if f.1+f.2.size≤cs.length then cu (mg f.2 ((cs.drop f.1).take f.2.size)) else .fail
  |_=> .fail).eval=some r):oE c μ s o a w r:=by
 have hx:=h.ca x;obtain ⟨ty,ko,hr⟩:=aK hr;obtain ⟨f,hf,hr⟩:=aK hr;obtain ⟨fields,fd,hu,h1,h2,h3,h4⟩:=(hC t ty ko).field hf;split at hr
 . rename_i cs e
   rw [e] at hx;simp only [an] at hx;obtain ⟨us,hv,hx⟩:=hx;split at hr
   . rename_i hle
     rw [aT hr];have hl:=hx.length;have fq:=(hx.drop f.1).take f.2.size;cases pU:f.2.jI with
     |true=>
      refine bq h (v':= .agg (us.extract f.1 (f.1+f.2.size))) ?_ ?_
      . simp [execOp,ho,hv,Instr.field,run_underlying hu,h1,asAgg,part,h3.ng,pU,h3.kk,h2]
      . simp only [mg,pU,an]
        refine ⟨_,rfl, ?_⟩;rw [Array.toList_extract];simpa [List.extract_eq_take_drop,List.take_drop] using fq
     |false=>
      have hs1:f.2.size=1:=by cases hf2:f.2<;>rw [hf2] at pU<;>first|rfl|grind [Ty.jI]
      rw [hs1] at fq hle;have bS:f.1<us.size:=by grind
      have ox:f.1<cs.length:=by omega
      rw [acr (by simpa using bS),acr ox] at fq;simp only [List.take_succ_cons,afO,ai] at fq;obtain ⟨v,aZ,e1,Q7,_⟩:=fq;cases e1;refine bq h (v':=us[f.1]) ?_ ?_
      . simp [execOp,ho,hv,Instr.field,run_underlying hu,h1,asAgg,part,h3.ng,pU,h2,bS]
      grind [List.drop_eq_getElem_cons,BG]
   . cases hr
 . cases hr
end
end
section
open Go
def HU (P:Program) (tid:TypeId):Prop:=
 P.stoodInHeld tid=false∧P.eqGuardType P.depth tid=false∧∃ fields,P.underlying tid=some (.struct fields)∧∀ f∈fields.toList,f.name≠ "_"
def afg (P:Program) (tid:TypeId):Prop:=(tid<QH→HU P tid)∧∀ k,tid=k+QH→P.underlying k=some (.interface (P.methodsAt k))
structure iF (C:Cx) (P:Program):Prop where
 ty:∀ tid t,C.ty tid=some t→t.Ok P tid
 eqv:∀ tid,C.eqv tid=true→afg P tid
section
variable {c:Ctx} {μ:Nat→Loc} {fp:Nat→List Nat} {s:kM} {n:Nat} {o:Oper} {a:Act} {w:World} {r:gY}
theorem F3 {P:Program} {tid:TypeId} {t:Ty} (h:t.Ok P tid) (ht:t.jI=false) {xs:Array Value} {off:Nat} {v:Value} (hv:xs[off]? =some v):
  (part tid xs off).run P w= .ok v w:=by
 simp [part,h.ng,ht,hv]
theorem HV {P:Program} {t:Ty} {tid:TypeId} {x y:ah} {b:Bool} {v u:Value} (ht:t.Ok P tid) (he:DR t x y=some b) (hv:an c μ v x) (hu:an c μ u y):
  t.size=1∧t.jI=false∧∀ d,(Op.equalIn (d+1) tid v u).run P w= .ok b w:=by
 unfold DR at he;split at he
 . cases he
   simp only [an] at hv hu;subst hv hu;simp only [Ty.Ok] at ht;exact ⟨rfl,rfl,by grind [run_equalIn_bool']⟩
 . split at he
   . rename_i hk;obtain ⟨rfl,rfl⟩:=hk;cases he
     simp only [an] at hv hu;subst hv hu;simp only [Ty.Ok] at ht;exact ⟨rfl,rfl,by grind [run_equalIn_int]⟩
   . cases he
 . cases he
   simp only [an] at hv hu;obtain ⟨rfl,_⟩:=hv;obtain ⟨rfl,_⟩:=hu;simp only [Ty.Ok] at ht;refine ⟨rfl,rfl,λd=> ?_⟩;grind [run_equalIn_string,uc]
 . cases he
theorem ud {P:Program} {x y:Array Value}:(ts:aI)→∀ {fs:List Field} {off:Nat} {dx dy:List ah} {z:Bool},ts.AR P fs off→(∀ f∈fs,f.name≠ "_")→
  ai c μ (x.toList.drop off) dx→ai c μ (y.toList.drop off) dy→ts.To dx dy=some z→∀ (d:Nat),(Op.eqFields (d+1) x y fs).run P w= .ok z w
 | .nil,fs,off,dx,dy,z,hf,_,hx,hy,he,d=>by
   simp only [aI.AR] at hf;subst hf;unfold aI.To at he;split at he
   . cases he;rfl
   . rename_i e;cases e
   . cases he
 | .cons t ts,fs,off,dx,dy,z,hf,hn,hx,hy,he,d=>by
   simp only [aI.AR] at hf;obtain ⟨f,q,rfl,h1,h2,h3⟩:=hf;have afh:f.name≠ "_" :=hn f (by simp);cases dx with
   |nil=>cases dy<;>cases he
   |cons d0 dx'=>
   cases dy with
   |nil=>cases he
   |cons e0 dy'=>
    obtain ⟨b,hb,he⟩:=Option.bind_eq_some_iff.1 (show ((DR t d0 e0).bind λb=>(ts.To dx' dy').map λz=>b&&z)=some z from he);obtain ⟨z',hz,rfl⟩:=Option.map_eq_some_iff.1 he;simp only [ai] at hx hy;obtain ⟨v,vs,ex,hv,hx⟩:=hx;obtain ⟨u,us,ey,hu,hy⟩:=hy;obtain ⟨ue,pU,heq⟩:=HV (w:=w) h2 hb hv hu;have hxo:x[off]? =some v:=by
     have:=congrArg (λl=>l[0]?) ex;simpa [ab8] using this
    have hyo:y[off]? =some u:=by
     have:=congrArg (λl=>l[0]?) ey;simpa [ab8] using this
    have qZ:ai c μ (x.toList.drop (off+1)) dx':=by
     have:x.toList.drop (off+1)=vs:=by rw [← aga,ex];rfl
     rw [this];exact hx
    have nO:ai c μ (y.toList.drop (off+1)) dy':=by
     have:y.toList.drop (off+1)=us:=by rw [← aga,ey];rfl
     rw [this];exact hy
    rw [ue] at h3;have ih:=ud ts h3 (λf hf=>hn f (by simp [hf])) qZ nO hz d;have p1:=F3 (w:=w) (xs:=x) (off:=f.offset) h2 pU (by rw [h1];exact hxo);have p2:=F3 (w:=w) (xs:=y) (off:=f.offset) h2 pU (by rw [h1];exact hyo);simp only [Op.eqFields,afh,ne_eq,not_false_eq_true,ae4,Sem.run_bind,p1,p2,Result.andThen_ok,heq d,Sem.run_ite,Sem.run_pure,ih];cases b<;>simp
variable (h:il c μ fp s n a w)
include h
theorem HW {C:Cx} (hC:iF C c.P) {op:BinOp} {t yt:TypeId} {x:Operand} (ho:o.op= .binOp op t x (.const .nilIface) yt)
  (hr:(match eT s.t x with
  | .er b=>if C.eqv (t+QH)=true then FT op b else .fail
  |_=> .fail:Out gY).eval=some r):oE c μ s o a w r:=by
 have hx:=h.ca x;split at hr
 case h_2=>cases hr
 rename_i b e;rw [e] at hx;simp only [an] at hx;split at hr
 case isFalse=>cases hr
 rename_i hq;have hms:c.P.underlying t=some (.interface (c.P.methodsAt t)):=(hC.eqv _ hq).2 t rfl;obtain ⟨h1,h2⟩:=hx;have he:(binOp .eql t (a.eval x) .nilIface).run c.P w= .ok (.bool b) w∧(binOp .neq t (a.eval x) .nilIface).run c.P w= .ok (.bool !b) w∧∀ op,(eqGuard op t x (.const .nilIface) (a.eval x) .nilIface).run c.P w= .ok () w:=by
  cases b with
  |true=>
   simp_all [run_eql_nil_nil,run_neq_nil_nil,eqGuard_nil_constR]
  |false=>
   obtain ⟨t',p',h2⟩:∃ t p,a.eval x= .iface t p:=h2;simp_all [run_eql_held_nil,run_neq_held_nil,eqGuard_at_iface]
 have hcn:a.eval (.const .nilIface)= .nilIface:=rfl;unfold FT at hr;split at hr
 . rw [aT hr]
   exact bq h (v':= .bool b) (by simp_all [execOp]) (by simp [an])
 . rw [aT hr]
   exact bq h (v':= .bool !b) (by simp_all [execOp]) (by simp [an])
 . cases hr
theorem K9 {C:Cx} (hC:iF C c.P) {op:BinOp} {t yt:TypeId} {x y:Operand} (ho:o.op= .binOp op t x y yt)
  (hr:(match eT s.t x,eT s.t y with
  | .agg a, .agg b=> .of (C.ty t) λty=>if C.eqv t=true∧t<QH then
   .of (ty.To a b) λz=>FT op z else .fail
  |a,b=>abu (C.ty t) op a b:Out gY).eval=some r):oE c μ s o a w r:=by
 have hx:=h.ca x;have hy:=h.ca y;split at hr
 . rename_i da db ea eb
   rw [ea] at hx;rw [eb] at hy;simp only [an] at hx hy;obtain ⟨vx,e1,hx⟩:=hx;obtain ⟨vy,e2,hy⟩:=hy;obtain ⟨ty,ko,hr⟩:=aK hr;split at hr
   . rename_i hq
     obtain ⟨g1,g2,fields,hu,hnm⟩:=(hC.eqv t hq.1).1 hq.2;obtain ⟨z,hz,hr⟩:=aK hr;have dF:=hC.ty t ty ko;have gP:(Op.equalIn 10000 t (.agg vx) (.agg vy)).run c.P w= .ok z w:=by
      have hfo:c.P.fieldsOf t=fields:=by simp [Program.fieldsOf,hu]
      rw [run_equalIn_struct w 9999 t vx vy (by rw [hfo];exact hu) g1,hfo];cases ty<;>simp only [Ty.To] at hz<;>try (cases hz;done)
      simp only [Ty.Ok] at dF;obtain ⟨_,agx,yT,hf⟩:=dF;rw [hu] at yT;cases yT;exact ud _ hf hnm (by simpa using hx) (by simpa using hy) hz 9998
     cases op<;>try (cases hr;done)
     . rw [aT hr]
       refine bq h (v':= .bool z) ?_ (by simp [an]);simp [execOp,ho,e1,e2,run_eqGuard_agg w _ t _ _ _ _ g2,run_eql_struct,gP]
     . rw [aT hr]
       refine bq h (v':= .bool (!z)) ?_ (by simp [an]);simp [execOp,ho,e1,e2,run_eqGuard_agg w _ t _ _ _ _ g2,run_neq_struct,gP]
   . cases hr
 . unfold abu at hr
   split at hr
   . rename_i k1 x1 k2 x2 e1 e2
     rw [e1] at hx;rw [e2] at hy;simp only [an] at hx hy;have hg:(eqGuard op t x y (.int k1 x1) (.int k2 x2)).run c.P w= .ok () w:=by cases op<;>simp [eqGuard]
     split at hr
     . obtain ⟨v',h1,h2,h3⟩:=D0 (w:=w) (P:=c.P) hr t (k':=k2)
       refine dc (μ':=μ) (fp':=fp) (v':=v') (w':=w) (by simp [execOp,ho,hx,hy,hg,h1]) ⟨λ_ _=>rfl,h2 c μ,by rw [h3];exact h.vs,h.ev⟩
     . rename_i hs
       split at hr
       . rename_i hk;subst hk
         obtain ⟨v',h1,h2,h3⟩:=HS (w:=w) (P:=c.P) (by simpa using hs) hr t;refine dc (μ':=μ) (fp':=fp) (v':=v') (w':=w) (by simp [execOp,ho,hx,hy,hg,h1]) ⟨λ_ _=>rfl,h2 c μ,by rw [h3];exact h.vs,h.ev⟩
       . cases hr
   . rename_i x1 x2 e1 e2
     rw [e1] at hx;rw [e2] at hy;simp only [an] at hx hy;have hg:(eqGuard op t x y (.string ⟨x1.toArray⟩) (.string ⟨x2.toArray⟩)).run c.P w= .ok () w:=by cases op<;>simp [eqGuard]
     obtain ⟨v',h1,h2,h3⟩:=HT (w:=w) (P:=c.P) hr t;refine dc (μ':=μ) (fp':=fp) (v':=v') (w':=w) (by simp_all [execOp]) ⟨λ_ _=>rfl,h2 c μ,by rw [h3];exact h.vs,h.ev⟩
   . rename_i x1 x2 e1 e2
     rw [e1] at hx;rw [e2] at hy;simp only [an] at hx hy;have hg:(eqGuard op t x y (.bool x1) (.bool x2)).run c.P w= .ok () w:=by simp_all [eqGuard]
     split at hr
     . rename_i hb
       have hu:c.P.underlying t=some .bool:=by
        unfold JR at hb;split at hb
        . rename_i e;have:=hC.ty t _ e;grind [Ty.Ok]
        . cases hb
       cases op<;>try (cases hr;done)
       . rw [aT hr]
         exact bq h (v':= .bool (x1==x2)) (by simp_all [execOp,run_eql_bool]) (by simp [an])
       . rw [aT hr]
         exact bq h (v':= .bool (!(x1==x2))) (by simp_all [execOp,run_neq_bool]) (by simp [an])
     . cases hr
   . cases hr
end
end
section
open Go
variable {z:Fz}
section
variable {c:Ctx} {μ:Nat→Loc} {fp:Nat→List Nat} {s:kM} {n:Nat} {o:Oper} {a:Act} {w:World} {r:gY} {C:Cx} {E:Env}
theorem qR {t e:Ty} (h:rZ t=some e):t= .sl e:=by
 cases t<;>simp [rZ] at h;rw [h]
theorem xN {d:ah} {k:Int} (h:lG d=some k):∃ kd,d= .i kd k:=by
 cases d<;>simp [lG] at h;simp_all
theorem Ty.Ok.sl {P:Program} {e:Ty} {tid:TypeId} (h:(Ty.sl e).Ok P tid):∃ eid,P.underlying tid=some (.slice eid)∧e.Ok P eid:=by grind [Ty.Ok]
theorem Ty.Ok.desc {P:Program} {t:Ty} {tid:TypeId} (h:t.Ok P tid):∃ d,P.underlying tid=some d:=by
 cases t<;>simp only [Ty.Ok] at h
 . grind
 . grind
 . grind
 . grind
 . grind
 . grind
 grind
theorem kO (hv:cJ c μ fp s.v w) (hE:∀ id x,E id=some x→s.v id=some x) {id es:Nat} (h:mX E id=some es):
  ∃ a len cap,μ id= .qQ a len cap es∧len≤cap∧(0<cap→∃ b o,a=some ⟨b,o,none⟩)∧AM E (.cB id none)=some len:=by
 unfold mX at h;split at h
 . rename_i e xs hx
   cases h;obtain ⟨a,cap,h1,h2,_⟩:=hv.rel id _ (hE _ _ hx);grind [Ty.ar,AM]
 . rename_i e xs i off u dC hx
   cases h;obtain ⟨a,cap,h1,_,_,h3,h4⟩:=hv.rel id _ (hE _ _ hx);grind [AM]
 . rename_i e xs i cs hx
   cases h;obtain ⟨a,cap,b,o,_,_,_,_,h1,h2,_,_,_,h6,_⟩:=hv.rel id _ (hE _ _ hx);grind [AM]
 . rename_i e ys k hx
   cases h;obtain ⟨a,cap,a',h1,h2,h3,_⟩:=hv.rel id _ (hE _ _ hx);grind [AM]
 . cases h
theorem PR {S:Nat→Prop} {w:World} {e:Ty} {v:List Value} {l:List e.D} (h:(Ty.sl e).aN S w v l):List.length l≤aM:=by grind [Ty.aN]
theorem F4 {P:Program} {src dst:TypeId} {k kd:IntKind} {m:Int} {d:TypeDesc} (h1:P.underlying src=some d) (h2:P.underlying dst=some (.int k)):
 (convert src dst (.int kd m)).run P w= .ok (.int k (k.wrap m)) w:=by simp_all [convert,run_underlying,Conv.intToInt]
theorem La {S:Nat→Prop} {k:IntKind} {v:Value} {l:List Int} (h:(Ty.sl (.int k)).aN S w [v] l):
  ∃ ad cap,v= .slice ad l.length cap∧l.length≤cap∧(l=[]∨∃ b o,ad=some ⟨b,o,none⟩∧S b∧∀ i,i<l.length→w.cell? ⟨b,o+i,none⟩=some (.int k (l.getD i 0))):=by
 simp only [Ty.aN] at h;obtain ⟨ad,cap,e1,hc,h⟩:=h;refine ⟨ad,cap,(List.cons.inj e1).1,hc.1, ?_⟩;rcases h with h|⟨b,o,ha,hb,hi⟩
 . exact .inl h
 . refine .inr ⟨b,o,ha,hb,λi bS=> ?_⟩
   have h4:aE w b (o+i) 1=[.int k (l.getD i 0)]:=by
    have:=hi i (l.getD i 0) (by show l[i]? =some (l.getD i 0);grind);simp_all [Ty.size,Nat.mul_one]
   unfold aE at h4;split at h4
   . rename_i C' E' fr b8
     have h3:C'[o+i]? =some (.int k (l.getD i 0)):=by
      have:=congrArg (λq=>q[0]?) h4;simpa [afD,ab8] using this
     grind [World.cell?]
   . cases h4
theorem AS {P:Program} {src dst eid:TypeId} {v:Value} {l:List Int} {S:Nat→Prop} (h1:P.underlying src=some (.slice eid)) (h2:P.underlying eid=some (.int .u8)) (h3:P.underlying dst=some .string)
  (dp:(Ty.sl (.int .u8)).aN S w [v] l):(convert src dst v).run P w= .ok (.string ⟨(l.map λn:Int=>UInt8.ofNat n.toNat).toArray⟩) w:=by
 obtain ⟨ad,cap,rfl,hc,dp⟩:=La dp;rcases dp with rfl|⟨b,o',rfl,_,hi⟩
 . cases ad with
   |none=>exact run_convert_bytes_nil w src eid h1 h2 _ _ dst h3
   |some ad=>
    rw [run_convert_bytes_string w src dst eid _ _ _ h1 h2 h3];exact run_bytesToString w ad 0 cap [] (by simp [loadCells,loadCellsFrom])
 . exact run_convert_bytes_arg w src eid h1 h2 b o' l.length cap l rfl hi dst h3
variable (h:il c μ fp s n a w)
include h
theorem F5 (hC:iF C c.P) (hE:∀ id x,E id=some x→s.v id=some x) {src dst:TypeId} {x:Operand} (ho:o.op= .convert src dst x)
  (hr:(Pv C E src dst (eT s.t x)).eval=some r):oE c μ s o a w r:=by
 have hx:=h.ca x;unfold Pv at hr;obtain ⟨t,ht,hr⟩:=aK hr;have dF:=hC.ty dst t ht;split at hr
 . rename_i k kd m e
   rw [e] at hx;simp only [an] at hx;simp only [Ty.Ok] at dF;split at hr
   . rename_i hs
     obtain ⟨ts,hs⟩:=Option.isSome_iff_exists.1 hs;obtain ⟨ds,hds⟩:=(hC.ty src ts hs).desc;rw [aT hr];exact bq h (v':= .int k (k.wrap m)) (by simp_all [execOp,F4]) (by simp [an])
   . cases hr
 . rename_i l e
   rw [e] at hx;simp only [an] at hx;simp only [Ty.Ok] at dF;split at hr
   . rename_i hs
     obtain ⟨ts,hs⟩:=Option.isSome_iff_exists.1 hs;obtain ⟨ds,hds⟩:=(hC.ty src ts hs).desc;rw [aT hr];exact bq h (v':= .string ⟨l.toArray⟩) (by simp [execOp,ho,hx.1,convert,run_underlying hds,run_underlying dF.2]) (by grind [an])
   . cases hr
 . simp only [Ty.Ok] at dF
   split at hr
   . rename_i hb
     obtain ⟨l,hl,hr⟩:=aK hr;rw [aT hr];have re:∃ eid,c.P.underlying src=some (.slice eid)∧c.P.underlying eid=some (.int .u8):=by
      unfold JS at hb;split at hb
      . rename_i e
        obtain ⟨eid,h1,h2⟩:=(hC.ty src _ e).sl;grind [Ty.Ok]
      . cases hb
     obtain ⟨eid,h1,h2⟩:=re;have dp:=nX h.vs h.ev hE (S':=λ_=>True) (λ_ _=>trivial) (λ_ _ _ _=>trivial) hx hl;refine bq h (v':= .string ⟨(List.map (λn:Int=>UInt8.ofNat n.toNat) l).toArray⟩) ?_ (by simp only [an];exact ⟨trivial,abG (aeB (acF _)) (PR dp)⟩);have key:=AS h1 h2 dF.2 dp;simp_all [execOp]
   . cases hr
 . cases hr
theorem AU (hC:iF C c.P) {t:TypeId} {x:Operand} {k:Nat} (ho:o.op= .fieldAddr t x k)
  (hr:(Out.of (C.ty t) λt=> .of (t.field k) λf=>
  match eT s.t x with
  | .vptr id off=>cu (.vptr id (off+f.1))
  | .jv id i off=>cu (.jv id i (off+f.1))
  | .AA t x off=>cu (.AA t x (off+f.1))
  |_=> .fail:Out gY).eval=some r):oE c μ s o a w r:=by
 have hx:=h.ca x;obtain ⟨ty,ko,hr⟩:=aK hr;obtain ⟨f,hf,hr⟩:=aK hr;obtain ⟨fields,fd,hu,h1,h2,h3,h4⟩:=(hC.ty t ty ko).field hf;have mv:=h3.pos;have run:∀ B o',(Instr.fieldAt t (.pointer (some ⟨B,o',none⟩)) k).run c.P w= .ok (.pointer (some ⟨B,o'+f.1,none⟩)) w:=by
  intro B o';have:f.2.size≠0:=by omega
  simp [Instr.fieldAt,run_underlying hu,h1,Instr.sureAddr,fieldPlace,h3.kk,this,h2,Addr.add]
  try (split<;>simp_all)
 split at hr
 . rename_i id off e
   rw [e] at hx;rw [aT hr];simp only [an] at hx;obtain ⟨B,o',hm,hv⟩:=hx;refine bq h (v':= .pointer (some ⟨B,o'+off+f.1,none⟩)) (by simp_all [execOp]) ?_;grind [an,Nat.add_assoc]
 . rename_i id i off e
   rw [e] at hx;rw [aT hr];simp only [an] at hx;obtain ⟨b,o',len,cap,sz,hm,hi,hv⟩:=hx;refine bq h (v':= .pointer (some ⟨b,o'+i*sz+off+f.1,none⟩)) (by simp_all [execOp]) ?_;grind [an,Nat.add_assoc]
 . rename_i t' x' off e
   rw [e] at hx;rw [aT hr];simp only [an] at hx;obtain ⟨b,o',hb,hm,hv⟩:=hx;refine bq h (v':= .pointer (some ⟨b,o'+off+f.1,none⟩)) (by simp_all [execOp]) ?_;grind [an,Nat.add_assoc]
 . cases hr
theorem rv (hC:iF C c.P) (hE:∀ id x,E id=some x→s.v id=some x) {t:TypeId} {x y:Operand} (ho:o.op= .indexAddr t x y)
  (hr:(Out.of (C.ty t) λt=> .of (rZ t) λe=> .of (lG (eT s.t y)) λn=>HO E e.size (eT s.t x) n).eval=some r):oE c μ s o a w r:=by
 have hx:=h.ca x;have hy:=h.ca y;obtain ⟨ty,ko,hr⟩:=aK hr;obtain ⟨e,he,hr⟩:=aK hr;obtain ⟨m,hm,hr⟩:=aK hr;have ko:C.ty t=some (.sl e):=qR he ▸ ko;obtain ⟨eid,hu,dF⟩:=(hC.ty t _ ko).sl;obtain ⟨kd,ey⟩:=xN hm;rw [ey] at hy;simp only [an] at hy;have run:∀ (b o' len cap:Nat),0≤m→m<len→(Instr.indexAt t (.slice (some ⟨b,o',none⟩) len cap) (.int kd m)).run c.P w= .ok (.pointer (some ⟨b,o'+m.toNat*e.size,none⟩)) w:=by
  intro b o' len cap h0 h1;simp [Instr.indexAt,asIntOf,run_underlying hu,h0,h1,dF.kk,Addr.add]
  try (split<;>simp_all)
 unfold HO at hr;split at hr
 . rename_i e' xs tk ex
   rw [ex] at hx;simp only [an] at hx;split at hr
   . rename_i ue
     rcases bX hr with ⟨h0,hr⟩|⟨_,hr⟩
     . have h0:0≤m:=abJ h0
       obtain ⟨z,hz,hr⟩:=iS hr;rw [aT hr];have bS:m.toNat<xs.length:=(List.getElem?_eq_some_iff.1 hz).1;obtain ⟨b,o',cap,hv,hb,dp⟩:=K4 hx.1 hz;refine bq h (v':= .pointer (some ⟨b,o'+m.toNat*e.size,none⟩)) (by simp [execOp,ho,hv,hy,run b o' xs.length cap h0 (by omega)]) ?_;simp only [an];exact ⟨b,o'+m.toNat*e.size,hb,by rw [← ue];exact dp,rfl⟩
     . cases hr
   . cases hr
 . rename_i id ex
   rw [ex] at hx;simp only [an] at hx;obtain ⟨ad,len,cap,sz,oH,hv⟩:=hx;obtain ⟨l,hl,hr⟩:=aK hr;split at hr
   . rename_i ue
     obtain ⟨ad',mY,jP,g1,g2,g3,g4⟩:=kO h.vs hE ue;rw [oH] at g1;cases g1;rw [g4] at hl;cases hl;rcases bX hr with ⟨h0,hr⟩|⟨_,hr⟩
     . have h0:0≤m∧m<(len:Int):=abJ h0
       rw [aT hr];obtain ⟨b,o',rfl⟩:=g3 (by omega);refine bq h (v':= .pointer (some ⟨b,o'+m.toNat*e.size,none⟩)) (by simp [execOp,ho,hv,hy,run b o' len cap h0.1 h0.2]) ?_;simp only [an];exact ⟨b,o',len,cap,e.size,oH,by omega,rfl⟩
     . cases hr
   . cases hr
 . rename_i id off l ex
   rw [ex] at hx;simp only [an] at hx;obtain ⟨ad,len,cap,sz,ad2,oH,hle,hlc,hv,VB⟩:=hx;split at hr
   . rename_i ue
     obtain ⟨ad',mY,jP,g1,g2,g3,g4⟩:=kO h.vs hE ue;rw [oH] at g1;cases g1;rcases bX hr with ⟨h0,hr⟩|⟨_,hr⟩
     . have h0:0≤m∧m<(l:Int):=abJ h0
       rw [aT hr];rcases VB with VB|⟨b,o',rfl,rfl⟩
       . omega
       refine bq h (v':= .pointer (some ⟨b,o'+off*e.size+m.toNat*e.size,none⟩)) (by simp_all [execOp]) ?_;simp only [an];grind
     . cases hr
   . cases hr
 . cases hr
theorem Tt (hC:iF C c.P) (hE:∀ id x,E id=some x→s.v id=some x) {cl:Call} (hcl:cl.callee= .builtin .len) {t:TypeId} {x:Operand} (ha:cl.args.toList=[x]) (JO:cl.argTypes.toList=[t]) (ho:o.op= .call cl)
  (hr:(Out.of (C.ty t) λt=> .of (abv E t (eT s.t x)) λn=>cu (.i .i64 (n:Int))).eval=some r):oE c μ s o a w r:=by
 have hx:=h.ca x;obtain ⟨ty,ko,hr⟩:=aK hr;obtain ⟨m,hm,hr⟩:=aK hr;rw [aT hr];have dF:=hC.ty t ty ko;have CV:cl.args= #[x]:=by grind
 have Lb:cl.argTypes= #[t]:=by grind
 have key:∀ v,(Builtin.len_ #[t] o.type #[a.eval x]).run c.P w= .ok v w→(execOp a.eval o).run c.P w= .ok (.value v) w:=by simp_all [execOp,resolve,invoke,builtin]
 refine bq h (v':= .int .i64 m) (key _ ?_) (by simp [an]);unfold abv at hm;split at hm
 . rename_i l e
   cases hm;rw [e] at hx;simp only [an] at hx;simp only [Ty.Ok] at dF;simp [Builtin.len_,hx,run_underlying dF.2,nZ,goInt]
 . rename_i e
   obtain ⟨eid,hu,AV⟩:=dF.sl;have hv:∃ ad cap,a.eval x= .slice ad m cap:=by
    unfold AM at hm;split at hm
    . grind [an,Ty.aN]
    . grind [an]
    . rename_i ex;rw [ex] at hx
      simp only [an] at hx;obtain ⟨ad,len,cap,sz,g1,hv⟩:=hx;split at hm
      . rename_i hEx;cases hm
        obtain ⟨a2,cap2,q1,_⟩:=h.vs.rel _ _ (hE _ _ hEx);grind
      . rename_i hEx;cases hm
        obtain ⟨a2,cap2,q1,_⟩:=h.vs.rel _ _ (hE _ _ hEx);grind
      . rename_i hEx;cases hm
        obtain ⟨a2,cap2,_,_,_,_,_,_,q1,_⟩:=h.vs.rel _ _ (hE _ _ hEx);grind
      . rename_i hEx;cases hm
        obtain ⟨a2,cap2,_,q1,_⟩:=h.vs.rel _ _ (hE _ _ hEx);grind
      . cases hm
    . grind [an]
    . cases hm
   obtain ⟨ad,cap,hv⟩:=hv;simp [Builtin.len_,hv,run_underlying hu,goInt]
 . cases hm
end
end
section
open Go
section
variable {c:Ctx} {μ:Nat→Loc} {fp:Nat→List Nat} {s:kM} {n:Nat} {o:Oper} {a:Act} {w:World} {r:gY} {C:Cx} {E:Env}
theorem AW (x:List UInt8) (l h:Nat):(ByteArray.mk x.toArray).extract l h=ByteArray.mk ((x.take h).drop l).toArray:=by
 apply ByteArray.ext;simp [List.extract_eq_take_drop,List.drop_take]
theorem BH {P:Program} {kd:IntKind} {i:Int} {y:Nat} {code:BoundsCode} (h0:0≤i) (h1:i≤y):(Instr.sliceBound (.int kd i) y code).run P w= .ok i.toNat w:=
 by grind [run_sliceBound]
theorem zM {P:Program} {isS:Bool} {len cap:Nat} {lo hi:Option Value} {mG cQ:Option Int} (G9:∀ v,lo=some v→∃ k i,v= .int k i∧mG=some i) (hhi:∀ v,hi=some v→∃ k i,v= .int k i∧cQ=some i)
  (nlo:lo=none→mG=none) (nhi:hi=none→cQ=none) (hlc:len≤cap)
  (h:0≤mG.getD 0∧mG.getD 0≤cQ.getD len∧cQ.getD len≤(len:Int)):
  (Instr.sliceBounds isS len cap lo hi none).run P w= .ok ((mG.getD 0).toNat,(cQ.getD len).toNat,cap) w:=by
 have e2:∀ (code:BoundsCode),(match hi,(none:Option Value) with
   |some v,some _=>Instr.sliceBound v cap .slice3B
   |some v,none=>Instr.sliceBound v cap code
   |none,none=>pure len
   |none,some _=>stuck "Slice: max without high").run P w= .ok (cQ.getD len).toNat w:=by
  intro code;cases hi with
  |none=>simp [nhi rfl]
  |some v=>
   obtain ⟨k,i,rfl,e⟩:=hhi v rfl;grind [BH]
 have e3:(match lo with
   |some v=>Instr.sliceBound v (cQ.getD len).toNat .sliceB
   |none=>pure 0).run P w= .ok (mG.getD 0).toNat w:=by
  cases lo with
  |none=>simp [nlo rfl]
  |some v=>
   obtain ⟨k,i,rfl,e⟩:=G9 v rfl;grind [BH]
 unfold Instr.sliceBounds;simp only [Sem.run_bind,Sem.run_pure,Result.andThen_ok];cases isS
 . have:=e2 .sliceAlen
   cases hi<;>cases lo<;>simp_all
 . have:=e2 .sliceAcap
   cases hi<;>cases lo<;>simp_all
variable (h:il c μ fp s n a w)
include h
theorem il.bound {z:Option Operand} {l:Option (Option Int)} (hl:z.map (λq=>lG (eT s.t q))=l) (hn:l≠some none):
  (∀ v,z.map a.eval=some v→∃ k i,v= .int k i∧l.bind id=some i)∧(z.map a.eval=none→l.bind id=none):=by
 cases z with
 |none=>subst hl;simp
 |some q=>
  simp only [adu] at hl ⊢;subst hl;cases hg:lG (eT s.t q) with
  |none=>grind
  |some i=>
   obtain ⟨kd,e⟩:=xN hg;have:=h.ca q;grind [an]
theorem Lc (hC:iF C c.P) (hE:∀ id x,E id=some x→s.v id=some x) {t:TypeId} {x:Operand} {lo hi:Option Operand} (ho:o.op= .slice t x lo hi none)
  (hr:(Out.of (C.ty t) λt=>
  match lo.map λz=>lG (eT s.t z),hi.map λz=>lG (eT s.t z) with
  |some none,_=> .fail
  |_,some none=> .fail
  |l,h=>DT E t (eT s.t x) (l.bind id) (h.bind id)).eval=some r):oE c μ s o a w r:=by
 have hx:=h.ca x;obtain ⟨ty,ko,hr⟩:=aK hr;have dF:=hC.ty t ty ko;generalize hl:lo.map (λz=>lG (eT s.t z))=l at hr;generalize hh:hi.map (λz=>lG (eT s.t z))=hv at hr;have Tu:l≠some none:=by rintro rfl;cases hr
 have hnh:hv≠some none:=by rintro rfl;split at hr<;>first|cases hr|simp_all
 obtain ⟨bl,nl⟩:=h.bound hl Tu;obtain ⟨bh,nh⟩:=h.bound hh hnh;have hr:(DT E ty (eT s.t x) (l.bind id) (hv.bind id)).eval=some r:=by
  split at hr
  . cases hr
  . cases hr
  . exact hr
 generalize l.bind id=mG at bl nl hr;generalize hv.bind id=cQ at bh nh hr;unfold DT at hr;split at hr
 . rename_i x' e _
   rw [e] at hx;simp only [an] at hx;simp only [Ty.Ok] at dF;have run:0≤mG.getD 0∧mG.getD 0≤cQ.getD x'.length∧cQ.getD x'.length≤(x'.length:Int)→
     (execOp a.eval o).run c.P w= .ok (.value (.string ⟨((x'.take (cQ.getD x'.length).toNat).drop (mG.getD 0).toNat).toArray⟩)) w:=by
    intro hb;have:=zM (w:=w) (P:=c.P) (isS:=false) (len:=x'.length) (cap:=x'.length) bl bh nl nh (abE _) hb;simp [execOp,ho,hx,Instr.sliceAt,Instr.slice,run_underlying dF.2,nZ,this,AW]
   unfold Pr at hr;split at hr
   . rcases bX hr with ⟨h0,hr⟩|⟨_,hr⟩
     . have h0:=abJ h0
       rw [aT hr];refine bq h (run ⟨h0.1,by simpa using h0.2,by simp⟩) ?_;have:=hx.2;simp [an];omega
     . cases hr
   . rcases bX hr with ⟨h0,hr⟩|⟨_,hr⟩
     . have h0:=abJ h0
       rw [aT hr];refine bq h (run ⟨h0.1,by simpa using h0.2.1,by simpa using h0.2.2⟩) ?_;have:=hx.2;simp [an];omega
     . cases hr
 . rename_i e _
   obtain ⟨eid,hu,AV⟩:=dF.sl;have run:∀ (ad:Option Addr) (len cap:Nat),a.eval x= .slice ad len cap→len≤cap→0≤mG.getD 0∧mG.getD 0≤cQ.getD len∧cQ.getD len≤(len:Int)→
     (execOp a.eval o).run c.P w= .ok (.value (.slice (if cap=(mG.getD 0).toNat then ad else ad.map (·.add ((mG.getD 0).toNat*e.size))) ((cQ.getD len).toNat - (mG.getD 0).toNat) (cap - (mG.getD 0).toNat))) w:=by
    intro ad len cap hv hlc hb;have:=zM (w:=w) (P:=c.P) (isS:=true) (len:=len) (cap:=cap) bl bh nl nh hlc hb;simp [execOp,ho,hv,Instr.sliceAt,Instr.slice,run_underlying hu,this,AV.kk]
   unfold Ps at hr;split at hr
   . rename_i e' xs tk ex
     rw [ex] at hx;simp only [an] at hx;obtain ⟨dp,_⟩:=hx;split at hr
     . rename_i ue
       have hv:∃ ad cap,a.eval x= .slice ad xs.length cap∧xs.length≤cap∧(xs=[]∨∃ b o',ad=some ⟨b,o',none⟩):=by
        simp only [Ty.aN] at dp;obtain ⟨ad,cap,e1,hc,h3⟩:=dp;refine ⟨ad,cap,(List.cons.inj e1).1,hc.1, ?_⟩;rcases h3 with h3|⟨b,o',h3,_⟩
        . exact .inl h3
        . exact .inr ⟨b,o',h3⟩
       obtain ⟨ad,cap,hv,hc,VB⟩:=hv
       -- what comes of it, in one form
       have fin:0≤mG.getD 0∧mG.getD 0≤cQ.getD xs.length∧cQ.getD xs.length≤(xs.length:Int)→
         oE c μ s o a w (.ro e' ((xs.drop (mG.getD 0).toNat).take ((cQ.getD xs.length).toNat - (mG.getD 0).toNat)) none,[]):=by
        intro hb;refine bq h (run ad xs.length cap hv hc hb) ?_;simp only [an];refine ⟨?_,by simp⟩;rw [hv] at dp;by_cases xM:xs=[]
        . subst xM
          simp only [abA] at hb ⊢;have e1:(cQ.getD (0:Nat)).toNat - (mG.getD 0).toNat=0:=by omega
          rw [e1];simp only [afO];simp only [Ty.aN];exact ⟨_,_,rfl,⟨ac0 _,ac0 _⟩, .inl rfl⟩
        . obtain ⟨b,o',rfl⟩:=VB.resolve_left xM
          refine zJ dp (by omega) ?_;by_cases Tv:cap=(mG.getD 0).toNat
          . left;omega
          . right;refine ⟨b,o',rfl, ?_⟩
            rw [aa3 Tv];simp only [adu,Addr.add,ue];split<;>simp_all
       split at hr
       . rcases bX hr with ⟨h0,hr⟩|⟨_,hr⟩
         . have h0:=abJ h0
           rw [aT hr];have:=fin ⟨h0.1,by simpa using h0.2,by simp⟩;simpa [acY] using this
         . cases hr
       . rcases bX hr with ⟨h0,hr⟩|⟨_,hr⟩
         . have h0:=abJ h0
           rw [aT hr];have:=fin ⟨h0.1,by simpa using h0.2.1,by simpa using h0.2.2⟩;simpa [List.drop_take] using this
         . cases hr
     . cases hr
   . rename_i id vw ex
     rw [ex] at hx;obtain ⟨m,hm,hr⟩:=aK hr;split at hr
     . rename_i ue
       rcases bX hr with ⟨h0,hr⟩|⟨_,hr⟩
       . have h0:=abJ h0
         rw [aT hr];obtain ⟨ad,len,cap,g1,g2,g3,g4⟩:=kO h.vs hE ue;rcases vw with _|⟨off,l1⟩
         . simp only [an] at hx
           obtain ⟨ad',mY,jP,sz,q1,hv⟩:=hx;rw [g1] at q1;cases q1;obtain rfl:len=m:=aa6 (g4.symm.trans hm);refine bq h (run ad len cap hv g2 h0) ?_;simp only [an,Option.map_none,Option.getD_none,acw];refine ⟨ad,len,cap,e.size,_,g1,by omega,g2,rfl, ?_⟩;by_cases Tv:cap=(mG.getD 0).toNat
           . left;omega
           . right
             obtain ⟨b,o',rfl⟩:=g3 (by omega);refine ⟨b,o',rfl, ?_⟩;rw [aa3 Tv];simp only [adu,Addr.add];split<;>simp_all
         . simp only [an] at hx
           obtain ⟨ad',mY,jP,sz,ad2,q1,q2,q3,hv,q4⟩:=hx;rw [g1] at q1;cases q1;obtain rfl:l1=m:=aa6 hm;refine bq h (run ad2 l1 (cap - off) hv (by omega) h0) ?_;simp only [an,adu,Option.getD_some];refine ⟨ad,len,cap,e.size,_,g1,by omega,g2,by rw [Nat.sub_sub], ?_⟩;by_cases Tv:cap - off=(mG.getD 0).toNat
           . left;omega
           . right
             rcases q4 with q4|⟨b,o',rfl,rfl⟩
             . omega
             refine ⟨b,o',rfl, ?_⟩;rw [aa3 Tv];simp only [adu,Addr.add];split
             . rename_i hz;simp only [acv,Addr.mk.injEq,true_and,afr];grind
             grind
       . cases hr
     . cases hr
   . cases hr
 . cases hr
end
end
section
open Go
variable {z:Fz}
theorem jo (a b:List (Nat×bK)):news (a++b)=news a++news b:=by simp [news]
mutual
theorem Ty.jK:(t:Ty)→(x:t.D)→(n:Nat)→n≤(t.bJ x n).2.2
 | .bool,_,n=>abE n
 | .int _,_,n=>abE n
 | .str,_,n=>abE n
 | .hole,_,n=>abE n
 | .sl _,_,n=>afL n
 | .fz _,_,n=>abE n
 | .st fs,x,n=>aI.jK fs x n
theorem aI.jK:(t:aI)→(x:t.D)→(n:Nat)→n≤(t.bJ x n).2.2
 | .nil,_,n=>abE n
 | .cons t ts,x,n=>abG (Ty.jK t x.1 n) (aI.jK ts x.2 _)
end
mutual
theorem Ty.ni:(t:Ty)→(x:t.D)→(n:Nat)→∀ id∈ah.bC (t.bJ x n).1,n≤id∧id<(t.bJ x n).2.2
 | .bool,_,n=>by intro id h;cases h
 | .int _,_,n=>by intro id h;cases h
 | .str,_,n=>by intro id h;cases h
 | .hole,_,n=>by intro id h;cases h
 | .sl e,x,n=>by
   intro id h;have h:id∈[n]:=h;simp at h;subst h;exact ⟨abE _,Nat.lt_succ_self _⟩
 | .fz _,_,n=>by intro id h;cases h
 | .st fs,x,n=>aI.ni fs x n
theorem aI.ni:(t:aI)→(x:t.D)→(n:Nat)→∀ id∈ah.bC (t.bJ x n).1,n≤id∧id<(t.bJ x n).2.2
 | .nil,_,n=>by intro id h;cases h
 | .cons t ts,x,n=>by
   intro id h;have h:id∈ah.bC ((t.bJ x.1 n).1++(ts.bJ x.2 (t.bJ x.1 n).2.2).1):=h;rw [po,abp] at h;have l1:=Ty.jK t x.1 n;have l2:=aI.jK ts x.2 (t.bJ x.1 n).2.2;show n≤id∧id<(ts.bJ x.2 (t.bJ x.1 n).2.2).2.2;rcases h with h|h
   . have:=Ty.ni t x.1 n id h;omega
   . have:=aI.ni ts x.2 _ id h;omega
end
structure J3 (c:Ctx) (K K':Nat→Prop) (μ μ':Nat→Loc) (fp fp':Nat→List Nat) (v v':Env) (w:World) (f:List Nat):Prop where
 agree:∀ id,K id→μ' id=μ id
 rel:cJ c μ' fp' v' w
 known:∀ id x,v' id=some x→K' id∧∀ dC∈x.ids,K' dC
 Tw:∀ id,v' id≠none→(v id≠none∧fp' id=fp id)∨∀ b∈fp' id,b∈f
mutual
theorem Ty.nj {c:Ctx} {w:World}:(t:Ty)→∀ {cs:List Value} {x:t.D} {f:List Nat} {n:Nat} {K:Nat→Prop} {μ:Nat→Loc} {fp:Nat→List Nat} {v:Env},
  cJ c μ fp v w→(∀ id x,v id=some x→K id∧∀ dC∈x.ids,K dC)→t.ar c.fz w cs x f→f.Nodup→(∀ b∈f,¬ c.S b∧b<w.heap.size∧(b<c.w0.heap.size→∀ j,c.M b j))→
  (∀ id,v id≠none→∀ b∈fp id,b ∉ f)→(∀ id,n≤id→id<(t.bJ x n).2.2→¬ K id)→
  ∃ μ' fp',ai c μ' cs (t.bJ x n).1∧J3 c K (λid=>K id∨(n≤id∧id<(t.bJ x n).2.2)) μ μ' fp fp' v (cp v (news (t.bJ x n).2.1)) w f
 | .bool,cs,x,f,n,K,μ,fp,v,hv,hK,hr,_,_,_,_=>by
   simp only [Ty.ar] at hr;obtain ⟨rfl,rfl⟩:=hr;exact ⟨μ,fp,by simp [Ty.bJ,ai,an],⟨λ_ _=>rfl,hv,λid x hx=>⟨.inl (hK id x hx).1,λi hi=> .inl ((hK id x hx).2 i hi)⟩,λid hn=> .inl ⟨hn,rfl⟩⟩⟩
 | .int k,cs,x,f,n,K,μ,fp,v,hv,hK,hr,_,_,_,_=>by
   simp only [Ty.ar] at hr;obtain ⟨rfl,rfl⟩:=hr;exact ⟨μ,fp,by simp [Ty.bJ,ai,an],⟨λ_ _=>rfl,hv,λid x hx=>⟨.inl (hK id x hx).1,λi hi=> .inl ((hK id x hx).2 i hi)⟩,λid hn=> .inl ⟨hn,rfl⟩⟩⟩
 | .str,cs,x,f,n,K,μ,fp,v,hv,hK,hr,_,_,_,_=>by
   simp only [Ty.ar] at hr;obtain ⟨rfl,rfl,hx⟩:=hr;exact ⟨μ,fp,by grind [Ty.bJ,ai,an],⟨λ_ _=>rfl,hv,λid x hx=>⟨.inl (hK id x hx).1,λi hi=> .inl ((hK id x hx).2 i hi)⟩,λid hn=> .inl ⟨hn,rfl⟩⟩⟩
 | .hole,cs,x,f,n,K,μ,fp,v,hv,hK,hr,_,_,_,_=>by
   simp only [Ty.ar] at hr;obtain ⟨⟨q,rfl,hq⟩,rfl⟩:=hr;exact ⟨μ,fp,by grind [Ty.bJ,ai,an],⟨λ_ _=>rfl,hv,λid x hx=>⟨.inl (hK id x hx).1,λi hi=> .inl ((hK id x hx).2 i hi)⟩,λid hn=> .inl ⟨hn,rfl⟩⟩⟩
 | .sl e,cs,x,f,n,K,μ,fp,v,hv,hK,hr,hn,hf,hd,iI=>by
   have FO:=hr;simp only [Ty.ar] at hr;obtain ⟨a,cap,rfl,hc,_⟩:=hr;have hk:¬ K n:=iI n (abE n) (Nat.lt_succ_self n);refine ⟨λid=>if id=n then .qQ a (List.length x) cap e.size else μ id,λk=>if k=n then f else fp k, ?_, ?_⟩
   . show ai c _ [_] [ah.cB n none]
     simp only [ai,an];exact ⟨_,[],rfl,⟨a,List.length x,cap,e.size,by simp,rfl⟩,rfl⟩
   . have ha:∀ id,K id→(if id=n then Loc.qQ a (List.length x) cap e.size else μ id)=μ id:=by grind
     refine ⟨ha, ?_, ?_, ?_⟩
     . refine hv.lK [] n (.arr e x) f (by grind) (λ_ _ _ _ _ _=>rfl) (abE _) ?_ hn ?_
       . exact ⟨a,cap,aa5 rfl,FO,by grind⟩
       grind
     . intro id y hy
       have hy:(if id=n then some (.arr e x) else v id)=some y:=hy;by_cases hi:id=n
       . rw [aa5 hi] at hy;cases hy
         exact ⟨.inr ⟨by omega,by rw [hi];exact Nat.lt_succ_self n⟩,λi hi=>by cases hi⟩
       grind
     . intro id hy
       have hy:(if id=n then some (.arr e x) else v id)≠none:=hy;grind
 | .fz e,cs,x,f,n,K,μ,fp,v,hv,hK,hr,_,_,_,_=>by
   simp only [Ty.ar] at hr;obtain ⟨hr,rfl⟩:=hr;have FO:=jG.1 hr;simp only [Ty.aN] at hr;obtain ⟨a,cap,rfl,_⟩:=hr;exact ⟨μ,fp,by simp only [Ty.bJ,ai,an];exact ⟨_,[],rfl,⟨FO,by simp⟩,rfl⟩,⟨λ_ _=>rfl,hv,λid x hx=>⟨.inl (hK id x hx).1,λi hi=> .inl ((hK id x hx).2 i hi)⟩,λid hn=> .inl ⟨hn,rfl⟩⟩⟩
 | .st fs,cs,x,f,n,K,μ,fp,v,hv,hK,hr,hn,hf,hd,iI=>aI.nj fs hv hK (by grind [Ty.ar]) hn hf hd iI
theorem aI.nj {c:Ctx} {w:World}:(t:aI)→∀ {cs:List Value} {x:t.D} {f:List Nat} {n:Nat} {K:Nat→Prop} {μ:Nat→Loc} {fp:Nat→List Nat} {v:Env},
  cJ c μ fp v w→(∀ id x,v id=some x→K id∧∀ dC∈x.ids,K dC)→t.ar c.fz w cs x f→f.Nodup→(∀ b∈f,¬ c.S b∧b<w.heap.size∧(b<c.w0.heap.size→∀ j,c.M b j))→
  (∀ id,v id≠none→∀ b∈fp id,b ∉ f)→(∀ id,n≤id→id<(t.bJ x n).2.2→¬ K id)→
  ∃ μ' fp',ai c μ' cs (t.bJ x n).1∧J3 c K (λid=>K id∨(n≤id∧id<(t.bJ x n).2.2)) μ μ' fp fp' v (cp v (news (t.bJ x n).2.1)) w f
 | .nil,cs,x,f,n,K,μ,fp,v,hv,hK,hr,_,_,_,_=>by
   simp only [aI.ar] at hr;obtain ⟨rfl,rfl⟩:=hr;exact ⟨μ,fp,by simp [aI.bJ,ai],⟨λ_ _=>rfl,hv,λid x hx=>⟨.inl (hK id x hx).1,λi hi=> .inl ((hK id x hx).2 i hi)⟩,λid hn=> .inl ⟨hn,rfl⟩⟩⟩
 | .cons t ts,cs,x,f,n,K,μ,fp,v,hv,hK,hr,hn,hf,hd,iI=>by
   simp only [aI.ar] at hr;obtain ⟨c1,c2,f1,f2,rfl,rfl,h1,h2⟩:=hr;have Ew:=aca.1 hn;have l1:=Ty.jK t x.1 n;have l2:=aI.jK ts x.2 (t.bJ x.1 n).2.2;have e22:((aI.cons t ts).bJ x n).2.2=(ts.bJ x.2 (t.bJ x.1 n).2.2).2.2:=rfl;have e21:((aI.cons t ts).bJ x n).2.1=(t.bJ x.1 n).2.1++(ts.bJ x.2 (t.bJ x.1 n).2.2).2.1:=rfl;have e1:((aI.cons t ts).bJ x n).1=(t.bJ x.1 n).1++(ts.bJ x.2 (t.bJ x.1 n).2.2).1:=rfl;obtain ⟨xb,GQ,r1,ch1⟩:=Ty.nj t hv hK h1 Ew.1 (by grind) (by grind) (λid h3 h4=>iI id h3 (by rw [e22];omega));obtain ⟨μ2,fp2,r2,ch2⟩:=aI.nj ts (n:=(t.bJ x.1 n).2.2) ch1.rel ch1.known h2 Ew.2.1 (by grind)
    (λid LX b hb b8=>by
     rcases ch1.Tw id LX with ⟨q1,q2⟩|q
     . grind
     grind)
    (by grind)
   refine ⟨μ2,fp2, ?_, ?_⟩
   . rw [e1]
     refine ai.append (ai.mono _ (λid hi=> ?_) r1) r2;exact ch2.agree id (by grind [Ty.ni,id])
   . rw [e21,e22,jo,dn]
     refine ⟨λid hi=>(ch2.agree id (.inl hi)).trans (ch1.agree id hi),ch2.rel, ?_, ?_⟩
     . intro id y hy
       have:=ch2.known id y hy;grind
     . intro id hy
       rcases ch2.Tw id hy with ⟨q1,q2⟩|q
       . rcases ch1.Tw id q1 with ⟨q3,q4⟩|q'
         . grind
         grind
       grind
end
section
variable {c:Ctx} {μ:Nat→Loc} {fp:Nat→List Nat} {s:kM} {n:Nat} {o:Oper} {a:Act} {w:World} {r:gY} {C:Cx} {E:Env}
variable (h:il c μ fp s n a w)
include h
theorem il.bJ {t:Ty} {cs:List Value} {x:t.D} {f:List Nat} {k:Nat} (hr:t.ar c.fz w cs x f) (hn:f.Nodup) (hf:∀ b∈f,¬ c.S b∧b<w.heap.size∧(b<c.w0.heap.size→∀ j,c.M b j))
  (hd:∀ id,s.v id≠none→∀ b∈fp id,b ∉ f) (iI:∀ id,k≤id→id<(t.bJ x k).2.2→¬ s.k id):
  ∃ μ' fp',ai c μ' cs (t.bJ x k).1∧J3 c s.k (λid=>s.k id∨(k≤id∧id<(t.bJ x k).2.2)) μ μ' fp fp' s.v (cp s.v (news (t.bJ x k).2.1)) w f:=
 Ty.nj t h.vs h.known.v hr hn hf hd iI
theorem il.BI (t:Ty) {k:Nat} (iI:∀ id,k≤id→id<(t.bJ t.zero k).2.2→¬ s.k id):
  ∃ μ' fp',ai c μ' t.zeroV (t.bJ t.zero k).1∧J3 c s.k (λid=>s.k id∨(k≤id∧id<(t.bJ t.zero k).2.2)) μ μ' fp fp' s.v (cp s.v (news (t.bJ t.zero k).2.1)) w []:=
 h.bJ (Ty.jn w t) (by simp) (by simp) (by simp) iI
end
end
section
open Go
mutual
theorem Ty.jq:(t:Ty)→(x:t.D)→(n:Nat)→(t.bJ x n).1.all ah.bs=true
 | .bool,_,_=>rfl
 | .int _,_,_=>rfl
 | .str,_,_=>rfl
 | .hole,_,_=>rfl
 | .sl _,_,_=>rfl
 | .fz _,_,_=>rfl
 | .st fs,x,n=>aI.jq fs x n
theorem aI.jq:(t:aI)→(x:t.D)→(n:Nat)→(t.bJ x n).1.all ah.bs=true
 | .nil,_,_=>rfl
 | .cons t ts,x,n=>by
   show ((t.bJ x.1 n).1++(ts.bJ x.2 (t.bJ x.1 n).2.2).1).all ah.bs=true;rw [adE,Ty.jq t x.1 n,aI.jq ts x.2 _];rfl
end
mutual
theorem Ty.nk:(t:Ty)→(x:t.D)→(n:Nat)→(t.bJ x n).1.length=t.size
 | .bool,_,_=>rfl
 | .int _,_,_=>rfl
 | .str,_,_=>rfl
 | .hole,_,_=>rfl
 | .sl _,_,_=>rfl
 | .fz _,_,_=>rfl
 | .st fs,x,n=>aI.nk fs x n
theorem aI.nk:(t:aI)→(x:t.D)→(n:Nat)→(t.bJ x n).1.length=t.size
 | .nil,_,_=>rfl
 | .cons t ts,x,n=>by
   show ((t.bJ x.1 n).1++(ts.bJ x.2 (t.bJ x.1 n).2.2).1).length=t.size+ts.size;rw [abz,Ty.nk t x.1 n,aI.nk ts x.2 _]
end
section
variable {c:Ctx} {μ:Nat→Loc} {fp:Nat→List Nat} {s:kM} {n:Nat} {o:Oper} {a:Act} {w:World} {r:gY} {C:Cx} {E:Env}
theorem AX {w:World} {C:Array Value} {E:TypeId} {k:Nat} (h:C.size=k):aE (w.alloc (.cells C E)) w.heap.size 0 k=C.toList:=by grind [ck,heap_alloc_new,List.take_of_length_le]
theorem J4 {K:Nat→Prop} {μ:Nat→Loc} {fp:Nat→List Nat} {v:Env} {w:World} (hv:cJ c μ fp v w) (ev:Ev c w) (hK:∀ id x,v id=some x→K id∧∀ dC∈x.ids,K dC)
  {fr:Nat} (iI:¬ K fr) {cs:List ah} {C:Array Value} {T:TypeId} (hr:ai c μ C.toList cs) (hc:cs.all ah.bs=true) (zN:∀ id∈ah.bC cs,id≠fr):
  (∀ id,K id→(λid=>if id=fr then Loc.at w.heap.size 0 else μ id) id=μ id)∧
  cJ c (λid=>if id=fr then .at w.heap.size 0 else μ id) (λk=>if k=fr then [w.heap.size] else fp k) (cp v [(fr,some (.var cs))]) (w.alloc (.cells C T))∧Ev c (w.alloc (.cells C T)):=by
 have ha:∀ id,K id→(λid=>if id=fr then Loc.at w.heap.size 0 else μ id) id=μ id:=by grind
 refine ⟨ha, ?_,ev.alloc _ _⟩;have hl:=hr.length;refine hv.kN ev [] fr (.var cs) [w.heap.size] (by grind)
  (λid hn _ _ b hb=>heap_alloc_old w _ b (hv.lt id hn b hb)) (by simp) ?_ (by simp) (by simp)
 refine ⟨w.heap.size,0,C,T,by simp,rfl,heap_alloc_new w _,by simp [← hl], ?_,hc,λbS=> ?_⟩
 . simp_all [AX,ai.mono]
 . have:=ev.size;omega
variable (h:il c μ fp s n a w)
include h
theorem Ld (hC:iF C c.P) {t:TypeId} (ho:o.op= .alloc t) {fr:Nat}
  (iI:∀ id,fr≤id→id<fr+64→¬ s.k id)
  (hr:(Out.of (C.ty t) λt=>if (t.bJ t.zero (fr+1)).2.2≤fr+64 then
   .ret (.vptr fr 0,news (t.bJ t.zero (fr+1)).2.1++[(fr,some (.var (t.bJ t.zero (fr+1)).1))]) else .fail).eval=some r):oE c μ s o a w r:=by
 replace hr:=aK hr;obtain ⟨ty,ko,hr⟩:=hr;have dF:=hC.ty t ty ko;split at hr
 case isFalse=>cases hr
 rename_i h64;obtain ⟨z,hz,QI⟩:=dF.PN (w:=w);have hle:=Ty.jK ty ty.zero (fr+1);obtain ⟨xb,GQ,r1,ch⟩:=h.BI ty (k:=fr+1) (by grind);have hk:¬ (s.k fr∨(fr+1≤fr∧fr<(ty.bJ ty.zero (fr+1)).2.2)):=by grind
 obtain ⟨q1,q2,q3⟩:=J4 (T:=t) ch.rel h.ev ch.known hk (by rw [QI];exact r1) (Ty.jq ty _ _) (λid hi=>by have:=Ty.ni ty ty.zero (fr+1) id hi;omega);have hr:=aa6 hr;subst hr;refine dc (v':= .pointer (some ⟨w.heap.size,0,none⟩)) (fp':=λk=>if k=fr then [w.heap.size] else GQ k) (by simp [execOp,ho,Instr.alloc,hz,newVar,newRow]) ⟨λid hi=>(q1 id (.inl hi)).trans (ch.agree id hi), ?_, ?_,q3⟩
 . simp only [an];exact ⟨w.heap.size,0,by simp,rfl⟩
 . rw [dn];exact q2
theorem Tx {t:TypeId} {x:Operand} (ho:o.op= .box t x) {fr:Nat} (iI:¬ s.k fr)
  (hr:(Out.of (C.ty t) λt=>if (eT s.t x).cells.length=t.size∧(eT s.t x).cells.all ah.bs=true then .ret (.vptr fr 0,[(fr,some (.var (eT s.t x).cells))]) else .fail).eval=some r):oE c μ s o a w r:=by
 have hx:=h.ca x;obtain ⟨ty,ko,hr⟩:=aK hr;split at hr
 . rename_i hc
   have hr:=aa6 hr;subst hr;have qZ:=hx.cells hc.2;obtain ⟨q1,q2,q3⟩:=J4 (T:=t) h.vs h.ev h.known.v iI qZ hc.2 (λid hi e=>by
    subst e;refine iI ?_;cases x with
    |tmp j=>
     refine h.known.t j id ?_;cases hd:s.t j<;>simp only [eT,hd,ah.cells] at hi<;>first|(simpa [ah.bC] using hi)|grind [ah.ids]
    |const v=>simp only [eT,ofValue] at hi;grind [ah.cells,ah.bC,ah.ids]
    |func f=>grind [eT,ah.cells,ah.bC,ah.ids]
    |global g=>grind [eT,ah.cells,ah.bC,ah.ids])
   refine dc (v':= .pointer (some ⟨w.heap.size,0,none⟩)) (by simp [execOp,ho,Instr.box,newVar,newRow]) ⟨q1, ?_,q2,q3⟩;simp only [an];exact ⟨w.heap.size,0,by simp,rfl⟩
 . cases hr
theorem AY (hC:iF C c.P) {t:TypeId} {x y:Operand} (ho:o.op= .makeSlice t x y) {fr:Nat} (iI:¬ s.k fr)
  (hr:(Out.of (C.ty t) λt=> .of (rZ t) λe=> .of (lG (eT s.t x)) λn=> .of (lG (eT s.t y)) λm=>
   .ite (decide (0≤n∧n≤m∧m≤(bA:Int))) (.ret (.cB fr none,[(fr,some (.arr e (List.replicate n.toNat e.zero)))])) .fail).eval=some r):oE c μ s o a w r:=by
 have hx:=h.ca x;have hy:=h.ca y;obtain ⟨ty,ko,hr⟩:=aK hr;obtain ⟨e,he,hr⟩:=aK hr;obtain ⟨l,hl,hr⟩:=aK hr;obtain ⟨m,hm,hr⟩:=aK hr;have ko:C.ty t=some (.sl e):=qR he ▸ ko;obtain ⟨eid,hu,dF⟩:=(hC.ty t _ ko).sl;obtain ⟨kl,el⟩:=xN hl;obtain ⟨km,em⟩:=xN hm;rw [el] at hx;rw [em] at hy;simp only [an] at hx hy;rcases bX hr with ⟨h0,hr⟩|⟨_,hr⟩
 . have h0:0≤l∧l≤m∧m≤(bA:Int):=abJ h0
   have hr:=aa6 hr;subst hr;obtain ⟨i,z,hi,hs,hb,hz,QI,mv⟩:=dF.base;have D4:(i.bytes:Int)*m≤281474976710656:=by
    have h1:(i.bytes:Int)*m≤1024*m:=Int.mul_le_mul_of_nonneg_right (by omega) (by omega);grind
   have gP:=run_make (P:=c.P) w t eid i z hu hi hz kl km l m h0.1 h0.2.1 D4 (by grind);have rb:cz c (λid=>if id=fr then .qQ (some ⟨w.heap.size,0,none⟩) (List.replicate l.toNat e.zero).length m.toNat e.size else μ id) (w.alloc (.cells (madeCells z.cells (m.toNat*i.size)) eid)) fr [w.heap.size] (.arr e (List.replicate l.toNat e.zero)):=by
    refine ⟨some ⟨w.heap.size,0,none⟩,m.toNat,by simp, ?_,λb b8 bS=> ?_⟩
    . simp only [Ty.ar]
      refine ⟨_,m.toNat,rfl,by grind, .inr ⟨w.heap.size,0,_,eid,List.replicate l.toNat [],rfl,heap_alloc_new w _, ?_,by simp,by simp, ?_⟩⟩
      . grind [size_madeCells]
      . intro j y f nO hf
        have hj:j<l.toNat:=by grind
        have GR:(List.replicate l.toNat e.zero)[j]? =some y:=nO;have hf2:(List.replicate l.toNat ([]:List Nat))[j]? =some f:=hf;rw [acK,aa5 hj] at GR hf2;cases GR;cases hf2;have:aE (w.alloc (.cells (madeCells z.cells (m.toNat*i.size)) eid)) w.heap.size (0+j*e.size) e.size=e.zeroV:=by
         rw [ck (heap_alloc_new w _)];have Tz:e.zeroV.length=e.size:=Ty.dO e;have D5:z.cells.size=e.size:=by grind
         apply acB;intro k;by_cases hk:k<e.size
         . rw [ab9 hk,ab8,acm]
           have hjk:0+j*e.size+k<m.toNat*i.size:=by
            rw [hs];have:(j+1)*e.size≤m.toNat*e.size:=abX _ (by omega);grind
           have aiT:(0+j*e.size+k) % z.cells.size=k:=by
            rw [D5,acw,Nat.add_comm,Nat.add_mul_mod_self_right,Nat.mod_eq_of_lt hk]
           rw [← QI,acm];simp_all [madeCells]
         grind
        grind [Ty.jn]
    . simp at b8;subst b8;have:=h.ev.size;omega
   obtain ⟨q1,q2⟩:=h.new iI [] _ _ _ (λid hn _ b b8=>heap_alloc_old w _ b (h.vs.lt id hn b b8)) (by simp) rb (by simp) (by simp);refine dc (v':= .slice (some ⟨w.heap.size,0,none⟩) l.toNat m.toNat) (by simp_all [execOp]) ⟨q1, ?_,q2,h.ev.alloc _ _⟩;grind [an,List.replicate,List.length_replicate]
 . cases hr
end
end
section
open Go
variable {z:Fz}
section
variable {c:Ctx} {μ:Nat→Loc} {fp:Nat→List Nat} {s:kM} {n:Nat} {o:Oper} {a:Act} {w:World} {r:gY} {C:Cx} {E:Env}
theorem F6 (v:Env) (l:nw) (x y:Nat×Option bK):cp (cp v (l++[x])) ((([]:List Nat).map λi=>(i,none))++[y])=cp v (l++[x,y]):=by grind [dn]
def uf (t:Ty) (cs:List Value):Value:=if t.jI=true then .agg cs.toArray else cs.headD Go.undef
theorem im {w:World} {B o k m n:Nat} (h:k+m≤n):aE w B (o+k) m=((aE w B o n).drop k).take m:=by
 unfold aE;split
 . grind [List.drop_take,List.drop_drop,Nat.min_eq_left]
 . simp
theorem gE {w:World} {B o n j:Nat} {v:Value} (h:(aE w B o n)[j]? =some v):w.cell? ⟨B,o+j,none⟩=some v:=by grind [aE,Nat.lt_or_ge,List.getElem?_eq_none,List.getElem?_take_of_lt,World.cell?]
theorem wJ {P:Program} {t:Ty} {tid:TypeId} (dF:t.Ok P tid) {B o':Nat} {cs:List Value} (AB:aE w B o' t.size=cs) (hl:cs.length=t.size):
  (loadVar tid ⟨B,o',none⟩).run P w= .ok (uf t cs) w:=by
 have jS:∀ j v,cs[j]? =some v→w.cell? ((⟨B,o',none⟩:Addr).add j)=some v:=by
  intro j v hv;have:(⟨B,o',none⟩:Addr).add j=⟨B,o'+j,none⟩:=by grind [Addr.add]
  grind [gE]
 cases pU:t.jI with
 |true=>
  have:=run_loadCells_list (P:=P) w ⟨B,o',none⟩ cs jS;rw [hl] at this;simp [loadVar,dF.ng,pU,dF.kk,this,uf]
 |false=>
  have h1:t.size=1:=by cases t<;>simp_all [Ty.size,Ty.jI]
  rw [h1] at hl;obtain ⟨v,rfl⟩:=List.length_eq_one_iff.1 hl;have:=jS 0 v rfl;have h0:(⟨B,o',none⟩:Addr).add 0=⟨B,o',none⟩:=by simp [Addr.add]
  rw [h0] at this;simp [loadVar,dF.ng,pU,uf,run_load,this]
theorem kY {t:Ty} {cs:List Value} {ds:List ah} (h:ai c μ cs ds) (hl:ds.length=t.size):an c μ (uf t cs) (mg t ds):=by
 cases pU:t.jI with
 |true=>
  simp only [mg,pU,uf,ae4,an];exact ⟨_,rfl,by simpa using h⟩
 |false=>
  have h1:t.size=1:=by cases t<;>simp_all [Ty.size,Ty.jI]
  rw [h1] at hl;obtain ⟨d,rfl⟩:=List.length_eq_one_iff.1 hl;simp only [ai] at h;obtain ⟨v,aZ,rfl,h,rfl⟩:=h;grind [BG,uf]
mutual
theorem Ty.nm:(t:Ty)→(x:t.D)→(t.jk x).length=t.size
 | .bool,_=>rfl
 | .int _,_=>rfl
 | .str,_=>rfl
 | .hole,_=>rfl
 | .sl _,_=>rfl
 | .fz _,_=>rfl
 | .st fs,x=>aI.nm fs x
theorem aI.nm:(t:aI)→(x:t.D)→(t.jk x).length=t.size
 | .nil,_=>rfl
 | .cons t ts,x=>by
   show (t.jk x.1++ts.jk x.2).length=t.size+ts.size;rw [abz,Ty.nm t,aI.nm ts]
end
mutual
theorem Ty.nn:(t:Ty)→(x:t.D)→(t.jl x).length=t.size
 | .bool,_=>rfl
 | .int _,_=>rfl
 | .str,_=>rfl
 | .hole,_=>rfl
 | .sl _,_=>rfl
 | .fz _,_=>rfl
 | .st fs,x=>aI.nn fs x
theorem aI.nn:(t:aI)→(x:t.D)→(t.jl x).length=t.size
 | .nil,_=>rfl
 | .cons t ts,x=>by
   show (t.jl x.1++ts.jl x.2).length=t.size+ts.size;rw [abz,Ty.nn t,aI.nn ts]
end
theorem ug (b:Nat) (p f1 fm f2 q:List Nat):(b::(p++(f1++fm++f2)++q)).Perm ((b::(p++f1++f2++q))++fm):=by grind
theorem BJ {w:World} {B o n:Nat} {pre uJ post:List Value} (h:aE w B o n=pre++uJ++post):aE w B (o+pre.length) uJ.length=uJ:=by
 have hl:(aE w B o n).length≤n:=by grind [aE,List.length_take]
 grind [List.length_append,im]
theorem nq {t t':Ty} (h:t'=t∨∃ e,t= .sl e∧t'= .fz e):t'.size=t.size∧t'.jI=t.jI:=by
 rcases h with rfl|⟨e,rfl,rfl⟩
 . grind
 . exact ⟨rfl,rfl⟩
mutual
theorem Ty.iB:(t:Ty)→(off:Nat)→(u:Ty)→t.cS off u=u∨∃ e,u= .sl e∧t.cS off u= .fz e
 | .bool,_,_=> .inl rfl
 | .int _,_,_=> .inl rfl
 | .str,_,_=> .inl rfl
 | .hole,_,_=> .inl rfl
 | .sl _,_,_=> .inl rfl
 | .fz e,off,u=>by
   simp only [Ty.cS];split
   . rename_i h;exact .inr ⟨e,Ty.beq_eq _ _ h.2,rfl⟩
   grind
 | .st fs,off,u=>by simp only [Ty.cS];exact aI.iB fs off u
theorem aI.iB:(t:aI)→(off:Nat)→(u:Ty)→t.cS off u=u∨∃ e,u= .sl e∧t.cS off u= .fz e
 | .nil,_,_=> .inl rfl
 | .cons t ts,off,u=>by
   simp only [aI.cS];split
   . exact Ty.iB t off u
   . exact aI.iB ts _ u
end
theorem F7 (v:Env):∀ (u:nw) {k:Nat},k ∉ u.map (·.1)→cp v u k=v k
 |[],_,_=>rfl
 |(id,x)::u,k,hk=>by simp_all [not_or,cp,F7]
theorem J5 (v v':Env):∀ (u:nw) {k:Nat},v k=v' k→cp v u k=cp v' u k
 |[],_,h=>h
 |(id,x)::u,k,h=>by
  simp only [cp];exact J5 _ _ u (by simp only [h])
mutual
theorem Ty.px:(t:Ty)→(x:t.D)→(n:Nat)→∀ y∈(t.bJ x n).2.1,n≤y.1∧y.1<(t.bJ x n).2.2
 | .bool,_,n=>by intro y h;cases h
 | .int _,_,n=>by intro y h;cases h
 | .str,_,n=>by intro y h;cases h
 | .hole,_,n=>by intro y h;cases h
 | .sl e,x,n=>by
   intro y h;have h:y∈[(n,bK.arr e x)]:=h;simp at h;subst h;exact ⟨abE _,Nat.lt_succ_self _⟩
 | .fz _,_,n=>by intro y h;cases h
 | .st fs,x,n=>aI.px fs x n
theorem aI.px:(t:aI)→(x:t.D)→(n:Nat)→∀ y∈(t.bJ x n).2.1,n≤y.1∧y.1<(t.bJ x n).2.2
 | .nil,_,n=>by intro y h;cases h
 | .cons t ts,x,n=>by
   intro y h;have h:y∈(t.bJ x.1 n).2.1++(ts.bJ x.2 (t.bJ x.1 n).2.2).2.1:=h;have l1:=Ty.jK t x.1 n;have l2:=aI.jK ts x.2 (t.bJ x.1 n).2.2;show n≤y.1∧y.1<(ts.bJ x.2 (t.bJ x.1 n).2.2).2.2;rcases abp.1 h with h|h
   . have:=Ty.px t x.1 n y h;omega
   . have:=aI.px ts x.2 _ y h;omega
end
theorem cJ.part {c:Ctx} {w:World} {μ:Nat→Loc} {fp:Nat→List Nat} {v v':Env} (h:cJ c μ fp v w) (hv:∀ id x,v' id=some x→v id=some x):cJ c μ fp v' w where
 rel id x hx:=h.rel id x (hv id x hx)
 nodup id x hx:=h.nodup id x (hv id x hx)
 sep id dC dV h1 h2:=by
  obtain ⟨x,hx⟩:=Option.ne_none_iff_exists'.1 h1;obtain ⟨y,hy⟩:=Option.ne_none_iff_exists'.1 h2;exact h.sep id dC dV (by grind) (by grind)
 iQ id h1:=by
  obtain ⟨x,hx⟩:=Option.ne_none_iff_exists'.1 h1;exact h.iQ id (by grind)
 lt id h1:=by
  obtain ⟨x,hx⟩:=Option.ne_none_iff_exists'.1 h1;exact h.lt id (by grind)
variable (h:il c μ fp s n a w)
include h
theorem Le (hE:∀ id x,E id=some x→s.v id=some x) {x:Operand} {fr:Nat} (iI:¬ s.k fr) {ty:Ty} {id i off b o' len cap sz:Nat} {vr:bK} (Ey:E id=some vr)
  (run:∀ (B o':Nat) (cs:List Value),a.eval x= .pointer (some ⟨B,o',none⟩)→aE w B o' ty.size=cs→cs.length=ty.size→(execOp a.eval o).run c.P w= .ok (.value (uf ty cs)) w)
  (hm:μ id= .qQ (some ⟨b,o',none⟩) len cap sz) (hi:i<len) (hv:a.eval x= .pointer (some ⟨b,o'+i*sz+off,none⟩)) (hr:(Po E ty id i off fr vr).eval=some r):oE c μ s o a w r:=by
 unfold Po at hr;replace hr:=aK hr;obtain ⟨⟨e',xs⟩,hu,hr⟩:=hr;replace hr:=iS hr;obtain ⟨z,hz,hr⟩:=hr;replace hr:=aK hr;obtain ⟨y,hy,hr⟩:=hr;obtain ⟨QJ,hti⟩:=nq (Ty.iB e' off ty);have run:∀ (B o':Nat) (cs:List Value),a.eval x= .pointer (some ⟨B,o',none⟩)→aE w B o' (e'.cS off ty).size=cs→cs.length=(e'.cS off ty).size→(execOp a.eval o).run c.P w= .ok (.value (uf (e'.cS off ty) cs)) w:=by
  intro B o' cs q1 q2 q3;rw [QJ] at q2 q3;have:=run B o' cs q1 q2 q3;unfold uf at this ⊢;rw [hti];exact this
 clear QJ hti;revert y hy hr run;generalize e'.cS off ty=ty;intro y hy hr run;obtain ⟨ad,jP,f,g1,g2,g3,g4,g5,g6⟩:=gL h.vs hE Ey hu;rw [hm] at g1;cases g1;obtain ⟨b2,o2,D,T,p,fi,q,k1,k2,k3,k4,k5,k6,k7⟩:=vS g2 hz;cases k1;obtain ⟨pre,uJ,post,f1,fm,f2,l1,l2,l3,l4,l5⟩:=Ty.kX e' k6 hy;have hl:=Ty.eS ty l4;have AB:=BJ l1;rw [hl,l2] at AB;have run':=run b (o'+i*e'.size+off) uJ hv AB hl;split at hr
 . -- a slice inside: held beside
   rename_i es y';have hr:=aa6 hr;subst hr;have oS:f.Nodup:=g3.nodup_iff.2 (h.vs.jm _ g4 λk hk=>(g5 k hk).1);simp only [Ty.ar] at l4;obtain ⟨a',cap2,TA,hc2,l4'⟩:=l4;have l4:(Ty.sl es).ar c.fz w [.slice a' (List.length y') cap2] y' fm:=by simp only [Ty.ar];exact ⟨a',cap2,rfl,hc2,l4'⟩
   have e0:f=b::(p++fi++q):=k5;have oq:f.Perm ((b::(p++f1++f2++q))++fm):=by rw [e0,l3];exact ug b p f1 fm f2 q
   have abB:((b::(p++f1++f2++q))++fm).Nodup:=oq.nodup_iff.1 oS;have Ew:=aca.1 abB;have VC:∀ b'∈b::(p++f1++f2++q),b'∈f:=λb' b8=>oq.mem_iff.2 (abp.2 (.inl b8));have VD:∀ b'∈fm,b'∈f:=λb' b8=>oq.mem_iff.2 (abp.2 (.inr b8));have dV:id≠fr:=λe=>iI (e ▸ (h.known.v id vr (hE _ _ Ey)).1);have ha:∀ k,s.k k→(λk=>if k=fr then Loc.qQ a' (List.length y') cap2 es.size else μ k) k=μ k:=λk hk=>aa3 λ(e:k=fr)=>iI (e ▸ hk);have mF:cz c (λk=>if k=fr then Loc.qQ a' (List.length y') cap2 es.size else μ k) w id (b::(p++f1++f2++q)) (.zv e' xs z i off (.sl es) fr):=by
    refine ⟨some ⟨b,o',none⟩,cap,(ha id (h.known.v id vr (hE _ _ Ey)).1).trans hm, ?_,λb' b8 bS=>g6 b' (VC b' b8) bS,k4, .inr ⟨b,o',rfl⟩,hz⟩;have afp:D[o'+i*e'.size+off]? =some (.slice a' (List.length y') cap2):=by
     have:=gE (w:=w) (B:=b) (o:=o'+i*e'.size+off) (n:=1) (j:=0) (v:= .slice a' (List.length y') cap2) (by
      have:=AB;rw [show (Ty.sl es).size=1 from rfl] at this;rw [this,TA];rfl)
     simpa [World.cell?, k2] using this
    refine ⟨a',List.length y',cap2,es,b,o',D,T,aa5 rfl,rfl,rfl,by simp,k2,afp,λz' w' D' hd ys fp' Br b8 aiU TB JO tX Lf=> ?_⟩;have hnb:b ∉ p++f1++f2++q:=(acu.1 Ew.1).1;have FX:∀ b'∈p++f1++f2++q,w'.heap[b']? =w.heap[b']? :=λb' oH=>tX b' (by simp at oH ⊢; simp [oH]) (λe=>hnb (e ▸ oH));obtain ⟨x',hx1,LM⟩:=l5 z' w' [hd] ys fp' Br (λb' b8=>FX b' (by simp at b8 ⊢; rcases b8 with h|h<;>simp [h])) Lf;refine ⟨z,x',b::(p++(f1++fp'++f2)++q),hz,hx1, ?_,ug b p f1 fp' f2 q⟩;have IH:pre.length+1+post.length=e'.size:=by
     have:=Ty.eS e' k6;rw [l1,TA] at this;simp at this;omega
    refine k7 z' w' x' (f1++fp'++f2) D' Br b8 aiU (λj hj=>TB j (by
     rintro rfl
     rw [acg] at hj;omega)) (λb' b8=>FX b' (by simp at b8 ⊢; rcases b8 with h|h<;>simp [h])) (λb8=>hnb (by simp at b8 ⊢; rcases b8 with h|h<;>simp [h])) ?_
    have hcw:aE w' b (o'+i*e'.size) e'.size=pre++[hd]++post:=by
     have hw0:aE w b (o'+i*e'.size) e'.size=pre++[.slice a' (List.length y') cap2]++post:=by rw [l1,TA]
     rw [ck k2] at hw0;rw [ck b8];apply acB;intro k;have hk0:=congrArg (λl=>l[k]?) hw0;by_cases hk:k<e'.size
     . rw [ab9 hk,ab8,acm] at hk0 ⊢
       by_cases hko:k=off
       . subst hko
         rw [JO, ← l2];simp
       . rw [TB (o'+i*e'.size+k) (by omega),hk0]
         rw [acj,acj];rcases acH k pre.length with h'|h'
         . rw [ady h',ady h']
         . rw [acT h',acT h']
           cases UH:k - pre.length with
           |zero=>omega
           |succ m=>simp
     . rw [acI (by simp;omega),acI (by simp;omega)]
    rw [hcw];exact LM
   have h1:=h.vs.kN (μ':=λk=>if k=fr then Loc.qQ a' (List.length y') cap2 es.size else μ k) (w':=w) h.ev (bz vr) id (.zv e' xs z i off (.sl es) fr) (b::(p++f1++f2++q))
    (λk x hx _ _=>⟨ha k (h.known.v k x hx).1,λk' kH=>ha k' ((h.known.v k x hx).2 k' kH)⟩) (λ_ _ _ _ _ _=>rfl) (abE _) mF Ew.1
    (λb' b8=>by
     obtain ⟨k,hk,Lg⟩:=List.mem_flatMap.1 (g3.mem_iff.1 (VC b' b8));exact .inr ⟨k,abF.1 hk,(g5 k hk).1,Lg⟩)
   have h2:=h1.lK (μ':=λk=>if k=fr then Loc.qQ a' (List.length y') cap2 es.size else μ k) (w':=w) [] fr (.arr es y') fm
    (λ_ _ _ _ _=>⟨rfl,λ_ _=>rfl⟩) (λ_ _ _ _ _ _=>rfl) (abE _) ⟨a',cap2,aa5 rfl,l4,λb' b8 bS=>g6 b' (VD b' b8) bS⟩ Ew.2.1
    (λb' b8=>by
     obtain ⟨k,hk,Lg⟩:=List.mem_flatMap.1 (g3.mem_iff.1 (VD b' b8));refine ⟨h.vs.iQ k (g5 k hk).1 b' Lg,h.vs.lt k (g5 k hk).1 b' Lg,λk' kH hkf _ VE=> ?_⟩;by_cases hid:k'=id
     . rw [aa5 hid] at VE
       exact Ew.2.2 b' VE b' b8 rfl
     . rw [aa3 hid] at VE
       rw [gq,aa3 hid] at kH;split at kH
       . exact kH rfl
       . rename_i hnr
         refine h.vs.sep k' k ?_ kH (g5 k hk).1 b' VE Lg
         rintro rfl
         rcases abF.1 hk with hk|hk
         . exact hid hk
         . exact hnr hk)
   rw [F6] at h2;refine dc run' ⟨ha, ?_,h2,h.ev⟩;rw [TA];simp only [uf,Ty.jI,acs,if_false,List.headD_cons,an];exact ⟨a',List.length y',cap2,es.size,by simp,rfl⟩
 . rename_i EY
   rw [aT hr];exact bq h run' (kY (Ty.na ty l4) (Ty.nn ty y))
theorem Lh (hE:∀ id x,E id=some x→s.v id=some x) {x:Operand} {fr:Nat} (iI:∀ id,fr≤id→id<fr+64→¬ s.k id) {ty:Ty} {id i off b o' len cap sz:Nat} {vr:bK} (Ey:E id=some vr)
  (run:∀ (B o':Nat) (cs:List Value),a.eval x= .pointer (some ⟨B,o',none⟩)→aE w B o' ty.size=cs→cs.length=ty.size→(execOp a.eval o).run c.P w= .ok (.value (uf ty cs)) w)
  (hm:μ id= .qQ (some ⟨b,o',none⟩) len cap sz) (hi:i<len) (hv:a.eval x= .pointer (some ⟨b,o'+i*sz+off,none⟩))
  (hr:(Out.of (gT E vr) λex=> .get (nth ex.2 i) λx=>if off+ty.size≤ex.1.size∧(ex.1.bJ x fr).2.2≤fr+64 then
   .ret (mg ty (((ex.1.bJ x fr).1.drop off).take ty.size),((bz vr).map λk=>(k,none))++([(id,some (.tP ex.1 ex.2 i (ex.1.bJ x fr).1))]++news (ex.1.bJ x fr).2.1)) else .fail).eval=some r):oE c μ s o a w r:=by
 obtain ⟨⟨e',xs⟩,hu,hr⟩:=aK hr;obtain ⟨z,hz,hr⟩:=iS hr;split at hr
 case isFalse=>cases hr
 rename_i hc;obtain ⟨ue,h64⟩:=hc;have hr:=aa6 hr;subst hr;simp only at ue h64;obtain ⟨ad,jP,f,g1,g2,g3,g4,g5,g6⟩:=gL h.vs hE Ey hu;rw [hm] at g1;cases g1;obtain ⟨b2,o2,D,T,p,fi,q,k1,k2,k3,k4,k5,k6,k7⟩:=vS g2 hz;cases k1;have hlen:=Ty.eS e' k6;have oS:f.Nodup:=g3.nodup_iff.2 (h.vs.jm _ g4 λk hk=>(g5 k hk).1);rw [k5] at oS;have oq:=BF b p fi q;have Ew:=aca.1 (oq.nodup_iff.1 oS);have PS:∀ b'∈(b::(p++q))++fi,b'∈f:=λb' b8=>k5 ▸ oq.mem_iff.2 b8;have F8:∀ b'∈f,∃ k∈id::bz vr,s.v k≠none∧b'∈fp k:=λb' b8=>by
  obtain ⟨k,hk,Lg⟩:=List.mem_flatMap.1 (g3.mem_iff.1 b8);exact ⟨k,hk,(g5 k hk).1,Lg⟩
 -- those that are left, and the list without the item: as a part of it, its blocks
 have aft:cz c μ w id (b::(p++q)) (.tP e' xs i (List.replicate e'.size .dead))→True:=λ_=>trivial;clear aft;have aiV:cJ c μ fp (cp s.v (((id::bz vr).map λk=>(k,none)))) w:=by
  refine h.vs.part λk x hk=> ?_;rw [j0] at hk;split at hk
  . cases hk
  . exact hk
 have afu:∀ k x,cp s.v (((id::bz vr).map λk=>(k,none))) k=some x→s.k k∧∀ k'∈x.ids,s.k k':=λk x hk=>by
  rw [j0] at hk;split at hk
  . cases hk
  . exact h.known.v k x hk
 obtain ⟨xb,GQ,q1,ch⟩:=Ty.nj (c:=c) (w:=w) e' (n:=fr) aiV afu k6 Ew.2.1
  (λb' b8=>by
   obtain ⟨k,hk,AD,HX⟩:=F8 b' (PS b' (abp.2 (.inr b8)));exact ⟨h.vs.iQ k AD b' HX,h.vs.lt k AD b' HX,g6 b' (PS b' (abp.2 (.inr b8)))⟩)
  (λk hk b' b8 zO=>by
   obtain ⟨k',kH,AD,HX⟩:=F8 b' (PS b' (abp.2 (.inr zO)));rw [j0] at hk;split at hk
   . exact hk rfl
   . rename_i Li
     exact h.vs.sep k k' (λe=>Li (e ▸ kH)) hk AD b' b8 HX)
  (λk AD HX=>iI k AD (by omega))
 have EH:s.k id:=(h.known.v id vr (hE _ _ Ey)).1;have aiW:¬ (fr≤id∧id<(e'.bJ z fr).2.2):=λq=>iI id q.1 (by omega) EH;have mF:cz c xb w id (b::(p++q)) (.tP e' xs i (e'.bJ z fr).1):=by
  refine ⟨_,cap,b,o',D,T,p,q,(ch.agree id EH).trans hm,rfl,rfl,k2,k3,k4,hi,λz' w' x' GN C' a1 a2 a3 a4 a5 a6 a7=>k7 z' w' x' GN C' a1 a2 a3 a4 a5 a6 a7,q1,(Ty.nk e' z fr),Ty.jq e' z fr, ?_, ?_⟩
  . exact (acu.1 Ew.1).1
  . exact λb' b8 bS=>g6 b' (PS b' (abp.2 (.inl b8))) bS
 have abC:cp (cp s.v ((id::bz vr).map λk=>(k,none))) (news (e'.bJ z fr).2.1) id=none∨True:= .inr trivial;clear abC;have py:=ch.rel.lK (μ':=xb) (w':=w) [] id (.tP e' xs i (e'.bJ z fr).1) (b::(p++q)) (λ_ _ _ _ _=>⟨rfl,λ_ _=>rfl⟩) (λ_ _ _ _ _ _=>rfl) (abE _) mF Ew.1
  (λb' b8=>by
   obtain ⟨k,hk,AD,HX⟩:=F8 b' (PS b' (abp.2 (.inl b8)));refine ⟨h.vs.iQ k AD b' HX,h.vs.lt k AD b' HX,λk' kH dV _ VE=> ?_⟩;rcases ch.Tw k' kH with ⟨h1,h2⟩|h1
   . rw [h2] at VE
     rw [j0] at h1;split at h1
     . exact h1 rfl
     . rename_i Li
       exact h.vs.sep k' k (λe=>Li (e ▸ hk)) h1 AD b' VE HX
   . exact Ew.2.2 b' b8 b' (h1 b' VE) rfl)
 have TC:cp s.v (((bz vr).map λk=>(k,none))++([(id,some (.tP e' xs i (e'.bJ z fr).1))]++news (e'.bJ z fr).2.1))=
   cp (cp (cp s.v ((id::bz vr).map λk=>(k,none))) (news (e'.bJ z fr).2.1)) ((([]:List Nat).map λi=>(i,none))++[(id,some (.tP e' xs i (e'.bJ z fr).1))]):=by
  have HY:id ∉ (news (e'.bJ z fr).2.1).map (·.1):=λoH=>by
   obtain ⟨y,hy,e⟩:=List.mem_map.1 oH;obtain ⟨y2,GR,rfl⟩:=List.mem_map.1 (show y∈(e'.bJ z fr).2.1.map λx=>(x.1,some x.2) from hy);have:=Ty.px e' z fr y2 GR;simp only at e;rw [e] at this;exact aiW this
  rw [dn,dn];funext k;rw [gq];simp only [List.not_mem_nil,if_false];by_cases hk:k=id
  . subst hk
    rw [aa5 rfl,F7 _ _ HY];simp [cp]
  . rw [aa3 hk]
    refine J5 _ _ _ ?_;simp only [cp,acd,j0,aa3 hk]
 have AB:=(show aE w b (o'+i*e'.size+off) ty.size=((aE w b (o'+i*e'.size) e'.size).drop off).take ty.size from im ue)
 refine dc (fp':=λk=>if k=id then b::(p++q) else GQ k) (run b (o'+i*e'.size+off) _ hv AB (by simp [hlen];omega)) ⟨λk hk=>ch.agree k hk, ?_, ?_,h.ev⟩
 . exact kY ((q1.drop off).take ty.size) (by simp [Ty.nk];omega)
 . rw [TC];exact py
theorem PT (hC:iF C c.P) (hE:∀ id x,E id=some x→s.v id=some x) {t:TypeId} {x:Operand} (ho:o.op= .load t x) {fr:Nat} (iI:∀ id,fr≤id→id<fr+64→¬ s.k id) {kd:Nat}
  (hr:(Out.of (C.ty t) λt=>zw E kd t (eT s.t x) fr).eval=some r):oE c μ s o a w r:=by
 have hx:=h.ca x;replace hr:=aK hr;obtain ⟨ty,ko,hr⟩:=hr;have dF:=hC.ty t ty ko;have run:∀ (B o':Nat) (cs:List Value),a.eval x= .pointer (some ⟨B,o',none⟩)→aE w B o' ty.size=cs→cs.length=ty.size→(execOp a.eval o).run c.P w= .ok (.value (uf ty cs)) w:=by
  intro B o' cs hv AB hl;simp [execOp,ho,hv,Instr.loadAt,Instr.sureAddr,wJ dF AB hl]
 unfold zw at hr;split at hr
 . rename_i id off e
   rw [e] at hx;simp only [an] at hx;obtain ⟨B,o',hm,hv⟩:=hx;split at hr
   . rename_i cs hid
     split at hr
     . rename_i hle
       rw [aT hr];obtain ⟨B2,o2,D,T,q1,q2,q3,q4,q5,q6,_⟩:=h.vs.rel id _ (hE _ _ hid);rw [hm] at q1;cases q1;have hl:=q5.length;have fq:aE w B (o'+off) ty.size=((aE w B o' cs.length).drop off).take ty.size:=im hle;refine bq h (run B (o'+off) _ hv fq (by simp [hl];omega)) ?_;exact kY ((q5.drop off).take ty.size) (by simp;omega)
     . cases hr
   . cases hr
 . rename_i t' x' off e
   rw [e] at hx;simp only [an] at hx;obtain ⟨b,o',hb,dp,hv⟩:=hx;replace hr:=aK hr;obtain ⟨y,hy,hr⟩:=hr;obtain ⟨QJ,hti⟩:=nq (Ty.iB t' off ty);have run:∀ (B o':Nat) (cs:List Value),a.eval x= .pointer (some ⟨B,o',none⟩)→aE w B o' (t'.cS off ty).size=cs→cs.length=(t'.cS off ty).size→(execOp a.eval o).run c.P w= .ok (.value (uf (t'.cS off ty) cs)) w:=by
    intro B o' cs q1 q2 q3;rw [QJ] at q2 q3;have:=run B o' cs q1 q2 q3;unfold uf at this ⊢;rw [hti];exact this
   clear QJ hti;revert y hy hr run;generalize t'.cS off ty=ty;intro y hy hr run;rw [aT hr];obtain ⟨pre,uJ,post,e1,e2,hm⟩:=Ty.pq t' dp hy;have hl:=Ty.jZ ty hm;have AB:=BJ e1;rw [hl,e2] at AB;refine bq h (run b (o'+off) uJ hv (by rw [eN (h.ev.S b hb)];exact AB) hl) ?_;exact kY (Ty.mZ ty hm) (Ty.nm ty y)
 . rename_i id i off e
   rw [e] at hx;simp only [an] at hx;obtain ⟨b,o',len,cap,sz,hm,hi,hv⟩:=hx;replace hr:=aK hr;obtain ⟨vr,Ey,hr⟩:=hr;unfold Vw at hr;split at hr
   . rename_i e' xs j cs
     split at hr
     case isFalse=>cases hr
     rename_i hle;rcases bX hr with ⟨Dr,h2⟩|⟨_,h2⟩
     case inr=>cases h2
     have Dr:i=j:=by simpa using Dr
     subst Dr;rw [aT h2];obtain ⟨ad,cap2,b2,o2,D,T,p,q,q1,q2,q3,q4,q5,q6,q7,q8,q9,q10,q11,_⟩:=h.vs.rel id _ (hE _ _ Ey);rw [hm] at q1;cases q1;cases q2;have AB:aE w b (o'+i*e'.size+off) ty.size=((aE w b (o'+i*e'.size) e'.size).drop off).take ty.size:=im (by omega);refine bq h (run b (o'+i*e'.size+off) _ hv AB (by have:=q9.length;simp;omega)) ?_;exact kY ((q9.drop off).take ty.size) (by simp;omega)
   . exact Lh h hE iI Ey run hm hi hv hr
   . exact Le h hE (iI fr (abE _) (by omega)) Ey run hm hi hv hr
 . cases hr
end
end
end Go.Proofs.YtnlleofnjkeimaaGreatDoor.Dm
