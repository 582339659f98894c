/- The data machine (a part). -/
import Derived.Calls
import Derived.Laws.World
import Derived.Laws.Rows
import Derived.Laws.AppendOwn
import Derived.Laws.MakeOwn
import Derived.Laws.Slices
import Derived.Laws.StructEq
import Derived.Laws.Strings
import Derived.Laws.BytesArg
import Derived.WideLaws
import Derived.Laws.CopyRow
namespace Go.Proofs.YtohagdoklnkljaaGreat.Dm
abbrev aaa:=@decide_eq_true
abbrev aae:=@decide_eq_false
abbrev aaf:=@List.getElem?_eq_getElem
abbrev aag:=@List.length_set
abbrev aai:=@List.length_cons
abbrev aao:=@List.length_append
abbrev aap:=@if_neg
abbrev aat:=@List.length_nil
abbrev aaE:=@Bool.and_eq_true
abbrev aaG:=@Option.some.inj
abbrev aaH:=@Int.toNat_natCast
abbrev aaK:=@if_pos
abbrev aaL:=@List.nil_append
abbrev aaN:=@List.mem_append
abbrev aaP:=@beq_self_eq_true
abbrev aa1:=@List.all_eq_true
abbrev aa3:=@Nat.le_trans
abbrev abD:=@Nat.le_refl
abbrev abE:=@List.mem_cons
abbrev abH:=@of_decide_eq_true
abbrev ab9:=@Nat.mul_le_mul_right
abbrev aca:=@List.getElem?_take_of_lt
abbrev acb:=@List.getElem?_drop
abbrev acd:=@List.nodup_append
abbrev ack:=@decide_eq_true_eq
abbrev acD:=@List.getElem_mem
abbrev acF:=@Nat.add_mul
abbrev acK:=@Bool.eq_iff_iff
abbrev acL:=@Array.getElem?_toList
abbrev acN:=@List.drop_eq_getElem_cons
abbrev acO:=@Nat.lt_of_lt_of_le
abbrev acX:=@List.map_cons
abbrev acY:=@List.all_cons
abbrev ac3:=@decide_eq_true_iff
abbrev ac4:=@List.eq_nil_of_length_eq_zero
abbrev ac9:=@List.nodup_cons
abbrev ada:=@Nat.zero_add
abbrev adb:=@Option.bind_some
abbrev ade:=@List.foldl_cons
abbrev adf:=@Bool.false_eq_true
abbrev adg:=@List.getD_eq_getElem?_getD
abbrev adh:=@Option.some.injEq
abbrev adi:=@List.mem_singleton
abbrev adn:=@List.length_drop
abbrev adQ:=@List.ext_getElem?
abbrev aez:=@List.append_assoc
abbrev aeH:=@List.getElem?_eq_none
abbrev aeI:=@List.append_nil
abbrev aeJ:=@List.mem_of_getElem?
abbrev aeM:=@beq_iff_eq
abbrev aeN:=@List.length_map
abbrev aeO:=@Bool.not_eq_true'
abbrev aeR:=@List.findIdx?_eq_some_iff_getElem
abbrev ae0:=@Nat.lt_or_ge
abbrev ae5:=@List.mem_append_right
abbrev ae8:=@List.getElem?_replicate
abbrev afG:=@List.getElem?_append_right
abbrev afH:=@List.getElem?_append_left
abbrev afI:=@List.findIdx?_eq_none_iff
abbrev afJ:=@Option.map_some
abbrev afK:=@Int.le_refl
abbrev afL:=@cond_true
abbrev afM:=@cond_false
abbrev afN:=@Bool.true_and
abbrev afO:=@Nat.zero_le
abbrev afP:=@List.take_of_length_le
abbrev afQ:=@List.getElem_of_mem
abbrev afR:=@Bool.or_eq_true
abbrev afS:=@List.mem_cons_self
abbrev afT:=@List.filter_cons
abbrev afU:=@List.mem_append_left
abbrev afV:=@List.mem_cons_of_mem
abbrev afW:=@List.all_append
abbrev afX:=@List.flatten_append
abbrev afY:=@List.mem_map_of_mem
abbrev afZ:=@List.map_congr_left
abbrev af0:=@Nat.add_zero
abbrev af1:=@List.take_append_drop
abbrev af2:=@List.pairwise_cons
abbrev af3:=@Nat.lt_of_le_of_lt
abbrev af4:=@List.mem_or_eq_of_mem_set
abbrev af5:=@Nat.le_of_eq
abbrev af6:=@List.getElem?_map
abbrev af7:=@if_true
abbrev af8:=@List.map_nil
abbrev af9:=@Array.getD_eq_getD_getElem?
abbrev aga:=@List.length_filter_le
abbrev agc:=@List.prefix_rfl
abbrev age:=@List.mem_of_mem_take
abbrev agh:=@List.mem_of_mem_drop
abbrev agF:=@if_false
abbrev agG:=@and_true
abbrev agH:=@List.length_take
abbrev agW:=@List.take_succ_eq_append_getElem
abbrev agY:=@decide_eq_false_iff_not
abbrev ag3:=@Bool.and_true
abbrev ag5:=@List.map_append
abbrev ahb:=@List.cons.injEq
abbrev ahd:=@List.getElem?_take
abbrev ahe:=@of_decide_eq_false
abbrev ahi:=@List.drop_of_length_le
abbrev ahj:=@Nat.le_succ
abbrev ahB:=@List.drop_drop
abbrev ahC:=@Nat.le_of_ble_eq_true
abbrev ahE:=@List.length_replicate
abbrev ahI:=@List.take_zero
abbrev ahP:=@List.drop_zero
abbrev ahU:=@List.mem_flatten
section
open Go
mutual
inductive Ty where
 |bool
 |int (k:IntKind)
 |str
 |hole
 |sl (e:Ty)
 |fz (e:Ty)
 |st (fs:aI)
inductive aI where
 |nil
 |cons (t:Ty) (ts:aI)
end
mutual
def Ty.D:Ty→Type
 | .bool=>Bool
 | .int _=>Int
 | .str=>List UInt8
 | .hole=>Unit
 | .sl e=>List e.D
 | .fz e=>List e.D
 | .st fs=>fs.D
def aI.D:aI→Type
 | .nil=>Unit
 | .cons t ts=>t.D×ts.D
end
mutual
def Ty.size:Ty→Nat
 | .bool=>1
 | .int _=>1
 | .str=>1
 | .hole=>1
 | .sl _=>1
 | .fz _=>1
 | .st fs=>fs.size
def aI.size:aI→Nat
 | .nil=>0
 | .cons t ts=>t.size+ts.size
end
mutual
def Ty.zero:(t:Ty)→t.D
 | .bool=>false
 | .int _=>(0:Int)
 | .str=>([]:List UInt8)
 | .hole=>()
 | .sl _=>[]
 | .fz _=>[]
 | .st fs=>fs.zero
def aI.zero:(ts:aI)→ts.D
 | .nil=>()
 | .cons t ts=>(t.zero,ts.zero)
end
mutual
def Ty.beq:Ty→Ty→Bool
 | .bool, .bool=>true
 | .int k, .int k'=>decide (k=k')
 | .str, .str=>true
 | .hole, .hole=>true
 | .sl e, .sl e'=>e.beq e'
 | .fz e, .fz e'=>e.beq e'
 | .st fs, .st fs'=>fs.beq fs'
 |_,_=>false
def aI.beq:aI→aI→Bool
 | .nil, .nil=>true
 | .cons t ts, .cons t' ts'=>t.beq t'&&ts.beq ts'
 |_,_=>false
end
mutual
theorem Ty.beq_eq:(t t':Ty)→t.beq t'=true→t=t'
 | .bool,t',h=>by grind [Ty.beq]
 | .int k,t',h=>by cases t'<;>simp_all [Ty.beq]
 | .str,t',h=>by grind [Ty.beq]
 | .hole,t',h=>by grind [Ty.beq]
 | .sl e,t',h=>by
   cases t'<;>simp [Ty.beq] at h;rw [Ty.beq_eq e _ h]
 | .fz e,t',h=>by
   cases t'<;>simp [Ty.beq] at h;rw [Ty.beq_eq e _ h]
 | .st fs,t',h=>by
   cases t'<;>simp [Ty.beq] at h;rw [aI.beq_eq fs _ h]
theorem aI.beq_eq:(t t':aI)→t.beq t'=true→t=t'
 | .nil,t',h=>by grind [aI.beq]
 | .cons t ts,t',h=>by
   cases t'<;>simp [aI.beq] at h;rw [Ty.beq_eq t _ h.1,aI.beq_eq ts _ h.2]
end
def Ty.cast (t t':Ty) (x:t.D):Option t'.D:=if h:t.beq t'=true then some (Ty.beq_eq t t' h ▸ x) else none
theorem Ty.dD {t t':Ty} {x:t.D} {y:t'.D} (h:Ty.cast t t' x=some y):∃ e:t=t',y=e ▸ x:=by grind [Ty.cast,Ty.beq_eq]
abbrev aS:Nat:=9223372036854775807
abbrev nth {α:Type} (l:List α) (i:Nat):Option α:=l[i]?
def aE (w:World) (b o n:Nat):List Value:=
 match w.heap[b]? with
 |some (.cells c _ _)=>(c.toList.drop o).take n
 |_=>[]
theorem fc {w w':World} {b:Nat} (h:w'.heap[b]? =w.heap[b]?) (o n:Nat):aE w' b o n=aE w b o n:=by
 simp [aE,h]
mutual
def Ty.aQ (S:Nat→Prop) (w:World):(t:Ty)→List Value→t.D→Prop
 | .bool,cs,x=>cs=[.bool x]
 | .int k,cs,x=>cs=[.int k x]
 | .str,cs,x=>cs=[.string ⟨List.toArray x⟩]∧List.length x≤aS
 | .hole,cs,_=>∃ v:Value,cs=[v]∧v.oneCell'=true
 | .sl e,cs,xs=>∃ a cap,cs=[.slice a (List.length xs) cap]∧(List.length xs≤cap∧List.length xs≤aS)∧(xs=[]∨∃ b o,a=some ⟨b,o,none⟩∧S b∧
  ∀ (i:Nat) (y:e.D),nth (α:=e.D) xs i=some y→e.aQ S w (aE w b (o+i*e.size) e.size) y)
 | .fz e,cs,xs=>∃ a cap,cs=[.slice a (List.length xs) cap]∧(List.length xs≤cap∧List.length xs≤aS)∧(xs=[]∨∃ b o,a=some ⟨b,o,none⟩∧S b∧
  ∀ (i:Nat) (y:e.D),nth (α:=e.D) xs i=some y→e.aQ S w (aE w b (o+i*e.size) e.size) y)
 | .st fs,cs,x=>fs.aQ S w cs x
def aI.aQ (S:Nat→Prop) (w:World):(ts:aI)→List Value→ts.D→Prop
 | .nil,cs,_=>cs=[]
 | .cons t ts,cs,x=>∃ c1 c2,cs=c1++c2∧t.aQ S w c1 x.1∧ts.aQ S w c2 x.2
end
structure Fz where
 S:Nat→Prop
 w0:World
def Fz.le (z z':Fz):Prop:=∀ b,z.S b→z'.S b∧z'.w0.heap[b]? =z.w0.heap[b]?
theorem Fz.le_refl (z:Fz):z.le z:=fun _ h=>⟨h,rfl⟩
theorem Fz.le_trans {z z' z'':Fz} (h:z.le z') (h':z'.le z''):z.le z'':=fun b hb=>⟨(h' b (h b hb).1).1,(h' b (h b hb).1).2.trans (h b hb).2⟩
variable {z:Fz}
mutual
def Ty.au (z:Fz) (w:World):(t:Ty)→List Value→t.D→List Nat→Prop
 | .bool,cs,x,fp=>cs=[.bool x]∧fp=[]
 | .int k,cs,x,fp=>cs=[.int k x]∧fp=[]
 | .str,cs,x,fp=>cs=[.string ⟨List.toArray x⟩]∧fp=[]∧List.length x≤aS
 | .hole,cs,_,fp=>(∃ v:Value,cs=[v]∧v.oneCell'=true)∧fp=[]
 | .sl e,cs,xs,fp=>∃ a cap,cs=[.slice a (List.length xs) cap]∧(List.length xs≤cap∧List.length xs≤aS)∧((cap=0∧fp=[])∨∃ b o c E fps,a=some ⟨b,o,none⟩∧
  w.heap[b]? =some (.cells c E (0,0))∧o+cap*e.size≤c.size∧List.length fps=List.length xs∧fp=b::fps.flatten∧
  ∀ (i:Nat) (y:e.D) (f:List Nat),nth (α:=e.D) xs i=some y→nth fps i=some f→e.au z w (aE w b (o+i*e.size) e.size) y f)
 | .fz e,cs,xs,fp=>(Ty.fz e).aQ z.S z.w0 cs xs∧fp=[]
 | .st fs,cs,x,fp=>fs.au z w cs x fp
def aI.au (z:Fz) (w:World):(ts:aI)→List Value→ts.D→List Nat→Prop
 | .nil,cs,_,fp=>cs=[]∧fp=[]
 | .cons t ts,cs,x,fp=>∃ c1 c2 f1 f2,cs=c1++c2∧fp=f1++f2∧t.au z w c1 x.1 f1∧ts.au z w c2 x.2 f2
end
theorem j0 {S:Nat→Prop} {w:World} {e:Ty} {cs:List Value} {x:List e.D}:(Ty.fz e).aQ S w cs x↔(Ty.sl e).aQ S w cs x:=by simp only [Ty.aQ];exact Iff.rfl
mutual
theorem Ty.ki {S:Nat→Prop} {w:World}:(t:Ty)→{cs:List Value}→{x:t.D}→t.aQ S w cs x→cs.length=t.size
 | .bool,_,_,h=>by simp only [Ty.aQ] at h;subst h;rfl
 | .int _,_,_,h=>by simp only [Ty.aQ] at h;subst h;rfl
 | .str,_,_,h=>by simp only [Ty.aQ] at h;rw [h.1];rfl
 | .hole,_,_,h=>by simp only [Ty.aQ] at h;obtain ⟨v,rfl,_⟩:=h;rfl
 | .sl _,_,_,h=>by simp only [Ty.aQ] at h;obtain ⟨a,cap,rfl,_⟩:=h;rfl
 | .fz _,_,_,h=>by simp only [Ty.aQ] at h;obtain ⟨a,cap,rfl,_⟩:=h;rfl
 | .st fs,_,_,h=>by simp only [Ty.aQ] at h;exact aI.ki fs h
theorem aI.ki {S:Nat→Prop} {w:World}:(t:aI)→{cs:List Value}→{x:t.D}→t.aQ S w cs x→cs.length=t.size
 | .nil,_,_,h=>by simp only [aI.aQ] at h;subst h;rfl
 | .cons t ts,_,_,h=>by
   simp only [aI.aQ] at h;obtain ⟨c1,c2,rfl,h1,h2⟩:=h;simp [aI.size,Ty.ki t h1,aI.ki ts h2]
end
mutual
theorem Ty.fh {w:World}:(t:Ty)→{cs:List Value}→{x:t.D}→{fp:List Nat}→t.au z w cs x fp→cs.length=t.size
 | .bool,_,_,_,h=>by simp only [Ty.au] at h;rw [h.1];rfl
 | .int _,_,_,_,h=>by simp only [Ty.au] at h;rw [h.1];rfl
 | .str,_,_,_,h=>by simp only [Ty.au] at h;rw [h.1];rfl
 | .hole,_,_,_,h=>by simp only [Ty.au] at h;obtain ⟨⟨v,rfl,_⟩,_⟩:=h;rfl
 | .sl _,_,_,_,h=>by simp only [Ty.au] at h;obtain ⟨a,cap,rfl,_⟩:=h;rfl
 | .fz e,_,_,_,h=>by grind [Ty.au,Ty.ki]
 | .st fs,_,_,_,h=>by simp only [Ty.au] at h;exact aI.fh fs h
theorem aI.fh {w:World}:(t:aI)→{cs:List Value}→{x:t.D}→{fp:List Nat}→t.au z w cs x fp→cs.length=t.size
 | .nil,_,_,_,h=>by simp only [aI.au] at h;rw [h.1];rfl
 | .cons t ts,_,_,_,h=>by
   simp only [aI.au] at h;obtain ⟨c1,c2,f1,f2,rfl,rfl,h1,h2⟩:=h;simp [aI.size,Ty.fh t h1,aI.fh ts h2]
end
/- The same blocks, the same reading. -/
mutual
theorem Ty.eA {S S':Nat→Prop} {w w':World} (hs:∀ b,S b→S' b∧w'.heap[b]? =w.heap[b]?):(t:Ty)→{cs:List Value}→{x:t.D}→t.aQ S w cs x→t.aQ S' w' cs x
 | .bool,_,_,h=>by grind [Ty.aQ]
 | .int _,_,_,h=>by grind [Ty.aQ]
 | .str,_,_,h=>by grind [Ty.aQ]
 | .hole,_,_,h=>by grind [Ty.aQ]
 | .sl e,_,_,h=>by
   simp only [Ty.aQ] at h ⊢;obtain ⟨a,cap,rfl,hc,h⟩:=h;refine ⟨a,cap,rfl,hc,h.imp id ?_⟩
   rintro ⟨b,o,ha,hb,hi⟩
   refine ⟨b,o,ha,(hs b hb).1,fun i y hl=> ?_⟩;rw [fc (hs b hb).2];exact Ty.eA hs e (hi i y hl)
 | .fz e,_,_,h=>by
   simp only [Ty.aQ] at h ⊢;obtain ⟨a,cap,rfl,hc,h⟩:=h;refine ⟨a,cap,rfl,hc,h.imp id ?_⟩
   rintro ⟨b,o,ha,hb,hi⟩
   refine ⟨b,o,ha,(hs b hb).1,fun i y hl=> ?_⟩;rw [fc (hs b hb).2];exact Ty.eA hs e (hi i y hl)
 | .st fs,_,_,h=>by simp only [Ty.aQ] at h ⊢; exact aI.eA hs fs h
theorem aI.eA {S S':Nat→Prop} {w w':World} (hs:∀ b,S b→S' b∧w'.heap[b]? =w.heap[b]?):(t:aI)→{cs:List Value}→{x:t.D}→t.aQ S w cs x→t.aQ S' w' cs x
 | .nil,_,_,h=>by grind [aI.aQ]
 | .cons t ts,_,_,h=>by
   simp only [aI.aQ] at h ⊢; obtain ⟨c1,c2,rfl,h1,h2⟩:=h;exact ⟨c1,c2,rfl,Ty.eA hs t h1,aI.eA hs ts h2⟩
end
mutual
theorem Ty.df {w w':World}:(t:Ty)→{cs:List Value}→{x:t.D}→{fp:List Nat}→t.au z w cs x fp→(∀ b∈fp,w'.heap[b]? =w.heap[b]?)→t.au z w' cs x fp
 | .bool,_,_,_,h,_=>by grind [Ty.au]
 | .int _,_,_,_,h,_=>by grind [Ty.au]
 | .str,_,_,_,h,_=>by grind [Ty.au]
 | .hole,_,_,_,h,_=>by grind [Ty.au]
 | .sl e,_,_,_,h,hs=>by
   simp only [Ty.au] at h ⊢;obtain ⟨a,cap,rfl,hc,h⟩:=h;refine ⟨a,cap,rfl,hc,h.imp id ?_⟩
   rintro ⟨b,o,c,E,fps,ha,hb,ho,hl,rfl,hi⟩
   have cf:=hs b (by simp);refine ⟨b,o,c,E,fps,ha,cf.trans hb,ho,hl,rfl,fun i y f hy hf=> ?_⟩;rw [fc cf];refine Ty.df e (hi i y f hy hf) fun b hm=>hs b ?_;simp only [abE,ahU];exact .inr ⟨f,aeJ hf,hm⟩
 | .fz _,_,_,_,h,_=>by grind [Ty.au]
 | .st fs,_,_,_,h,hs=>by simp only [Ty.au] at h ⊢; exact aI.df fs h hs
theorem aI.df {w w':World}:(t:aI)→{cs:List Value}→{x:t.D}→{fp:List Nat}→t.au z w cs x fp→(∀ b∈fp,w'.heap[b]? =w.heap[b]?)→t.au z w' cs x fp
 | .nil,_,_,_,h,_=>by grind [aI.au]
 | .cons t ts,_,_,_,h,hs=>by
   simp only [aI.au] at h ⊢; obtain ⟨c1,c2,f1,f2,rfl,rfl,h1,h2⟩:=h;exact ⟨c1,c2,f1,f2,rfl,rfl,Ty.df t h1 fun b hb=>hs b (by simp [hb]),aI.df ts h2 fun b hb=>hs b (by simp [hb])⟩
end
/- What is one's own can be read. -/
mutual
theorem Ty.gu {S:Nat→Prop} {w:World} (hz:∀ b,z.S b→S b∧w.heap[b]? =z.w0.heap[b]?):(t:Ty)→{cs:List Value}→{x:t.D}→{fp:List Nat}→t.au z w cs x fp→(∀ b∈fp,S b)→t.aQ S w cs x
 | .bool,_,_,_,h,_=>by grind [Ty.au,Ty.aQ]
 | .int _,_,_,_,h,_=>by grind [Ty.au,Ty.aQ]
 | .str,_,_,_,h,_=>by grind [Ty.au,Ty.aQ]
 | .hole,_,_,_,h,_=>by grind [Ty.au,Ty.aQ]
 | .sl e,_,_,_,h,hs=>by
   simp only [Ty.au,Ty.aQ] at h ⊢;obtain ⟨a,cap,rfl,hc,h⟩:=h;refine ⟨a,cap,rfl,hc, ?_⟩;rcases h with ⟨h0,rfl⟩|⟨b,o,c,E,fps,ha,hb,ho,hl,rfl,hi⟩
   . exact .inl (ac4 (by omega))
   . refine .inr ⟨b,o,ha,hs b (by simp),fun i y hy=> ?_⟩
     have bZ:i<fps.length:=by grind
     refine Ty.gu hz e (hi i y (fps[i]'bZ) hy (aaf _)) fun b hm=>hs b ?_;grind [List.mem_flatten,List.getElem_mem]
 | .fz e,_,_,_,h,_=>by grind [Ty.au,Ty.eA]
 | .st fs,_,_,_,h,hs=>by simp only [Ty.au,Ty.aQ] at h ⊢; exact aI.gu hz fs h hs
theorem aI.gu {S:Nat→Prop} {w:World} (hz:∀ b,z.S b→S b∧w.heap[b]? =z.w0.heap[b]?):(t:aI)→{cs:List Value}→{x:t.D}→{fp:List Nat}→t.au z w cs x fp→(∀ b∈fp,S b)→t.aQ S w cs x
 | .nil,_,_,_,h,_=>by grind [aI.au,aI.aQ]
 | .cons t ts,_,_,_,h,hs=>by
   simp only [aI.au,aI.aQ] at h ⊢; obtain ⟨c1,c2,f1,f2,rfl,rfl,h1,h2⟩:=h;exact ⟨c1,c2,rfl,Ty.gu hz t h1 fun b hb=>hs b (by simp [hb]),aI.gu hz ts h2 fun b hb=>hs b (by simp [hb])⟩
end
/- The blocks that it lies in are there. -/
mutual
theorem Ty.ij {w:World}:(t:Ty)→{cs:List Value}→{x:t.D}→{fp:List Nat}→t.au z w cs x fp→∀ b∈fp,b<w.heap.size
 | .bool,_,_,_,h=>by simp only [Ty.au] at h;rw [h.2];simp
 | .int _,_,_,_,h=>by simp only [Ty.au] at h;rw [h.2];simp
 | .str,_,_,_,h=>by simp only [Ty.au] at h;rw [h.2.1];simp
 | .hole,_,_,_,h=>by simp only [Ty.au] at h;rw [h.2];simp
 | .sl e,_,_,_,h=>by
   simp only [Ty.au] at h;obtain ⟨a,cap,rfl,hc,h⟩:=h;rcases h with ⟨h0,rfl⟩|⟨b,o,c,E,fps,ha,hb,ho,hl,rfl,hi⟩
   . simp
   . intro b' hm
     simp only [abE,ahU] at hm;rcases hm with rfl|⟨f,hf,hm⟩
     . exact (Array.getElem?_eq_some_iff.1 hb).1
     . obtain ⟨i,bZ,rfl⟩:=afQ hf
       exact Ty.ij e (hi i (@getElem (List e.D) Nat e.D _ _ _ i (hl ▸ bZ)) _ (aaf _) (aaf _)) b' hm
 | .fz _,_,_,_,h=>by simp only [Ty.au] at h;rw [h.2];simp
 | .st fs,_,_,_,h=>by simp only [Ty.au] at h;exact aI.ij fs h
theorem aI.ij {w:World}:(t:aI)→{cs:List Value}→{x:t.D}→{fp:List Nat}→t.au z w cs x fp→∀ b∈fp,b<w.heap.size
 | .nil,_,_,_,h=>by simp only [aI.au] at h;rw [h.2];simp
 | .cons t ts,_,_,_,h=>by
   simp only [aI.au] at h;obtain ⟨c1,c2,f1,f2,rfl,rfl,h1,h2⟩:=h;intro b hb;rcases aaN.1 hb with h|h
   . exact Ty.ij t h1 b h
   . exact aI.ij ts h2 b h
end
mutual
theorem Ty.dc {z':Fz} {w:World} (hz:z.le z'):(t:Ty)→{cs:List Value}→{x:t.D}→{fp:List Nat}→t.au z w cs x fp→t.au z' w cs x fp
 | .bool,_,_,_,h=>by grind [Ty.au]
 | .int _,_,_,_,h=>by grind [Ty.au]
 | .str,_,_,_,h=>by grind [Ty.au]
 | .hole,_,_,_,h=>by grind [Ty.au]
 | .sl e,_,_,_,h=>by
   simp only [Ty.au] at h ⊢;obtain ⟨a,cap,rfl,hc,h⟩:=h;refine ⟨a,cap,rfl,hc,h.imp id ?_⟩
   rintro ⟨b,o,c,E,fps,ha,hb,ho,hl,rfl,hi⟩
   exact ⟨b,o,c,E,fps,ha,hb,ho,hl,rfl,fun i y f hy hf=>Ty.dc hz e (hi i y f hy hf)⟩
 | .fz e,_,_,_,h=>by simp only [Ty.au] at h ⊢; exact ⟨Ty.eA hz (.fz e) h.1,h.2⟩
 | .st fs,_,_,_,h=>by simp only [Ty.au] at h ⊢; exact aI.dc hz fs h
theorem aI.dc {z':Fz} {w:World} (hz:z.le z'):(t:aI)→{cs:List Value}→{x:t.D}→{fp:List Nat}→t.au z w cs x fp→t.au z' w cs x fp
 | .nil,_,_,_,h=>by grind [aI.au]
 | .cons t ts,_,_,_,h=>by
   simp only [aI.au] at h ⊢; obtain ⟨c1,c2,f1,f2,rfl,rfl,h1,h2⟩:=h;exact ⟨c1,c2,f1,f2,rfl,rfl,Ty.dc hz t h1,aI.dc hz ts h2⟩
end
mutual
def Ty.mz:Ty→Ty→Bool
 | .bool, .bool=>true
 | .int k, .int k'=>decide (k=k')
 | .str, .str=>true
 | .hole, .hole=>true
 | .sl e, .sl e'=>e.mz e'
 | .sl e, .fz e'=>e.mz e'
 | .fz e, .sl e'=>e.mz e'
 | .fz e, .fz e'=>e.mz e'
 | .st fs, .st fs'=>fs.mz fs'
 |_,_=>false
def aI.mz:aI→aI→Bool
 | .nil, .nil=>true
 | .cons t ts, .cons t' ts'=>t.mz t'&&ts.mz ts'
 |_,_=>false
end
mutual
theorem Ty.iC:(t t':Ty)→t.mz t'=true→t.D=t'.D
 | .bool,t',h=>by grind [Ty.mz]
 | .int k,t',h=>by cases t'<;>first|rfl|grind [Ty.mz]
 | .str,t',h=>by grind [Ty.mz]
 | .hole,t',h=>by grind [Ty.mz]
 | .sl e,t',h=>by
   cases t'<;>simp only [Ty.mz,adf] at h
   . simp only [Ty.D,Ty.iC e _ h]
   . simp only [Ty.D,Ty.iC e _ h]
 | .fz e,t',h=>by
   cases t'<;>simp only [Ty.mz,adf] at h
   . simp only [Ty.D,Ty.iC e _ h]
   . simp only [Ty.D,Ty.iC e _ h]
 | .st fs,t',h=>by
   cases t'<;>simp only [Ty.mz,adf] at h;simp only [Ty.D,aI.iC fs _ h]
theorem aI.iC:(t t':aI)→t.mz t'=true→t.D=t'.D
 | .nil,t',h=>by grind [aI.mz]
 | .cons t ts,t',h=>by
   cases t'<;>simp only [aI.mz,adf,aaE] at h;simp only [aI.D,Ty.iC t _ h.1,aI.iC ts _ h.2]
end
def Ty.AV (t t':Ty) (x:t.D):Option t'.D:=if h:t.mz t'=true then some (_root_.cast (Ty.iC t t' h) x) else none
theorem Ty.oT {t t':Ty} {x:t.D} {y:t'.D} (h:Ty.AV t t' x=some y):∃ e:t.mz t'=true,y=_root_.cast (Ty.iC t t' e) x:=by grind [Ty.AV]
mutual
theorem Ty.j1:(t t':Ty)→t.mz t'=true→t'.size=t.size
 | .bool,t',h=>by grind [Ty.mz]
 | .int k,t',h=>by cases t'<;>first|rfl|grind [Ty.mz]
 | .str,t',h=>by grind [Ty.mz]
 | .hole,t',h=>by grind [Ty.mz]
 | .sl e,t',h=>by cases t'<;>first|rfl|grind [Ty.mz]
 | .fz e,t',h=>by cases t'<;>first|rfl|grind [Ty.mz]
 | .st fs,t',h=>by
   cases t'<;>simp only [Ty.mz,adf] at h;simp only [Ty.size,aI.j1 fs _ h]
theorem aI.j1:(t t':aI)→t.mz t'=true→t'.size=t.size
 | .nil,t',h=>by grind [aI.mz]
 | .cons t ts,t',h=>by
   cases t'<;>simp only [aI.mz,adf,aaE] at h;simp only [aI.size,Ty.j1 t _ h.1,aI.j1 ts _ h.2]
end
theorem SO {α β:Type} (h:α=β) (h':List α=List β) (xs:List α) (i:Nat) (y:β) (e:nth (_root_.cast h' xs) i=some y):∃ x,nth xs i=some x∧y=_root_.cast h x:=by
 subst h;grind
theorem SP {α β:Type} (h:α=β) (h':List α=List β) (xs:List α):(_root_.cast h' xs).length=xs.length:=by subst h;rfl
theorem SQ {α β α' β':Type} (h:α=α') (k:β=β') (h':(α×β)=(α'×β')) (x:α×β):(_root_.cast h' x).1=_root_.cast h x.1∧(_root_.cast h' x).2=_root_.cast k x.2:=by grind
theorem kC {S:Nat→Prop} {w:World} {e e':Ty} (hD:e.D=e'.D) (hs:e'.size=e.size) (ih:∀ cs x,e.aQ S w cs x→e'.aQ S w cs (_root_.cast hD x)) (h':List e.D=List e'.D) {cs:List Value} {xs:List e.D}
  (h:(Ty.sl e).aQ S w cs xs):(Ty.sl e').aQ S w cs (_root_.cast h' xs:List e'.D):=by
 simp only [Ty.aQ] at h ⊢;have hl:=SP hD h' xs;obtain ⟨a,cap,rfl,hc,h⟩:=h;refine ⟨a,cap, ?_, ?_, ?_⟩
 . grind
 . grind
 . rcases h with rfl|⟨b,o,ha,hb,hi⟩
   . grind
   . refine .inr ⟨b,o,ha,hb,fun i y hy=> ?_⟩
     obtain ⟨x,hx,rfl⟩:=SO hD h' xs i y hy;grind
mutual
theorem Ty.iD {S:Nat→Prop} {w:World}:(t t':Ty)→(h:t.mz t'=true)→∀ cs x,t.aQ S w cs x→t'.aQ S w cs (_root_.cast (Ty.iC t t' h) x)
 | .bool,t',h,cs,x,hr=>by grind [Ty.mz]
 | .int k,t',h,cs,x,hr=>by
   cases t'<;>simp only [Ty.mz,adf,ack] at h;grind
 | .str,t',h,cs,x,hr=>by grind [Ty.mz]
 | .hole,t',h,cs,x,hr=>by grind [Ty.mz]
 | .sl e,t',h,cs,x,hr=>by
   cases t' with
   |sl e'=>exact kC (Ty.iC e e' h) (Ty.j1 e e' h) (Ty.iD e e' h) _ hr
   |fz e'=>exact j0.2 (kC (Ty.iC e e' h) (Ty.j1 e e' h) (Ty.iD e e' h) _ hr)
   |_=>simp [Ty.mz] at h
 | .fz e,t',h,cs,x,hr=>by
   have hr:=j0.1 hr;cases t' with
   |sl e'=>exact kC (Ty.iC e e' h) (Ty.j1 e e' h) (Ty.iD e e' h) _ hr
   |fz e'=>exact j0.2 (kC (Ty.iC e e' h) (Ty.j1 e e' h) (Ty.iD e e' h) _ hr)
   |_=>simp [Ty.mz] at h
 | .st fs,t',h,cs,x,hr=>by
   cases t' with
   |st fs'=>
    simp only [Ty.aQ] at hr ⊢;exact aI.iD fs fs' h cs x hr
   |_=>simp [Ty.mz] at h
theorem aI.iD {S:Nat→Prop} {w:World}:(t t':aI)→(h:t.mz t'=true)→∀ cs x,t.aQ S w cs x→t'.aQ S w cs (_root_.cast (aI.iC t t' h) x)
 | .nil,t',h,cs,x,hr=>by grind [aI.aQ,aI.mz]
 | .cons t ts,t',h,cs,x,hr=>by
   cases t' with
   |nil=>simp [aI.mz] at h
   |cons t' ts'=>
    have h2:=h;simp only [aI.mz,aaE] at h2;simp only [aI.aQ] at hr ⊢;obtain ⟨c1,c2,rfl,h3,h4⟩:=hr;have e:=SQ (Ty.iC t t' h2.1) (aI.iC ts ts' h2.2) (aI.iC (.cons t ts) (.cons t' ts') h) x;exact ⟨c1,c2,rfl,e.1 ▸ Ty.iD t t' h2.1 c1 x.1 h3,e.2 ▸ aI.iD ts ts' h2.2 c2 x.2 h4⟩
end
mutual
def Ty.lU:Ty→Ty
 | .sl _=> .hole
 | .fz _=> .hole
 | .st fs=> .st fs.lU
 | .bool=> .bool
 | .int k=> .int k
 | .str=> .str
 | .hole=> .hole
def aI.lU:aI→aI
 | .nil=> .nil
 | .cons t ts=> .cons t.lU ts.lU
end
mutual
def Ty.erase:(t:Ty)→t.D→t.lU.D
 | .sl _,_=>()
 | .fz _,_=>()
 | .st fs,x=>fs.erase x
 | .bool,x=>x
 | .int _,x=>x
 | .str,x=>x
 | .hole,_=>()
def aI.erase:(t:aI)→t.D→t.lU.D
 | .nil,x=>x
 | .cons t ts,x=>(t.erase x.1,ts.erase x.2)
end
mutual
theorem Ty.qo:(t:Ty)→t.lU.size=t.size
 | .sl _=>rfl
 | .fz _=>rfl
 | .st fs=>by simp only [Ty.lU,Ty.size];exact aI.qo fs
 | .bool=>rfl
 | .int _=>rfl
 | .str=>rfl
 | .hole=>rfl
theorem aI.qo:(t:aI)→t.lU.size=t.size
 | .nil=>rfl
 | .cons t ts=>by simp only [aI.lU,aI.size,Ty.qo t,aI.qo ts]
end
mutual
theorem Ty.mg {S:Nat→Prop} {w:World}:(t:Ty)→∀ cs x,t.aQ S w cs x→t.lU.aQ S w cs (t.erase x)
 | .sl _,cs,x,hr=>by simp only [Ty.lU,Ty.aQ] at hr ⊢; obtain ⟨a,cap,rfl,_⟩:=hr;exact ⟨_,rfl,rfl⟩
 | .fz _,cs,x,hr=>by simp only [Ty.lU,Ty.aQ] at hr ⊢; obtain ⟨a,cap,rfl,_⟩:=hr;exact ⟨_,rfl,rfl⟩
 | .st fs,cs,x,hr=>by
   simp only [Ty.aQ] at hr;simp only [Ty.lU,Ty.aQ];exact aI.mg fs cs x hr
 | .bool,cs,x,hr=>hr
 | .int _,cs,x,hr=>hr
 | .str,cs,x,hr=>hr
 | .hole,cs,x,hr=>hr
theorem aI.mg {S:Nat→Prop} {w:World}:(t:aI)→∀ cs x,t.aQ S w cs x→t.lU.aQ S w cs (t.erase x)
 | .nil,cs,x,hr=>hr
 | .cons t ts,cs,x,hr=>by
   simp only [aI.aQ] at hr;simp only [aI.lU,aI.aQ];obtain ⟨c1,c2,rfl,h3,h4⟩:=hr;exact ⟨c1,c2,rfl,Ty.mg t c1 x.1 h3,aI.mg ts c2 x.2 h4⟩
end
end
section
open Go
mutual
def Ty.cF:(t:Ty)→t.D→Nat→(u:Ty)→Option u.D
 | .st fs,x,off,u=>if off=0∧(Ty.st fs).beq u=true then Ty.cast (.st fs) u x else fs.cF x off u
 |t,x,off,u=>if off=0 then Ty.cast t u x else none
def aI.cF:(ts:aI)→ts.D→Nat→(u:Ty)→Option u.D
 | .nil,_,_,_=>none
 | .cons t ts,x,off,u=>if off<t.size then t.cF x.1 off u else ts.cF x.2 (off - t.size) u
end
mutual
def Ty.cK:(t:Ty)→t.D→Nat→(u:Ty)→u.D→Option t.D
 | .st fs,x,off,u,y=>if off=0∧u.beq (Ty.st fs)=true then Ty.cast u (.st fs) y else fs.cK x off u y
 |t,_,off,u,y=>if off=0 then Ty.cast u t y else none
def aI.cK:(ts:aI)→ts.D→Nat→(u:Ty)→u.D→Option ts.D
 | .nil,_,_,_,_=>none
 | .cons t ts,x,off,u,y=>if off<t.size then (t.cK x.1 off u y).map fun z=>(z,x.2) else (ts.cK x.2 (off - t.size) u y).map fun z=>(x.1,z)
end
mutual
def Ty.dg:Ty→Nat→Ty→Ty
 | .fz e,off,u=>if off=0∧u.beq (.sl e)=true then .fz e else u
 | .st fs,off,u=>fs.dg off u
 |_,_,u=>u
def aI.dg:aI→Nat→Ty→Ty
 | .nil,_,u=>u
 | .cons t ts,off,u=>if off<t.size then t.dg off u else ts.dg (off - t.size) u
end
mutual
def Ty.qp:Ty→Bool
 | .sl e=>e.qp
 | .fz _=>false
 | .st fs=>fs.qp
 |_=>true
def aI.qp:aI→Bool
 | .nil=>true
 | .cons t ts=>t.qp&&ts.qp
end
mutual
def Ty.ng:Ty→Bool
 | .sl _=>false
 | .fz _=>true
 | .st fs=>fs.ng
 |_=>true
def aI.ng:aI→Bool
 | .nil=>true
 | .cons t ts=>t.ng&&ts.ng
end
mutual
def Ty.BQ:Ty→Ty
 | .sl e=> .fz e
 | .st fs=> .st fs.BQ
 |t=>t
def aI.BQ:aI→aI
 | .nil=> .nil
 | .cons t ts=> .cons t.BQ ts.BQ
end
mutual
def Ty.flat:Ty→Bool
 | .sl _=>false
 | .fz _=>false
 | .st fs=>fs.flat
 |_=>true
def aI.flat:aI→Bool
 | .nil=>true
 | .cons t ts=>t.flat&&ts.flat
end
def aI.offset:aI→Nat→Option (Nat×Ty)
 | .nil,_=>none
 | .cons t _,0=>some (0,t)
 | .cons t ts,k+1=>(ts.offset k).map fun x=>(t.size+x.1,x.2)
def Ty.field (t:Ty) (k:Nat):Option (Nat×Ty):=
 match t with
 | .st fs=>fs.offset k
 |_=>none
inductive ai where
 |dead
 |jD
 |undef
 |b (x:Bool)
 |i (k:IntKind) (x:Int)
 |s (x:List UInt8)
 |ro (e:Ty) (xs:List e.D) (tk:Option Nat)
 |ni
 |cN (id:Nat) (vw:Option (Nat×Nat))
 |vptr (id off:Nat)
 |jL (id i off:Nat)
 |BR (t:Ty) (x:t.D) (off:Nat)
 |agg (vs:List ai)
 |H5 (vs:List ai)
 |fn (f:Nat) (oU:List ai)
 |er (n:Bool)
 |kp (n:Nat)
inductive bQ where
 |var (cs:List ai)
 |arr (e:Ty) (xs:List e.D)
 |AW (e:Ty) (xs:List e.D) (x:e.D) (i off:Nat) (u:Ty) (id:Nat)
 |it (s:List UInt8) (p:Nat)
 |vG (e:Ty) (xs:List e.D) (i:Nat) (cs:List ai)
 |cut (e:Ty) (ys:List e.D) (k:Nat)
mutual
def ai.ids:ai→List Nat
 | .cN id _=>[id]
 | .vptr id _=>[id]
 | .jL id _ _=>[id]
 | .agg vs=>ai.bI vs
 | .H5 vs=>ai.bI vs
 | .fn _ vs=>ai.bI vs
 |_=>[]
def ai.bI:List ai→List Nat
 |[]=>[]
 |v::vs=>v.ids++ai.bI vs
end
def bQ.ids:bQ→List Nat
 | .var cs=>ai.bI cs
 | .arr _ _=>[]
 | .AW _ _ _ _ _ _ id=>[id]
 | .it _ _=>[]
 | .vG _ _ _ cs=>ai.bI cs
 | .cut _ _ _=>[]
def ai.bC:ai→Bool
 | .dead| .undef| .agg _| .H5 _=>false
 |_=>true
def ai.cells:ai→List ai
 | .agg vs=>vs
 |v=>[v]
mutual
def Ty.jE:(t:Ty)→t.D→List ai
 | .bool,x=>[.b x]
 | .int k,x=>[.i k x]
 | .str,x=>[.s x]
 | .hole,_=>[.jD]
 | .sl e,x=>[.ro e x none]
 | .fz e,x=>[.ro e x none]
 | .st fs,x=>fs.jE x
def aI.jE:(ts:aI)→ts.D→List ai
 | .nil,_=>[]
 | .cons t ts,x=>t.jE x.1++ts.jE x.2
end
mutual
def Ty.jF:(t:Ty)→t.D→List ai
 | .bool,x=>[.b x]
 | .int k,x=>[.i k x]
 | .str,x=>[.s x]
 | .hole,_=>[.jD]
 | .sl _,_=>[.jD]
 | .fz e,x=>[.ro e x none]
 | .st fs,x=>fs.jF x
def aI.jF:(ts:aI)→ts.D→List ai
 | .nil,_=>[]
 | .cons t ts,x=>t.jF x.1++ts.jF x.2
end
def Ty.j2:Ty→Bool
 | .st _=>true
 |_=>false
def mO (t:Ty) (cs:List ai):ai:=
 match t.j2,cs with
 |true,cs=> .agg cs
 |false,[c]=>c
 |false,_=> .dead
inductive Out (ρ:Type):Type 1 where
 |ret (r:ρ)
 |fail
 |ite (c:Bool) (a b:Out ρ)
 |get {α:Type} (o:Option α) (k:α→Out ρ)
 |alt {α β:Type} (o:α ⊕ β) (k:α→Out ρ) (h:β→Out ρ)
def Out.bind {ρ σ:Type}:Out ρ→(ρ→Out σ)→Out σ
 | .ret r,f=>f r
 | .fail,_=> .fail
 | .ite c a b,f=> .ite c (a.bind f) (b.bind f)
 | .get o k,f=> .get o fun x=>(k x).bind f
 | .alt o k h,f=> .alt o (fun x=>(k x).bind f) fun x=>(h x).bind f
def Out.map {ρ σ:Type} (f:ρ→σ) (o:Out ρ):Out σ:=o.bind fun r=> .ret (f r)
def Out.eval {ρ:Type}:Out ρ→Option ρ
 | .ret r=>some r
 | .fail=>none
 | .ite c a b=>bif c then a.eval else b.eval
 | .get o k=>o.bind fun x=>(k x).eval
 | .alt o k h=>match o with
   | .inl x=>(k x).eval
   | .inr x=>(h x).eval
def Out.ofOption {ρ:Type}:Option ρ→Out ρ
 |some r=> .ret r
 |none=> .fail
def Out.of {α ρ:Type} (o:Option α) (k:α→Out ρ):Out ρ:=
 match o with
 |some x=>k x
 |none=> .fail
theorem Out.nT {ρ σ:Type} (o:Out ρ) (f:ρ→Out σ):(o.bind f).eval=o.eval.bind fun r=>(f r).eval:=by
 induction o with
 |ret r=>rfl
 |fail=>rfl
 |ite c a b iha ihb=>grind [Out.bind,Out.eval]
 |get o k ih=>grind [Out.bind,Out.eval]
 |alt o k h ih ih'=>grind [Out.bind,Out.eval]
abbrev Env:=Nat→Option bQ
def Y3:List ai→Option (Bool×List ai)
 | .b x::r=>some (x,r)
 |_=>none
def Y4 (k:IntKind):List ai→Option (Int×List ai)
 | .i k' x::r=>if k=k' then some (x,r) else none
 |_=>none
def aeA:List ai→Option (Unit×List ai)
 |d::r=>if d.bC=true then some ((),r) else none
 |_=>none
def aih:List ai→Option (Unit×List ai)
 |d::r=>if d.bC=true∧d.ids=[] then some ((),r) else none
 |_=>none
def Y5:List ai→Option (List UInt8×List ai)
 | .s x::r=>some (x,r)
 |_=>none
def SR (e:Ty):List ai→Option (List e.D×List ai)
 | .ni::r=>some ([],r)
 | .ro e' xs _::r=>(Ty.cast (.sl e') (.sl e) xs).map fun y=>(y,r)
 |_=>none
def aeB (E:Env) (e:Ty):List ai→Option (List e.D×List ai×List Nat)
 | .ni::r=>some ([],r,[])
 | .cN id none::r=>
   match E id with
   |some (.arr e' xs)=>(Ty.cast (.sl e') (.sl e) xs).map fun y=>(y,r,[id])
   |_=>none
 |_=>none
mutual
def Ty.vH (E:Env):(t:Ty)→List ai→Option (t.D×List ai×List Nat)
 | .bool,cs=>(Y3 cs).map fun x=>(x.1,x.2,[])
 | .int k,cs=>(Y4 k cs).map fun x=>(x.1,x.2,[])
 | .str,cs=>(Y5 cs).map fun x=>(x.1,x.2,[])
 | .hole,cs=>(aih cs).map fun x=>(x.1,x.2,[])
 | .sl e,cs=>aeB E e cs
 | .fz e,cs=>(SR e cs).map fun x=>(x.1,x.2,[])
 | .st fs,cs=>fs.vH E cs
def aI.vH (E:Env):(ts:aI)→List ai→Option (ts.D×List ai×List Nat)
 | .nil,cs=>some ((),cs,[])
 | .cons t ts,cs=>(t.vH E cs).bind fun x=>(ts.vH E x.2.1).map fun y=>((x.1,y.1),y.2.1,x.2.2++y.2.2)
end
def mh:List Nat→Bool
 |[]=>true
 |a::l=> !l.contains a&&mh l
def ik (E:Env):bQ→Option ((e:Ty)×List e.D)
 | .arr e xs=>some ⟨e,xs⟩
 | .AW e xs x i off u id=>
   match E id with
   |some (.arr e' ys)=>(Ty.cast (.sl e') u ys).bind fun y=>(e.cK x off u y).map fun x'=>⟨e,xs.set i x'⟩
   |_=>none
 | .var _=>none
 | .it _ _=>none
 | .cut _ _ _=>none
 | .vG e xs i cs=>
   match e.vH E cs with
   |some (x,[],ids)=>if mh ids=true then some ⟨e,xs.set i x⟩ else none
   |_=>none
def bG:bQ→List Nat
 | .AW _ _ _ _ _ _ id=>[id]
 | .vG _ _ _ cs=>ai.bI cs
 |_=>[]
def yc (e' e:Ty) (xs:List e'.D):Option (List e.D):=
 match Ty.AV (.sl e') (.sl e) xs with
 |some y=>some y
 |none=>Ty.cast (.sl e'.lU) (.sl e) (List.map e'.erase xs)
def tU (E:Env) (e:Ty):ai→Option (List e.D)
 | .ro e' xs _=>yc e' e xs
 | .ni=>some []
 | .cN id none=>(E id).bind fun v=>(ik E v).bind fun x=>yc x.1 e x.2
 | .cN id (some (o,l))=>(E id).bind fun v=>(ik E v).bind fun x=>yc x.1 e ((x.2.drop o).take l)
 |_=>none
def iS (E:Env) (e:Ty):ai→Option (List e.D×List Nat)
 | .ni=>some ([],[])
 | .cN id none=>(E id).bind fun v=>(ik E v).bind fun x=>(Ty.cast (.sl x.1) (.sl e) x.2).map fun y=>(y,id::bG v)
 | .cN id (some (o,l))=>(E id).bind fun v=>(ik E v).bind fun x=>(Ty.cast (.sl x.1) (.sl e) ((x.2.drop o).take l)).map fun y=>(y,id::bG v)
 |_=>none
def aeC (E:Env) (e:Ty):List ai→Option (List e.D×List ai×List Nat)
 |v::r=>(iS E e v).map fun x=>(x.1,r,x.2)
 |_=>none
mutual
def Ty.vI (E:Env):(t:Ty)→List ai→Option (t.D×List ai×List Nat)
 | .bool,cs=>(Y3 cs).map fun x=>(x.1,x.2,[])
 | .int k,cs=>(Y4 k cs).map fun x=>(x.1,x.2,[])
 | .str,cs=>(Y5 cs).map fun x=>(x.1,x.2,[])
 | .hole,cs=>(aeA cs).map fun x=>(x.1,x.2,[])
 | .sl e,cs=>aeC E e cs
 | .fz e,cs=>(SR e cs).map fun x=>(x.1,x.2,[])
 | .st fs,cs=>fs.vI E cs
def aI.vI (E:Env):(ts:aI)→List ai→Option (ts.D×List ai×List Nat)
 | .nil,cs=>some ((),cs,[])
 | .cons t ts,cs=>(t.vI E cs).bind fun x=>(ts.vI E x.2.1).map fun y=>((x.1,y.1),y.2.1,x.2.2++y.2.2)
end
def zz (E:Env) (t:Ty) (cs:List ai):Option (t.D×List Nat):=
 match t.vI E cs with
 |some (x,[],ids)=>if mh ids=true then some (x,ids) else none
 |_=>none
mutual
def Ty.bP:(t:Ty)→t.D→Nat→List ai×List (Nat×bQ)×Nat
 | .bool,x,n=>([.b x],[],n)
 | .int k,x,n=>([.i k x],[],n)
 | .str,x,n=>([.s x],[],n)
 | .hole,_,n=>([.jD],[],n)
 | .sl e,x,n=>([.cN n none],[(n, .arr e x)],n+1)
 | .fz e,x,n=>([.ro e x none],[],n)
 | .st fs,x,n=>fs.bP x n
def aI.bP:(ts:aI)→ts.D→Nat→List ai×List (Nat×bQ)×Nat
 | .nil,_,n=>([],[],n)
 | .cons t ts,x,n=>
   let a:=t.bP x.1 n
   let b:=ts.bP x.2 a.2.2
   (a.1++b.1,a.2.1++b.2.1,b.2.2)
end
abbrev oe:=List (Nat×Option bQ)
abbrev iv:=ai×oe
def Uv:Nat:=1000000
structure Cx where
 ty:Nat→Option Ty
 eqv:Nat→Bool
 call:Nat→List ai→Env→Nat→Out iv
 frz:Nat→Bool:=fun _=>false
 ZQ:Nat→Nat:=fun _=>0
def ofValue:Value→ai
 | .bool x=> .b x
 | .int k n=> .i k n
 | .string s=>if s.data.toList.length≤aS then .s s.data.toList else .dead
 | .slice none 0 0=> .ni
 | .nilIface=> .er true
 |_=> .dead
abbrev bV:Nat:=68719476736
def qq:Op→List Operand
 | .range _ x| .next x _| .move x| .assign x| .box _ x| .load _ x| .nilCheck x| .unOp _ _ x| .convert _ _ x| .fieldAddr _ x _| .field _ x _| .extract x _=>[x]
 | .pick c a b=>[c,a,b]
 | .build _ ps| .buildSlice _ _ ps=>ps.toList.map (·.2)
 | .store _ a v| .binOp _ _ a v _| .makeSlice _ a v| .indexAddr _ a v| .index _ a v=>[a,v]
 | .slice _ x l h m=>[x]++l.toList++h.toList++m.toList
 | .makeFunc _ _ cs=>cs.toList
 | .call c=>c.operands.toList
 |_=>[]
def cJ (v:ai):Out iv:= .ret (v,[])
def eV (cs:List ai) (off:Nat) (new:List ai):List ai:=cs.take off++new++cs.drop (off+new.length)
def SS (op:BinOp) (k:IntKind) (x y:Int):Out iv:=
 match op with
 | .add=>cJ (.i k (k.wrap (x+y)))
 | .sub=>cJ (.i k (k.wrap (x - y)))
 | .mul=>cJ (.i k (k.wrap (x*y)))
 | .quo=> .ite (y==0) .fail (cJ (.i k (k.wrap (x.tdiv y))))
 | .rem=> .ite (y==0) .fail (cJ (.i k (x.tmod y)))
 | .and=>cJ (.i k (k.wrap (BitVec.ofInt k.bits x &&& BitVec.ofInt k.bits y).toNat))
 | .or=>cJ (.i k (k.wrap (BitVec.ofInt k.bits x ||| BitVec.ofInt k.bits y).toNat))
 | .xor=>cJ (.i k (k.wrap (BitVec.ofInt k.bits x ^^^ BitVec.ofInt k.bits y).toNat))
 | .andNot=>cJ (.i k (k.wrap (BitVec.ofInt k.bits x &&& ~~~(BitVec.ofInt k.bits y)).toNat))
 | .eql=>cJ (.b (x==y))
 | .neq=>cJ (.b (x != y))
 | .lss=>cJ (.b (decide (x<y)))
 | .leq=>cJ (.b (decide (x≤y)))
 | .gtr=>cJ (.b (decide (x>y)))
 | .geq=>cJ (.b (decide (x≥y)))
 |_=> .fail
def H6 (op:BinOp) (k:IntKind) (x y:Int):Out iv:=
 match op with
 | .shl=> .ite (decide (y<0)) .fail (cJ (.i k (k.wrap (x*2 ^ (min y.toNat k.bits)))))
 | .shr=> .ite (decide (y<0)) .fail (cJ (.i k (x.fdiv (2 ^ (min y.toNat k.bits)))))
 |_=> .fail
def SU (op:BinOp) (x y:List UInt8):Out iv:=
 match op with
 | .add=> .ite (decide (x.length+y.length≤bV)) (cJ (.s (x++y))) .fail
 | .eql=>cJ (.b (x==y))
 | .neq=>cJ (.b (x != y))
 | .lss=>cJ (.b (Op.bytesLess x y))
 | .leq=>cJ (.b (Op.bytesLess x y||x==y))
 | .gtr=>cJ (.b (!(Op.bytesLess x y||x==y)))
 | .geq=>cJ (.b (!(Op.bytesLess x y)))
 |_=> .fail
def FM:Ty→ai→ai→Option Bool
 | .bool, .b x, .b y=>some (x==y)
 | .int k, .i k1 x, .i k2 y=>if k1=k∧k2=k then some (x==y) else none
 | .str, .s x, .s y=>some (x==y)
 |_,_,_=>none
def aI.Y6:aI→List ai→List ai→Option Bool
 | .nil,[],[]=>some true
 | .cons t ts,x::r,y::q=>(FM t x y).bind fun b=>(ts.Y6 r q).map fun z=>b&&z
 |_,_,_=>none
def Ty.Y6:Ty→List ai→List ai→Option Bool
 | .st fs,x,y=>fs.Y6 x y
 |_,_,_=>none
def FN:BinOp→Bool
 | .shl| .shr=>true
 |_=>false
def MV:Option Ty→Bool
 |some .bool=>true
 |_=>false
def aeD (t:Option Ty) (op:BinOp) (x y:ai):Out iv:=
 match x,y with
 | .i k a, .i k' b=>if FN op=true then H6 op k a b else if k=k' then SS op k a b else .fail
 | .s a, .s b=>SU op a b
 | .b a, .b b=>if MV t=true then
   match op with
   | .eql=>cJ (.b (a==b))
   | .neq=>cJ (.b (!(a==b)))
   |_=> .fail else .fail
 |_,_=> .fail
def H7 (op:BinOp) (z:Bool):Out iv:=
 match op with
 | .eql=>cJ (.b z)
 | .neq=>cJ (.b (!z))
 |_=> .fail
def unD (op:UnOp) (x:ai):Out iv:=
 match op,x with
 | .not, .b a=>cJ (.b (!a))
 | .neg, .i k a=>cJ (.i k (k.wrap (0 - a)))
 |_,_=> .fail
def Cb (E:Env):ai→Option Nat
 | .ro _ xs _=>some xs.length
 | .ni=>some 0
 | .cN id none=>
   match E id with
   |some (.arr _ xs)=>some xs.length
   |some (.AW _ xs _ _ _ _ _)=>some xs.length
   |some (.vG _ xs _ _)=>some xs.length
   |some (.cut _ ys k)=>some (k+ys.length)
   |_=>none
 | .cN _ (some (_,l))=>some l
 |_=>none
def aeE (E:Env) (t:Ty) (x:ai):Option Nat:=
 match t,x with
 | .str, .s x=>some x.length
 | .sl _,x=>Cb E x
 |_,_=>none
def nU (E:Env) (id:Nat):Option Nat:=
 match E id with
 |some (.arr e _)=>some e.size
 |some (.AW e _ _ _ _ _ _)=>some e.size
 |some (.vG e _ _ _)=>some e.size
 |some (.cut e _ _)=>some e.size
 |_=>none
def Kf (E:Env) (es:Nat) (x:ai) (n:Int):Out iv:=
 match x with
 | .ro e xs _=>if e.size=es then .ite (decide (0≤n)) (.get (nth xs n.toNat) fun y=>cJ (.BR e y 0)) .fail else .fail
 | .cN id none=>
   .of (Cb E (.cN id none)) fun l=>if nU E id=some es then .ite (decide (0≤n∧n<(l:Int))) (cJ (.jL id n.toNat 0)) .fail else .fail
 | .cN id (some (o,l))=>if nU E id=some es then .ite (decide (0≤n∧n<(l:Int))) (cJ (.jL id (o+n.toNat) 0)) .fail else .fail
 |_=> .fail
def news (l:List (Nat×bQ)):oe:=l.map fun x=>(x.1,some x.2)
def SV (E:Env) (t:Ty) (id i off fr:Nat) (v:bQ):Out iv:=
 .of (ik E v) fun ex=> .get (nth ex.2 i) fun x=> .of (ex.1.cF x off (ex.1.dg off t)) fun y=>
  match ex.1.dg off t,y with
  | .sl e',y=> .ret (.cN fr none,((bG v).map fun k=>(k,none))++[(id,some (.AW ex.1 ex.2 x i off (.sl e') fr)),(fr,some (.arr e' y))])
  |t,y=>cJ (mO t (t.jF y))
def aaC (E:Env) (k:Nat) (t:Ty) (id i off fr:Nat) (v:bQ):Out iv:=
 match k,v with
 |0, .vG _ _ j cs=>if off+t.size≤cs.length then .ite (i==j) (cJ (mO t ((cs.drop off).take t.size))) .fail else .fail
 |1,v=> .of (ik E v) fun ex=> .get (nth ex.2 i) fun x=>
  if off+t.size≤ex.1.size∧(ex.1.bP x fr).2.2≤fr+64 then
   .ret (mO t (((ex.1.bP x fr).1.drop off).take t.size),((bG v).map fun k=>(k,none))++([(id,some (.vG ex.1 ex.2 i (ex.1.bP x fr).1))]++news (ex.1.bP x fr).2.1))
  else .fail
 |_,v=>SV E t id i off fr v
def AX (E:Env) (k:Nat) (t:Ty) (a:ai) (fr:Nat):Out iv:=
 match a with
 | .vptr id off=>
   match E id with
   |some (.var cs)=>if off+t.size≤cs.length then cJ (mO t ((cs.drop off).take t.size)) else .fail
   |_=> .fail
 | .BR t' x off=> .of (t'.cF x off (t'.dg off t)) fun y=>cJ (mO (t'.dg off t) ((t'.dg off t).jE y))
 | .jL id i off=> .of (E id) fun v=>aaC E k t id i off fr v
 |_=> .fail
def Y7 (E:Env):bQ→Bool
 | .AW _ _ _ _ _ _ id=>(E id).isNone
 |_=>false
def bQ.dg (off:Nat) (t:Ty):bQ→Ty
 | .arr e _=>e.dg off t
 | .AW e _ _ _ _ _ _=>e.dg off t
 | .vG e _ _ _=>e.dg off t
 |_=>t
def SW (E:Env) (t:Ty) (id i off:Nat) (w:bQ) (v:ai):Out iv:=
    .of (zz E t v.cells) fun y=>if y.2.contains id=true∨v.cells.all ai.bC=false then .fail else
    if y.2.any (fun k=>(bG w).contains k)=true∨Y7 E w=true then
     match w with
     | .AW e xs _ j vJ u _=>if off=vJ∧t.beq u=true then
      .ite (i==j) (.get (nth xs i) fun x=> .of (e.cK x off t y.1) fun x'=> .ret (.undef,(y.2.map fun k=>(k,none))++[(id,some (.arr e (xs.set i x')))])) .fail else .fail
     |_=> .fail
    else .of (ik E w) fun ex=> .get (nth ex.2 i) fun x=> .of (ex.1.cK x off t y.1) fun x'=>
     .ret (.undef,((bG w++y.2).map fun k=>(k,none))++[(id,some (.arr ex.1 (ex.2.set i x')))])
def SX (E:Env) (k:Nat) (t:Ty) (id i off:Nat) (w:bQ) (v:ai):Out iv:=
 match k,w with
 |0, .vG e xs j cs=>
  if off+t.size≤cs.length∧v.cells.length=t.size∧v.cells.all ai.bC=true then .ite (i==j) (.ret (.undef,[(id,some (.vG e xs j (eV cs off v.cells)))])) .fail else .fail
 |_,w=>SW E (w.dg off t) id i off w v
def AY (E:Env) (k:Nat) (t:Ty) (a v:ai):Out iv:=
 match a with
 | .vptr id off=>
   match E id with
   |some (.var cs)=>
    if off+t.size≤cs.length∧v.cells.length=t.size∧v.cells.all ai.bC=true then .ret (.undef,[(id,some (.var (eV cs off v.cells)))]) else .fail
   |_=> .fail
 | .jL id i off=> .of (E id) fun w=>SX E k t id i off w v
 |_=> .fail
def aeF:ai→Option Bool
 | .b x=>some x
 |_=>none
def mi:ai→Option Int
 | .i _ x=>some x
 |_=>none
def SY (l:List UInt8) (lo hi:Option Int):Out iv:=
 let nm:=lo.getD 0
 match hi with
 |none=> .ite (decide (0≤nm∧nm≤(l.length:Int))) (cJ (.s (l.drop nm.toNat))) .fail
 |some h=> .ite (decide (0≤nm∧nm≤h∧h≤(l.length:Int))) (cJ (.s ((l.take h.toNat).drop nm.toNat))) .fail
def SZ (E:Env) (es:Nat) (x:ai) (lo hi:Option Int):Out iv:=
 let nm:=lo.getD 0
 match x with
 | .ro e l _=>if e.size=es then
   match hi with
   |none=> .ite (decide (0≤nm∧nm≤(l.length:Int))) (cJ (.ro e (l.drop nm.toNat) none)) .fail
   |some h=> .ite (decide (0≤nm∧nm≤h∧h≤(l.length:Int))) (cJ (.ro e ((l.take h.toNat).drop nm.toNat) none)) .fail
   else .fail
 | .cN id vw=>
   .of (Cb E (.cN id vw)) fun n=>if nU E id=some es then
    .ite (decide (0≤nm∧nm≤hi.getD n∧hi.getD n≤(n:Int))) (cJ (.cN id (some ((vw.map (·.1)).getD 0+nm.toNat,(hi.getD n).toNat - nm.toNat)))) .fail
    else .fail
 |_=> .fail
def FO (E:Env) (t:Ty) (x:ai) (lo hi:Option Int):Out iv:=
 match t,x with
 | .str, .s x=>SY x lo hi
 | .sl e,x=>SZ E e.size x lo hi
 |_,_=> .fail
def S0 (E:Env) (e:Ty):ai→Option (List e.D)
 | .ni=>some []
 | .ro e' xs _=>Ty.AV (.sl e') (.sl e) xs
 | .cN id none=>
   match E id with
   |some (.arr e' xs)=>Ty.cast (.sl e') (.sl e) xs
   |_=>none
 | .cN id (some (o,l))=>
   match E id with
   |some (.arr e' xs)=>(Ty.cast (.sl e') (.sl e) xs).map fun (ys:List e.D)=>(ys.drop o).take l
   |_=>none
 |_=>none
def FP (E:Env) (e:Ty):ai→Option (List Nat×Nat×Nat×Nat×Nat×List e.D)
 | .cN id (some (o,l))=>
   match E id with
   |some (.cut e' xs k)=>(Ty.cast (.sl e') (.sl e) xs).map fun ys=>([],id,o,l,k,ys)
   |some v=>(ik E v).bind fun ex=>(Ty.cast (.sl ex.1) (.sl e) ex.2).map fun ys=>(bG v,id,o,l,0,ys)
   |none=>none
 |_=>none
def FQ (E:Env) (e:Ty) (x y:ai) (fr:Nat):Out iv:=
 .of (iS E e x) fun a=>
  match e.flat,y with
  |true,y=> .of (tU E e y) fun b=>if y.ids.any (a.2.contains ·)=true then .fail else
   .ite (decide (List.length a.1+List.length b≤bV)) (.ret (.cN fr none,(a.2.map fun k=>(k,none))++[(fr,some (.arr e (a.1++b)))])) .fail
  |false,y=>if e.ng=true then
    .of (S0 E e y) fun b=>if y.ids.any (a.2.contains ·)=true then .fail else
     .ite (decide (List.length a.1+List.length b≤bV)) (.ret (.cN fr none,(a.2.map fun k=>(k,none))++[(fr,some (.arr e (a.1++b)))])) .fail
   else
    match FP E e y with
    |some p=>if (p.2.1::p.1).any (a.2.contains ·)=true then .fail else
     .ite (decide (p.2.2.2.2.1≤p.2.2.1∧List.length a.1+p.2.2.2.1≤bV)) (.ret (.cN fr none,((a.2++(p.2.1::p.1)).map fun k=>(k,none))++[(fr,some (.arr e (a.1++(p.2.2.2.2.2.drop (p.2.2.1 - p.2.2.2.2.1)).take p.2.2.2.1))),(p.2.1,some (.cut e (p.2.2.2.2.2.drop (p.2.2.1 - p.2.2.2.2.1+p.2.2.2.1)) (p.2.2.1+p.2.2.2.1)))])) .fail
    |none=> .of (iS E e y) fun b=>if b.2.any (a.2.contains ·)=true then .fail else
     .ite (decide (List.length a.1+List.length b.1≤bV)) (.ret (.cN fr none,((a.2++b.2).map fun k=>(k,none))++[(fr,some (.arr e (a.1++b.1)))])) .fail
def Ty.isInt:Ty→Bool
 | .int _=>true
 |_=>false
def FR (E:Env) (e:Ty) (x y:ai) (fr:Nat):Out iv:=
 match y with
 | .i _ n=> .of (iS E e x) fun a=> .ite (decide (0≤n∧List.length a.1+n.toNat≤bV)) (.ret (.cN fr none,(a.2.map fun k=>(k,none))++[(fr,some (.arr e (a.1++List.replicate n.toNat e.zero)))])) .fail
 |_=> .fail
def S1 (E:Env) (e:Ty) (x y:ai):Out iv:=
 match x with
 | .cN id vw=>if e.flat=true then
    .of (E id) fun v=> .of (ik E v) fun ex=> .of (Ty.cast (.sl ex.1) (.sl e) ex.2) fun (xs:List e.D)=> .of (tU E e y) fun (ys:List e.D)=>
     .ret (.i .i64 ((min ((vw.map (·.2)).getD xs.length) ys.length:Nat):Int),((bG v).map fun k=>(k,none))++[(id,some (.arr e
      (xs.take ((vw.map (·.1)).getD 0)++ys.take (min ((vw.map (·.2)).getD xs.length) ys.length)++xs.drop ((vw.map (·.1)).getD 0+min ((vw.map (·.2)).getD xs.length) ys.length))))])
   else .fail
 |_=> .fail
def oV (t:Ty) (ev:Operand→ai):List (Nat×Operand)→List ai→Option (List ai)
 |[],cs=>some cs
 |(k,x)::r,cs=>
  match t.field k with
  |some (off,u)=>if (ev x).cells.length=u.size∧(ev x).cells.all ai.bC=true then oV t ev r (eV cs off (ev x).cells) else none
  |none=>none
def j3 (E:Env) (e:Ty) (ev:Operand→ai):List (Nat×Operand)→List e.D→List Nat→Option (List e.D×List Nat)
 |[],xs,g=>some (xs,g)
 |(k,x)::r,xs,g=>if xs.length≤k∨(ev x).cells.all ai.bC=false then none else
  (zz E e (ev x).cells).bind fun y=>if y.2.any (g.contains ·)=true then none else j3 E e ev r (xs.set k y.1) (g++y.2)
def tV:Ty→Option Ty
 | .sl e=>some e
 |_=>none
def MW:Option Ty→Bool
 |some (.sl (.int .u8))=>true
 |_=>false
def S3 (C:Cx) (E:Env) (src dst:Nat) (x:ai):Out iv:=
 .of (C.ty dst) fun t=>
  match t,x with
  | .int k, .i _ n=>if (C.ty src).isSome=true then cJ (.i k (k.wrap n)) else .fail
  | .str, .s l=>if (C.ty src).isSome=true then cJ (.s l) else .fail
  | .str,x=>if MW (C.ty src)=true then .of (tU E (.int .u8) x) fun (l:List Int)=>cJ (.s (l.map fun n=>UInt8.ofNat n.toNat)) else .fail
  |_,_=> .fail
def S4 (C:Cx) (ty:Nat) (x:ai) (fr:Nat):Out iv:=
 match x with
 | .ni=>
   match (C.ty ty).bind tV with
   |some e=> .ret (.cN fr none,[(fr,some (.arr e []))])
   |none=>cJ .ni
 |x=>cJ x
def Df:oe→Nat→Option bQ
 |[],_=>none
 |(k,x)::r,id=>
  match Df r id with
  |some y=>some y
  |none=>if k=id∧(r.all fun z=>z.1 != id)=true then x else none
def S5 (E:Env) (x:ai):Out iv:=
 match x with
 | .vptr id 0=>
   match E id with
   |some (.it s p)=> .ite (decide (p<s.length)) (.get (nth s p) fun b=> .ite (decide (b.toNat<128)) (.ret (.H5 [.b true, .i .i64 (p:Int), .i .i32 (b.toNat:Int)],[(id,some (.it s (p+1)))])) .fail) (cJ (.H5 [.b false]))
   |_=> .fail
 |_=> .fail
def aeG (E:Env) (r:iv):Out iv:=
 match r with
 |(.jL id i off,[])=>
  match E id with
  |some (.arr e xs)=> .of (Ty.AV (.sl e) (.sl e.BQ) xs) fun (ys:List e.BQ.D)=> .ret (.jL id i off,[(id,some (.arr e.BQ ys))])
  |_=> .fail
 |_=> .fail
def FT (E:Env) (k:Nat) (t:Ty) (a v:ai):Out iv:=
 if k=6 then
  match v with
  | .cN id none=>
    match E id with
    |some (.arr e xs)=>(AY (fun j=>if j=id then none else E j) k t a (.ro e xs none)).bind fun r=> .ret (r.1,(id,none)::r.2)
    |_=> .fail
  |_=> .fail
 else AY E k t a v
def aii (E:Env) (k:Nat) (o:Out iv):Out iv:=if k=4 then o.bind (aeG E) else o
def core0 (C:Cx) (op:Op) (ty:Nat) (ev:Operand→ai) (E:Env) (fr:Nat):Out iv:=
 match op with
 | .move x| .assign x=>S4 C ty (ev x) fr
 | .pick c a b=> .of (aeF (ev c)) fun x=> .ite x (cJ (ev a)) (cJ (ev b))
 | .alloc t=> .of (C.ty t) fun t=>if (t.bP t.zero (fr+1)).2.2≤fr+64 then
   .ret (.vptr fr 0,news (t.bP t.zero (fr+1)).2.1++[(fr,some (.var (t.bP t.zero (fr+1)).1))]) else .fail
 | .box t x=> .of (C.ty t) fun t=>if (ev x).cells.length=t.size∧(ev x).cells.all ai.bC=true then .ret (.vptr fr 0,[(fr,some (.var (ev x).cells))]) else .fail
 | .build t ps=> .of (C.ty t) fun t=>if t.j2=true∧(t.bP t.zero fr).2.2≤fr+64 then
   .of (oV t ev ps.toList (t.bP t.zero fr).1) fun cs=> .ret (.agg cs,news (t.bP t.zero fr).2.1) else .fail
 | .buildSlice t n ps=> .of (C.ty t) fun t=> .of (tV t) fun e=>if n*e.size≤16777216 then
  .of (j3 E e ev ps.toList (List.replicate n e.zero) []) fun y=> .ret (.cN fr none,(y.2.map fun k=>(k,none))++[(fr,some (.arr e y.1))]) else .fail
 | .load t a=> .of (C.ty t) fun t=>AX E (C.ZQ (fr / 64)) t (ev a) fr
 | .store t a v=> .of (C.ty t) fun t=>FT E (C.ZQ (fr / 64)) t (ev a) (ev v)
 | .nilCheck x=>
   match ev x with
   | .vptr id off=>cJ (.vptr id off)
   | .jL id i off=>cJ (.jL id i off)
   | .BR t x off=>cJ (.BR t x off)
   |_=> .fail
 | .binOp op t x (.const .nilIface) _=>
   match ev x with
   | .er b=>if C.eqv (t+Uv)=true then H7 op b else .fail
   |_=> .fail
 | .binOp op t x y _=>
   match ev x,ev y with
   | .agg a, .agg b=> .of (C.ty t) fun ty=>if C.eqv t=true∧t<Uv then
    .of (ty.Y6 a b) fun z=>H7 op z else .fail
   |a,b=>aeD (C.ty t) op a b
 | .unOp op _ x=>unD op (ev x)
 | .convert src d x=>S3 C E src d (ev x)
 | .fieldAddr t x k=> .of (C.ty t) fun t=> .of (t.field k) fun f=>
   match ev x with
   | .vptr id off=>cJ (.vptr id (off+f.1))
   | .jL id i off=>cJ (.jL id i (off+f.1))
   | .BR t x off=>cJ (.BR t x (off+f.1))
   |_=> .fail
 | .field t x k=> .of (C.ty t) fun t=> .of (t.field k) fun f=>
   match ev x with
   | .agg cs=>if f.1+f.2.size≤cs.length then cJ (mO f.2 ((cs.drop f.1).take f.2.size)) else .fail
   |_=> .fail
 | .indexAddr t x n=>aii E (C.ZQ (fr / 64)) (.of (C.ty t) fun t=> .of (tV t) fun e=> .of (mi (ev n)) fun n=>Kf E e.size (ev x) n)
 | .index t x n=> .of (C.ty t) fun t=> .of (mi (ev n)) fun n=>
   match t,ev x with
   | .str, .s l=> .ite (decide (0≤n)) (.get (nth l n.toNat) fun c=>cJ (.i .u8 (c.toNat:Int))) .fail
   |_,_=> .fail
 | .extract x k=>
   match ev x with
   | .H5 vs=> .of vs[k]? fun v=>cJ v
   |_=> .fail
 | .makeSlice t l c=> .of (C.ty t) fun t=> .of (tV t) fun e=> .of (mi (ev l)) fun n=> .of (mi (ev c)) fun m=>
  .ite (decide (0≤n∧n≤m∧m≤(bV:Int))) (.ret (.cN fr none,[(fr,some (.arr e (List.replicate n.toNat e.zero)))])) .fail
 | .slice t x lo hi none=> .of (C.ty t) fun t=>
   match lo.map fun z=>mi (ev z),hi.map fun z=>mi (ev z) with
   |some none,_=> .fail
   |_,some none=> .fail
   |l,h=>FO E t (ev x) (l.bind id) (h.bind id)
 | .range t x=> .of (C.ty t) fun t=>
   match t,ev x with
   | .str, .s l=> .ret (.vptr fr 0,[(fr,some (.it l 0))])
   |_,_=> .fail
 | .next x true=>S5 E (ev x)
 | .makeFunc (.func f) first cs=>if first.size=0 then cJ (.fn f (cs.toList.map ev)) else .fail
 | .call { callee:= .builtin .len,args,argTypes }=>
   match args.toList,argTypes.toList with
   |[x],[t]=> .of (C.ty t) fun t=> .of (aeE E t (ev x)) fun n=>cJ (.i .i64 (n:Int))
   |_,_=> .fail
 | .call { callee:= .builtin .append,args,argTypes }=>
   match args.toList,argTypes.toList with
   |[x,y],[t,t']=>if t=t' then .of (C.ty t) fun t=> .of (tV t) fun e=>FQ E e (ev x) (ev y) fr else .of (C.ty t) fun t=> .of (tV t) fun e=> .of (C.ty t') fun t'=>if t'.isInt=true then FR E e (ev x) (ev y) fr else .fail
   |_,_=> .fail
 | .call { callee:= .builtin .copy,args,argTypes }=>
   match args.toList,argTypes.toList with
   |[x,y],[t,_]=> .of (C.ty t) fun t=> .of (tV t) fun e=>S1 E e (ev x) (ev y)
   |_,_=> .fail
 | .call { callee:= .value (.func f),args, .. }=>C.call f (args.toList.map ev) E fr
 | .call { callee:= .value (.tmp f),args, .. }=>
   match ev (.tmp f) with
   | .fn g oU=>C.call g (args.toList.map ev++oU) E fr
   |_=> .fail
 |_=> .fail
def AZ (m i:Nat) (d:ai) (u:oe):Option (ai×oe):=
 match d with
 | .cN id none=>if m=0∨m.testBit i=true then
    match Df u id with
    |some (.arr e xs)=>some (.ro e xs none,u++[(id,none)])
    |_=>none
   else some (.cN id none,u)
 |d=>some (d,u)
def MX (m:Nat):Nat→List ai→oe→Option (List ai×oe)
 |_,[],u=>some ([],u)
 |i,d::r,u=>(AZ m i d u).bind fun q=>(MX m (i+1) r q.2).map fun p=>(q.1::p.1,p.2)
def S6 (m i:Nat) (d:ai) (u:oe):Option (ai×oe):=
 match d with
 | .agg ds=>(MX m i ds u).map fun q=>(.agg q.1,q.2)
 |d=>AZ m i d u
def MY (m:Nat):Nat→List ai→oe→Option (List ai×oe)
 |_,[],u=>some ([],u)
 |i,d::r,u=>(S6 m i d u).bind fun q=>(MY m (i+d.cells.length) r q.2).map fun p=>(q.1::p.1,p.2)
def aij (m:Nat) (d:ai) (u:oe):Option (ai×oe):=
 match d with
 | .H5 ds=>(MY m 0 ds u).map fun q=>(.H5 q.1,q.2)
 |d=>S6 m 0 d u
def aik (m:Nat) (r:iv):Out iv:= .of (aij m r.1 r.2) fun q=> .ret q
def core (C:Cx) (op:Op) (ty:Nat) (ev:Operand→ai) (E:Env) (fr:Nat):Out iv:=
 if C.frz (fr / 64)=true then (core0 C op ty ev E fr).bind (aik (C.ZQ (fr / 64))) else core0 C op ty ev E fr
end
section
open Go
structure dL where
 t:List ai
 v:List (Nat×bQ)
 w:List (Nat×bQ):=[]
 k:List Nat
 kn:List (Nat×Bool)
structure lx where
 t:Nat→ai
 v:Nat→Option bQ
 k:Nat→Prop
def bs:List (Nat×bQ)→Nat→Option bQ
 |[],_=>none
 |(k,x)::r,id=>if k=id then some x else bs r id
def xu:List (Nat×bQ)→Nat→List (Nat×bQ)
 |[],_=>[]
 |(k,x)::r,id=>if k=id then xu r id else (k,x)::xu r id
def S7:List (Nat×bQ)→Nat→bQ→List (Nat×bQ)
 |[],id,y=>[(id,y)]
 |(k,x)::r,id,y=>if k=id then (k,y)::r else (k,x)::S7 r id y
def Cc (v:List (Nat×bQ)):oe→List (Nat×bQ)
 |[]=>v
 |(id,some x)::r=>Cc (S7 v id x) r
 |(id,none)::r=>Cc (xu v id) r
def dL.env (s:dL):Nat→Option bQ:=bs (s.v++s.w)
def dL.f (s:dL):lx:={ t:=fun j=>s.t.getD j .dead,v:=s.env,k:=fun id=>id / 64∈s.k }
def dL.free (s:dL) (u:oe):Bool:=u.all fun x=> !(s.w.map (·.1)).contains x.1
def fj (t:Nat→ai):Operand→ai
 | .tmp j=>t j
 | .const v=>ofValue v
 | .func f=> .fn f []
 | .global _=> .dead
def S8 (v:Env) (id:Nat):List Nat:=
 match v id with
 |some x=>x.ids
 |none=>[]
def cl (v:Env) (l:List Nat):List Nat:=l++l.flatMap (S8 v)
def tids (op:Op) (t:Nat→ai) (v:Env):List Nat:=cl v (cl v (cl v ((qq op).flatMap fun x=>(fj t x).ids)))
def pE (T:List Nat) (v:Env):Env:=fun id=>if T.contains id=true then v id else none
def makes (g:Nat) (u:oe):Bool:=u.any fun x=>x.1 / 64==g
def S9 (T:List Nat) (g:Nat) (mk:Bool) (id:Nat):Bool:=T.contains id||(mk&&id / 64==g)
def aaD (T:List Nat) (g:Nat) (mk:Bool) (x:Nat×Option bQ):Bool:=
 S9 T g mk x.1&&(match x.2 with|some y=>y.ids.all (S9 T g mk)|none=>true)
def MZ (T:List Nat) (g:Nat) (r:iv):Bool:=
 r.1.ids.all (S9 T g (makes g r.2))&&r.2.all (aaD T g (makes g r.2))
def Dg (t:List ai) (dst:Option Nat):Bool:=
 match dst with
 |some d=>decide (d<t.length)
 |none=>true
def H8 (t:List ai) (dst:Option Nat) (v:ai):List ai:=
 match dst with
 |some d=>t.set d v
 |none=>t
def M0 (kn:List (Nat×Bool)) (dst:Option Nat):List (Nat×Bool):=
 match dst with
 |some d=>kn.filter fun x=>x.1 != d
 |none=>kn
def il:List (Nat×Bool)→Nat→Option Bool
 |[],_=>none
 |(j,b)::r,d=>if j=d then some b else il r d
def Kg (kn:List (Nat×Bool)):Operand→Option Bool
 | .const (.bool b)=>some b
 | .tmp d=>il kn d
 |_=>none
def opK (kn:List (Nat×Bool)):Op→Op
 | .pick c a b=>
   match Kg kn c with
   |some true=> .move a
   |some false=> .move b
   |none=> .pick c a b
 |op=>op
def Ta (kn:List (Nat×Bool)) (dst:Option Nat):Op→List (Nat×Bool)
 | .move x| .assign x=>
   match dst,Kg kn x with
   |some d,some b=>[(d,b)]
   |_,_=>[]
 | .unOp .not _ x=>
   match dst,Kg kn x with
   |some d,some b=>[(d, !b)]
   |_,_=>[]
 |_=>[]
structure Log where
 i:Nat
 g:Nat
 mkd:Bool
 dst:Option Nat
 reads:List Nat
 T:List Nat
 R:List Nat
 U:List Nat
def tmpsOf:List Operand→List Nat
 |[]=>[]
 | .tmp j::r=>j::tmpsOf r
 |_::r=>tmpsOf r
def vK (ops:List Oper) (g:Option (Nat×Bool)):List Nat:=
 match g with
 |some (j,_)=>((ops[j]?).bind (·.dst)).toList
 |none=>[]
def Tb (T:List Nat) (t:Operand→ai):Op→List Nat
 | .move _=>[]
 | .assign _=>[]
 | .fieldAddr _ _ _=>[]
 | .nilCheck _=>[]
 | .field _ _ _=>[]
 | .extract _ _=>[]
 | .load _ x=>
   match t x with
   | .vptr id _=>T.filter (· ==id)
   |_=>T
 |_=>T
def A0 (C:Cx) (ops:List Oper) (g:Nat) (i:Nat) (o:Oper) (s:dL):Out (dL×Log):=
 let op:=opK s.kn o.op
 let T:=tids op (fun j=>s.t.getD j .dead) s.env
 (core C op o.type (fj fun j=>s.t.getD j .dead) (pE T s.env) (g*64)).bind fun r=>
  if MZ T g r=true∧s.k.contains g=false∧Dg s.t o.dst=true∧s.free r.2=true then
   .ret ({ t:=H8 s.t o.dst r.1,v:=Cc s.v r.2,w:=s.w,k:=if makes g r.2=true then g::s.k else s.k,kn:=Ta s.kn o.dst op++M0 s.kn o.dst },
    { i,g,mkd:=makes g r.2,dst:=o.dst,reads:=tmpsOf (qq o.op)++vK ops o.guard,T,R:=Tb T (fj fun j=>s.t.getD j .dead) op,U:=r.2.map (·.1) })
  else .fail
def A1 (ops:List Oper) (g:Nat) (i:Nat) (o:Oper) (s:dL):Out (dL×Log):=
 if Dg s.t o.dst=true then
  .ret ({ s with t:=H8 s.t o.dst .undef,kn:=M0 s.kn o.dst },{ i,g,mkd:=false,dst:=o.dst,reads:=vK ops o.guard,T:=[],R:=[],U:=[] })
 else .fail
def opL (C:Cx) (ops:List Oper) (g:Nat) (i:Nat) (o:Oper) (s:dL):Out (dL×Log):=
 match o.guard with
 |none=>A0 C ops g i o s
 |some (j,want)=>
  match (ops[j]?).bind (·.dst) with
  |none=> .fail
  |some d=>
   match il s.kn d with
   |some b=>if b=want then A0 C ops g i o s else A1 ops g i o s
   |none=>
    match s.t.getD d .dead with
    | .b c=> .ite (c==want) (A0 C ops g i o { s with t:=s.t.set d (.b want),kn:=(d,want)::s.kn })
     (A1 ops g i o { s with t:=s.t.set d (.b !want),kn:=(d, !want)::s.kn })
    | .undef=>A1 ops g i o s
    |_=> .fail
def oW (C:Cx) (ops:List Oper) (base:Nat):List (Nat×Oper)→dL→List Log→Out (dL×List Log)
 |[],s,log=> .ret (s,log)
 |(i,o)::r,s,log=>(opL C ops (base+i) i o s).bind fun x=>oW C ops base r x.1 (x.2::log)
def bits (l:List Nat) (after:List Edge):Nat:=
 after.foldl (fun s e=>if Region.binds .any e then s ||| 2 ^ e.on ||| l.getD e.on 0 else s) 0
def ft:List Oper→List Nat→List Nat
 |[],acc=>acc
 |o::r,acc=>ft r (acc++[bits acc o.after.toList])
def Tc (a b:List Nat):Bool:=a.all fun x=> !b.contains x
def indep (a b:Log):Bool:=
 Tc a.dst.toList (b.reads++b.dst.toList)&&Tc b.dst.toList a.reads&&Tc a.U (b.R++b.U)&&Tc b.U a.R&&
 (!a.mkd||b.T.all fun id=>id / 64 != a.g)
def vL (B:List Nat):List Log→Bool
 |[]=>true
 |b::r=>r.all (fun a=>(B.getD b.i 0).testBit a.i||indep a b)&&vL B r
def Dh (n:Nat):List Oper→Bool
 |[]=>true
 |o::r=>o.after.toList.all (fun e=> !Region.binds .any e||decide (e.on<n))&&Dh (n+1) r
def region (C:Cx) (id:Nat) (ops:List Oper) (draw:Bool) (s:dL):Out dL:=
 (oW C ops (id*256+1) (ops.zipIdx.map fun x=>(x.2,x.1)) s []).bind fun x=>
  if draw=true∧(vL (ft ops []) x.2=false∨Dh 0 ops=false) then .fail else .ret x.1
inductive Ex where
 |normal
 |ret
 |exit (id:Nat)
def vM (id:Nat) (r:Ex×dL):Ex×dL:=
 match r.1 with
 | .exit n=>if n=id then (.normal,r.2) else r
 |_=>r
inductive Slot where
 |dead
 |jD
 |b
 |i (k:IntKind)
 |s
 |ro (e:Ty) (tk:Option Nat)
 |aP (id:Nat)
 |srv (id:Nat)
 |vptr (id off:Nat)
 |jL (id off:Nat)
 |BR (t:Ty) (off:Nat)
 |fn (f:Nat) (ids:List Nat)
 |kp (n:Nat)
 |keep
inductive dT where
 |var (cs:List Slot)
 |arr (e:Ty)
 |it
def M1:Slot→Type→Type
 | .b,T=>Bool×T
 | .i _,T=>Int×T
 | .s,T=>List UInt8×T
 | .ro e _,T=>List e.D×T
 | .jL _ _,T=>Nat×T
 | .srv _,T=>(Nat×Nat)×T
 | .BR t _,T=>t.D×T
 |_,T=>T
def Di (T:Type):(x:Slot)→M1 x T→ai×T
 | .b,y=>(.b y.1,y.2)
 | .i k,y=>(.i k y.1,y.2)
 | .s,y=>(.s y.1,y.2)
 | .ro e tk,y=>(.ro e y.1 tk,y.2)
 | .jL id off,y=>(.jL id y.1 off,y.2)
 | .srv id,y=>(.cN id (some y.1),y.2)
 | .BR t off,y=>(.BR t y.1 off,y.2)
 | .dead,y=>(.dead,y)
 | .jD,y=>(.jD,y)
 | .aP id,y=>(.cN id none,y)
 | .vptr id off,y=>(.vptr id off,y)
 | .fn f ids,y=>(.fn f (ids.map fun id=> .vptr id 0),y)
 | .kp n,y=>(.kp n,y)
 | .keep,y=>(.dead,y)
def kZ:List Slot→Type
 |[]=>Unit
 |x::r=>M1 x (kZ r)
def fU:(l:List Slot)→kZ l→List ai
 |[],_=>[]
 |x::r,y=>(Di (kZ r) x y).1::fU r (Di (kZ r) x y).2
def oX:List (Nat×dT)→Type
 |[]=>Unit
 |(_, .var cs)::r=>kZ cs×oX r
 |(_, .arr e)::r=>List e.D×oX r
 |(_, .it)::r=>(List UInt8×Nat)×oX r
def dY:(l:List (Nat×dT))→oX l→List (Nat×bQ)
 |[],_=>[]
 |(id, .var cs)::r,x=>(id, .var (fU cs x.1))::dY r x.2
 |(id, .arr e)::r,x=>(id, .arr e x.1)::dY r x.2
 |(id, .it)::r,x=>(id, .it x.1.1 x.1.2)::dY r x.2
def Slot.isC:Slot→Bool
 | .dead=>false
 | .keep=>false
 |_=>true
structure Shape where
 t:List Slot
 v:List (Nat×dT)
abbrev Shape.D (S:Shape):Type:=kZ S.t×oX S.v
def Slot.oY:Slot→Bool
 | .keep=>true
 |_=>false
def eN:List Slot→Nat→Bool
 |[],_=>false
 |x::_,0=>x.oY
 |_::r,j+1=>eN r j
def jv:List Slot→List ai→List ai→List ai
 |x::r,d::ds,e::es=>(bif x.oY then d else e)::jv r ds es
 |_,_,es=>es
def Shape.enc (S:Shape) (ts:List ai) (W:List (Nat×bQ)) (K:List Nat) (x:S.D):dL:=
 { t:=jv S.t ts (fU S.t x.1),v:=dY S.v x.2,w:=W,k:=0::(S.v.map (·.1 / 64)++K),kn:=[] }
def Td:List Nat→List ai→List (Nat×Nat)
 |a::r, .vptr b _::q=>(a,b)::Td r q
 |_,_=>[]
def qs:List Slot→List ai→List (Nat×Nat)
 | .aP id::r, .cN dS none::q=>(id,dS)::qs r q
 | .srv id::r, .cN dS (some _)::q=>(id,dS)::qs r q
 | .vptr id _::r, .vptr dS _::q=>(id,dS)::qs r q
 | .jL id _::r, .jL dS _ _::q=>(id,dS)::qs r q
 | .fn _ ids::r, .fn _ oU::q=>Td ids oU++qs r q
 |_::r,_::q=>qs r q
 |_,_=>[]
def eQ:List (Nat×Nat)→Nat→Option Nat
 |[],_=>none
 |(a,b)::r,x=>if a=x then some b else eQ r x
def A2 (v:List (Nat×bQ)):List (Nat×dT)→List (Nat×Nat)→List (Nat×Nat)
 |[],m=>m
 |(id, .var cs)::r,m=>
  match (eQ m id).bind (bs v) with
  |some (.var ds)=>A2 v r (m++qs cs ds)
  |_=>A2 v r m
 |(_, .arr _)::r,m=>A2 v r m
 |(_, .it)::r,m=>A2 v r m
def A3 (m:List (Nat×Nat)):List Nat→List ai→Bool
 |[],[]=>true
 |a::r, .vptr b 0::q=>decide (eQ m a=some b)&&A3 m r q
 |_,_=>false
def aaF (m:List (Nat×Nat)) (T:Type):(x:Slot)→ai→Option (T→M1 x T)
 | .dead,_=>some fun y=>y
 | .jD,d=>if d.bC=true then some fun y=>y else none
 | .b, .b x=>some fun y=>(x,y)
 | .i k, .i k' x=>if k=k' then some fun y=>(x,y) else none
 | .s, .s x=>some fun y=>(x,y)
 | .ro e tk, .ro e' xs tk'=>if tk=none∨tk=tk' then (Ty.cast (.sl e') (.sl e) xs).map fun x y=>(x,y) else none
 | .aP id, .cN dS none=>if eQ m id=some dS then some fun y=>y else none
 | .srv id, .cN dS (some v)=>if eQ m id=some dS then some fun y=>(v,y) else none
 | .vptr id off, .vptr dS vJ=>if eQ m id=some dS∧off=vJ then some fun y=>y else none
 | .jL id off, .jL dS x vJ=>if eQ m id=some dS∧off=vJ then some fun y=>(x,y) else none
 | .fn f ids, .fn f' oU=>if f=f'∧A3 m ids oU=true then some fun y=>y else none
 | .BR t off, .BR t' x vJ=>if off=vJ then (Ty.cast t' t x).map fun x y=>(x,y) else none
 | .kp n, .kp n'=>if n=n' then some fun y=>y else none
 | .keep,_=>some fun y=>y
 |_,_=>none
def tW (m:List (Nat×Nat)):(l:List Slot)→List ai→Option (kZ l)
 |[],[]=>some ()
 |x::r,d::q=>(aaF m (kZ r) x d).bind fun f=>(tW m r q).map f
 |_,_=>none
def Kh (v:List (Nat×bQ)) (e:Ty) (x:bQ):Option (List e.D):=(ik (bs v) x).bind fun y=>Ty.cast (.sl y.1) (.sl e) y.2
def mP (m:List (Nat×Nat)) (v:List (Nat×bQ)):(l:List (Nat×dT))→Option (oX l)
 |[]=>some ()
 |(id, .var cs)::r=>
  match (eQ m id).bind (bs v) with
  |some (.var ds)=>if cs.all Slot.isC=true then (tW m cs ds).bind fun x=>(mP m v r).map fun y=>(x,y) else none
  |_=>none
 |(id, .arr e)::r=>
  match (eQ m id).bind (bs v) with
  |some x=>(Kh v e x).bind fun x=>(mP m v r).map fun y=>(x,y)
  |none=>none
 |(id, .it)::r=>
  match (eQ m id).bind (bs v) with
  |some (.it s p)=>(mP m v r).map fun y=>((s,p),y)
  |_=>none
def nj (m:List (Nat×Nat)) (v:List (Nat×bQ)):List (Nat×dT)→List Nat
 |[]=>[]
 |(id,_)::r=>
  match eQ m id with
  |some k=>k::(((bs v k).map bG).getD []++nj m v r)
  |none=>nj m v r
def Shape.map (S:Shape) (s:dL):List (Nat×Nat):=A2 s.v S.v (qs S.t s.t)
def vN:List Slot→List ai→List Nat
 |x::r,d::ds=>(bif x.oY then d.ids else [])++vN r ds
 |_,_=>[]
def Shape.dec (S:Shape) (W:List (Nat×bQ)) (s:dL):Option S.D:=
 let m:=S.map s
 if mh (nj m s.v S.v)=true∧mh (S.v.map (·.1))=true∧m.all (fun x=>(S.v.map (·.1)).contains x.1&&(decide (64≤x.1)||x.1==x.2))=true
   ∧(S.v.all fun x=> !(W.map (·.1)).contains x.1)=true∧(W.all fun x=>x.2.ids.all fun id=> !(S.v.map (·.1)).contains id)=true∧((vN S.t s.t).all fun id=> !(S.v.map (·.1)).contains id)=true∧(s.w.all fun x=> !(s.v.map (·.1)).contains x.1)=true then
  (tW m S.t s.t).bind fun x=>(mP m s.v S.v).map fun y=>(x,y)
 else none
def Shape.rest (S:Shape) (s:dL):List (Nat×bQ):=s.v.filter fun x=> !(nj (S.map s) s.v S.v).contains x.1
abbrev bn:Nat:=18446744073709551616
structure aq where
 head:Shape
 out:Shape
 ret:Option Shape
 fr:Bool:=false
inductive Round (α β γ:Type) where
 |again (x:α)
 |out (y:β)
 |ret (z:γ)
def iter {α β γ:Type} (f:α→Out (Round α β γ)):Nat→α→Option (β ⊕ γ)
 |0,_=>none
 |n+1,x=>
  match (f x).eval with
  |some (.again x')=>iter f n x'
  |some (.out y)=>some (.inl y)
  |some (.ret z)=>some (.inr z)
  |none=>none
def b5 {α β:Type} (f:α→Out (Round α β Empty)) (n:Nat) (x:α):Option β:=
 (iter f n x).map fun r=>match r with
  | .inl y=>y
  | .inr z=>nomatch z
def Te:Option Shape→Type
 |some S=>S.D
 |none=>Empty
def A4 (id:Nat) (A:aq) (r:Ex×dL):Out (Round A.head.D A.out.D (Te A.ret)):=
 match r.1 with
 | .normal=> .of (A.head.dec r.2.w r.2) fun x=> .ret (.again x)
 | .exit n=>if n=id then .of (A.out.dec r.2.w r.2) fun y=> .ret (.out y) else .fail
 | .ret=>
   match A.ret,(inferInstance:Inhabited Unit) with
   |some S,_=> .of (S.dec r.2.w r.2) fun z=> .ret (.ret z)
   |none,_=> .fail
def loose (S:Shape):List Nat:=(S.t.zipIdx.filter fun x=> !x.1.oY).map (·.2)
def FU (h:List Slot) (n:Nat) (ds:List Nat) (l:List Slot):Bool:=decide (l.length=n)&&l.zipIdx.all fun x=> !x.1.oY||(eN h x.2&& !ds.contains x.2)
def Tf (l:List Slot):Bool:=l.all fun x=> !x.oY
def aq.mj (A:aq):List Shape:=A.head::A.out::A.ret.toList
def aq.xv (A:aq) (n:Nat) (ds:List Nat):Bool:=
 A.mj.all (fun S=>FU A.head.t n ds S.t)&&(A.fr||A.mj.all fun S=>Tf S.t)
def aq.rest (A:aq) (s:dL):List (Nat×bQ):=if A.fr=true then A.head.rest s else []
def aq.known (A:aq) (s:dL):List Nat:=if A.fr=true∨s.w.isEmpty=false then s.k else []
def aq.fin (A:aq) (s:dL) (S:Shape) (x:S.D):dL:={ S.enc s.t [] (A.known s) x with v:=dY S.v x.2++A.rest s,w:=s.w }
def H9 (id:Nat) (A:aq) (ds:List Nat) (f:dL→Out (Ex×dL)) (s:dL):Out (Ex×dL):=
 if A.xv s.t.length ds=true then
  .of (A.head.dec (A.rest s++s.w) s) fun x=>
   match A.ret,(fun x=>(f (A.head.enc s.t (A.rest s++s.w) (A.known s) x)).bind (A4 id A):A.head.D→Out (Round A.head.D A.out.D (Te A.ret))) with
   |some S,g=> .get (iter g bn x) fun r=> .alt r (fun y=> .ret (.normal,A.fin s A.out y)) fun z=> .ret (.ret,A.fin s S z)
   |none,g=> .get (b5 g bn x) fun y=> .ret (.normal,A.fin s A.out y)
 else .fail
def aio:Code→Option Code
 | .loop b=>some b
 |_=>none
def aip:Operand→List Nat
 | .tmp d=>[d]
 |_=>[]
def ml (A:Nat→Option aq):Code→List Nat
 | .seq a b=>ml A a++ml A b
 | .cond c x y=>aip c++(ml A x++ml A y)
 | .block id (.loop b)=>
   match A id with
   |some a=>ml A b++(loose a.out++(match a.ret with|some S=>loose S|none=>[]))
   |none=>[]
 | .block _ c=>ml A c
 | .region _ ops _=>ops.toList.flatMap fun o=>o.dst.toList
 |_=>[]
def dK (C:Cx) (A:Nat→Option aq):Code→dL→Out (Ex×dL)
 | .skip,s=> .ret (.normal,s)
 | .ret,s=> .ret (.ret,s)
 | .exit n,s=> .ret (.exit n,s)
 | .seq a b,s=>(dK C A a s).bind fun r=>
   match r.1 with
   | .normal=>dK C A b r.2
   |_=> .ret r
 | .cond c x y,s=>
   match Kg s.kn c with
   |some true=>dK C A x s
   |some false=>dK C A y s
   |none=>
    match c,fj (fun j=>s.t.getD j .dead) c with
    | .tmp d, .b p=> .ite p (dK C A x { s with t:=s.t.set d (.b true),kn:=(d,true)::s.kn }) (dK C A y { s with t:=s.t.set d (.b false),kn:=(d,false)::s.kn })
    |_,_=> .fail
 | .block id (.loop b),s=>
   match A id with
   |some a=>H9 id a (ml A b) (dK C A b) s
   |none=> .fail
 | .block id c,s=>(dK C A c s).map (vM id)
 | .region id ops draw,s=>(region C id ops.toList draw s).map fun s'=>(.normal,s')
 |_,_=> .fail
end
section
open Go
variable {z:Fz}
inductive Loc where
 |at (B o:Nat)
 |sS (a:Option Addr) (len cap sz:Nat)
instance:Inhabited Loc:=⟨.at 0 0⟩
def aiq:List (Nat×(Obj→Prop)):=[]
def Tg (S:Nat→Prop) (w:World):Prop:=∀ p∈aiq,S p.1∧∃ o,w.heap[p.1]? =some o∧p.2 o
def Gw (S:Nat→Prop) (w:World):Prop:=(∀ b,S b→b<w.heap.size)∧Tg S w
theorem Tg.mono {S S':Nat→Prop} {w w':World} (h:Tg S w) (hS:∀ b,S b→S' b) (hw:∀ b,S b→w'.heap[b]? =w.heap[b]?):Tg S' w':=fun p hp=>by
 obtain ⟨h1,o,h2,h3⟩:=h p hp;exact ⟨hS _ h1,o,by rw [hw _ h1];exact h2,h3⟩
structure Ctx where
 P:Program
 S:Nat→Prop
 w0:World
 M:Nat→Nat→Prop
 tok:Nat→Value
 loc:Nat→Loc
 hS:Gw S w0
def Ctx.fz (c:Ctx):Fz:=⟨c.S,c.w0⟩
def erV (v:Value) (n:Bool):Prop:=v.oneCell'=true∧if n=true then v= .nilIface else ∃ t p,v= .iface t p
mutual
def an (c:Ctx) (μ:Nat→Loc) (v:Value):ai→Prop
 | .dead=>True
 | .jD=>v.oneCell'=true
 | .undef=>v=undef
 | .b x=>v= .bool x
 | .i k x=>v= .int k x
 | .s x=>v= .string ⟨x.toArray⟩∧x.length≤aS
 | .ro e xs tk=>(Ty.sl e).aQ c.S c.w0 [v] xs∧∀ k,tk=some k→v=c.tok k
 | .ni=>∃ a,v= .slice a 0 0
 | .cN id none=>∃ a len cap sz,μ id= .sS a len cap sz∧v= .slice a len cap
 | .cN id (some (o,l))=>∃ a len cap sz a',μ id= .sS a len cap sz∧o+l≤len∧len≤cap∧v= .slice a' l (cap - o)∧(cap - o=0∨∃ b o',a=some ⟨b,o',none⟩∧a'=some ⟨b,o'+o*sz,none⟩)
 | .vptr id off=>∃ B o,μ id= .at B o∧v= .pointer (some ⟨B,o+off,none⟩)
 | .jL id i off=>∃ b o len cap sz,μ id= .sS (some ⟨b,o,none⟩) len cap sz∧i<len∧v= .pointer (some ⟨b,o+i*sz+off,none⟩)
 | .BR t x off=>∃ b o,c.S b∧t.aQ c.S c.w0 (aE c.w0 b o t.size) x∧v= .pointer (some ⟨b,o+off,none⟩)
 | .agg ds=>∃ vs,v= .agg vs∧aj c μ vs.toList ds
 | .H5 ds=>∃ vs,v= .tuple vs∧aj c μ vs.toList ds
 | .fn f ds=>∃ vs,v= .func (.func f) #[] vs∧aj c μ vs.toList ds
 | .er n=>erV v n
 | .kp n=>v=c.tok n∧v.oneCell'=true
def aj (c:Ctx) (μ:Nat→Loc) (vs:List Value):List ai→Prop
 |[]=>vs=[]
 |d::ds=>∃ v bm,vs=v::bm∧an c μ v d∧aj c μ bm ds
end
mutual
theorem an.mono {c:Ctx} {μ μ':Nat→Loc}:{v:Value}→(d:ai)→(∀ id∈d.ids,μ' id=μ id)→an c μ v d→an c μ' v d
 |_, .dead,_,h=>h
 |_, .jD,_,h=>h
 |_, .undef,_,h=>h
 |_, .b _,_,h=>h
 |_, .i _ _,_,h=>h
 |_, .s _,_,h=>h
 |_, .ro _ _ _,_,h=>h
 |_, .ni,_,h=>h
 |_, .cN id none,hm,h=>by simp only [an] at h ⊢; rwa [hm id (by simp [ai.ids])]
 |_, .cN id (some (o,l)),hm,h=>by simp only [an] at h ⊢; rwa [hm id (by simp [ai.ids])]
 |_, .vptr id off,hm,h=>by simp only [an] at h ⊢; rwa [hm id (by simp [ai.ids])]
 |_, .jL id i off,hm,h=>by simp only [an] at h ⊢; rwa [hm id (by simp [ai.ids])]
 |_, .BR _ _ _,_,h=>h
 |_, .er _,_,h=>h
 |_, .kp _,_,h=>h
 |_, .agg ds,hm,h=>by simp only [an] at h ⊢; obtain ⟨vs,e,h⟩:=h;exact ⟨vs,e,aj.mono ds (by simpa [ai.ids] using hm) h⟩
 |_, .H5 ds,hm,h=>by simp only [an] at h ⊢; obtain ⟨vs,e,h⟩:=h;exact ⟨vs,e,aj.mono ds (by simpa [ai.ids] using hm) h⟩
 |_, .fn f ds,hm,h=>by simp only [an] at h ⊢; obtain ⟨vs,e,h⟩:=h;exact ⟨vs,e,aj.mono ds (by simpa [ai.ids] using hm) h⟩
theorem aj.mono {c:Ctx} {μ μ':Nat→Loc}:{vs:List Value}→(ds:List ai)→(∀ id∈ai.bI ds,μ' id=μ id)→aj c μ vs ds→aj c μ' vs ds
 |_,[],_,h=>h
 |_,d::ds,hm,h=>by
  simp only [aj] at h ⊢; obtain ⟨v,bm,e,h1,h2⟩:=h;exact ⟨v,bm,e,an.mono d (fun id hi=>hm id (by simp [ai.bI,hi])) h1,aj.mono ds (fun id hi=>hm id (by simp [ai.bI,hi])) h2⟩
end
theorem aj.length {c:Ctx} {μ:Nat→Loc}:{vs:List Value}→{ds:List ai}→aj c μ vs ds→vs.length=ds.length
 |_,[],h=>by simp only [aj] at h;subst h;rfl
 |_,_::_,h=>by simp only [aj] at h;obtain ⟨v,bm,rfl,_,h⟩:=h;simp [aj.length h]
theorem aj.append {c:Ctx} {μ:Nat→Loc}:{vs us:List Value}→{ds es:List ai}→aj c μ vs ds→aj c μ us es→aj c μ (vs++us) (ds++es)
 |_,_,[],_,h,h'=>by simp only [aj] at h;subst h;exact h'
 |_,_,_::_,_,h,h'=>by
  simp only [aj] at h;obtain ⟨v,bm,rfl,h1,h⟩:=h;simp only [List.cons_append,aj];exact ⟨v,_,rfl,h1,aj.append h h'⟩
theorem aj.get {c:Ctx} {μ:Nat→Loc}:{vs:List Value}→{ds:List ai}→aj c μ vs ds→∀ {j:Nat} {d:ai},ds[j]? =some d→∃ v,vs[j]? =some v∧an c μ v d
 |_,[],_,_,_,hd=>by simp at hd
 |_,_::_,h,j,d,hd=>by
  simp only [aj] at h;obtain ⟨v,bm,rfl,h1,h⟩:=h;cases j with
  |zero=>simp at hd;subst hd;exact ⟨v,rfl,h1⟩
  |succ j=>simpa using aj.get h (j:=j) (d:=d) (by simpa using hd)
theorem aj.A5 {c:Ctx} {μ:Nat→Loc}:{vs:List Value}→{ds:List ai}→vs.length=ds.length→(∀ (j:Nat) (d:ai) (v:Value),ds[j]? =some d→vs[j]? =some v→an c μ v d)→aj c μ vs ds
 |vs,[],hl,_=>by simp only [aj];exact ac4 (by simpa using hl)
 |[],_::_,hl,_=>by simp at hl
 |v::vs,d::ds,hl,h=>by
  simp only [aj];exact ⟨v,vs,rfl,h 0 d v rfl rfl,aj.A5 (by simpa using hl) fun j d' v' h1 h2=>h (j+1) d' v' (by simpa using h1) (by simpa using h2)⟩
theorem aj.take {c:Ctx} {μ:Nat→Loc} {vs:List Value} {ds:List ai} (h:aj c μ vs ds) (n:Nat):aj c μ (vs.take n) (ds.take n):=by
 have hl:=h.length;refine aj.A5 (by simp [hl]) fun j d v hd hv=> ?_;rw [ahd] at hd hv;split at hd
 . rename_i hj;simp only [hj,af7] at hv;obtain ⟨u,hu,hr⟩:=h.get hd;rw [hu] at hv;cases hv;exact hr
 . simp at hd
theorem aj.drop {c:Ctx} {μ:Nat→Loc} {vs:List Value} {ds:List ai} (h:aj c μ vs ds) (n:Nat):aj c μ (vs.drop n) (ds.drop n):=by
 have hl:=h.length;refine aj.A5 (by simp [hl]) fun j d v hd hv=> ?_;rw [acb] at hd hv;obtain ⟨u,hu,hr⟩:=h.get hd;rw [hu] at hv;cases hv;exact hr
theorem qt (a b:List ai):ai.bI (a++b)=ai.bI a++ai.bI b:=by
 induction a with
 |nil=>rfl
 |cons x xs ih=>simp [ai.bI,ih]
theorem gv {ds:List ai} {id:Nat}:id∈ai.bI ds↔∃ d∈ds,id∈d.ids:=by
 induction ds with
 |nil=>simp [ai.bI]
 |cons x xs ih=>simp [ai.bI,ih]
theorem an.iP {c:Ctx} {μ:Nat→Loc} {v:Value} {d:ai} (h:an c μ v d) (hc:d.bC=true):v.oneCell'=true:=by
 cases d with
 |dead=>simp [ai.bC] at hc
 |undef=>simp [ai.bC] at hc
 |agg _=>simp [ai.bC] at hc
 |H5 _=>simp [ai.bC] at hc
 |jD=>exact h
 |b x=>simp only [an] at h;subst h;rfl
 |i k x=>simp only [an] at h;subst h;rfl
 |s x=>simp only [an] at h;rw [h.1];rfl
 |ro e xs tk=>simp only [an] at h;obtain ⟨h,_⟩:=h;simp only [Ty.aQ] at h;obtain ⟨a,cap,e,_⟩:=h;cases e;rfl
 |ni=>simp only [an] at h;obtain ⟨a,rfl⟩:=h;rfl
 |cN id vw=>
  rcases vw with _|⟨o,l⟩
  . simp only [an] at h;obtain ⟨a,len,cap,sz,_,rfl⟩:=h;rfl
  . simp only [an] at h;obtain ⟨a,len,cap,sz,a',_,_,_,rfl,_⟩:=h;rfl
 |vptr id off=>simp only [an] at h;obtain ⟨B,o,_,rfl⟩:=h;rfl
 |jL id i off=>simp only [an] at h;obtain ⟨b,o,len,cap,sz,_,_,rfl⟩:=h;rfl
 |BR t x off=>simp only [an] at h;obtain ⟨b,o,_,_,rfl⟩:=h;rfl
 |fn f ds=>simp only [an] at h;obtain ⟨vs,rfl,_⟩:=h;rfl
 |er n=>exact h.1
 |kp n=>exact h.2
theorem gw {v:Value} (h:v.oneCell'=true):v.cells= #[v]:=by cases v<;>simp_all [Value.oneCell',Value.cells]
theorem an.cells {c:Ctx} {μ:Nat→Loc} {v:Value} {d:ai} (h:an c μ v d) (hc:d.cells.all ai.bC=true):aj c μ v.cells.toList d.cells:=by
 by_cases ha:∃ ds,d= .agg ds
 . obtain ⟨ds,rfl⟩:=ha
   simp only [an] at h;obtain ⟨vs,rfl,h⟩:=h;exact h
 . have hd:d.cells=[d]:=by cases d<;>first|rfl|exact absurd ⟨_,rfl⟩ ha
   rw [hd] at hc ⊢;simp only [acY,List.all_nil,ag3] at hc;rw [gw (h.iP hc)];simp only [aj];exact ⟨v,[],rfl,h,rfl⟩
def Ki (z:Fz) (w:World) (a:Option Addr) (cap:Nat) (e:Ty) (xs:List e.D) (i off:Nat) (u:Ty) (h:Loc) (fp:List Nat):Prop:=
 ∃ a' nV j7 e' b o C E,h= .sS a' nV j7 (Ty.size e')∧u= .sl e'∧a=some ⟨b,o,none⟩∧b∈fp∧w.heap[b]? =some (.cells C E (0,0))∧
 C[o+i*e.size+off]? =some (.slice a' nV j7)∧
 ∀ (z':Fz) (w':World) (C':Array Value) (hd:Value) (ys:u.D) (fp':List Nat),z.le z'→w'.heap[b]? =some (.cells C' E (0,0))→C'.size=C.size→(∀ j,j≠o+i*e.size+off→C'[j]? =C[j]?)→
   C'[o+i*e.size+off]? =some hd→(∀ b'∈fp,b'≠b→w'.heap[b']? =w.heap[b']?)→u.au z' w' [hd] ys fp'→
   ∃ x x' Y8,xs[i]? =some x∧e.cK x off u ys=some x'∧(Ty.sl e).au z' w' [.slice a xs.length cap] (xs.set i x') Y8∧Y8.Perm (fp++fp')
def Y9 (z:Fz) (w:World) (a:Option Addr) (cap:Nat) (e:Ty) (xs:List e.D) (i b o:Nat) (C:Array Value) (E:TypeId) (p q:List Nat):Prop:=
 ∀ (z':Fz) (w':World) (x':e.D) (I4:List Nat) (C':Array Value),z.le z'→w'.heap[b]? =some (.cells C' E (0,0))→C'.size=C.size→
   (∀ j,j<o+i*e.size∨o+(i+1)*e.size≤j→C'[j]? =C[j]?)→(∀ b'∈p++q,w'.heap[b']? =w.heap[b']?)→b ∉ p++q→
   e.au z' w' (aE w' b (o+i*e.size) e.size) x' I4→(Ty.sl e).au z' w' [.slice a xs.length cap] (xs.set i x') (b::(p++I4++q))
theorem Y9.frame {z z1:Fz} {w w1:World} {a:Option Addr} {cap:Nat} {e:Ty} {xs:List e.D} {i b o:Nat} {C C1:Array Value} {E:TypeId} {p q:List Nat} (h:Y9 z w a cap e xs i b o C E p q) (hz:z.le z1)
  (hs:∀ b'∈p++q,w1.heap[b']? =w.heap[b']?) (hC:C1.size=C.size) (hj:∀ j,j<o+i*e.size∨o+(i+1)*e.size≤j→C1[j]? =C[j]?):Y9 z1 w1 a cap e xs i b o C1 E p q:=
 fun z' w' x' I4 C' q1 q2 q3 q4 q5 q6 q7=>h z' w' x' I4 C' (Fz.le_trans hz q1) q2 (q3.trans hC) (fun j DZ=>(q4 j DZ).trans (hj j DZ)) (fun b' cf=>(q5 b' cf).trans (hs b' cf)) q6 q7
def cL (c:Ctx) (μ:Nat→Loc) (w:World) (id:Nat) (fp:List Nat):bQ→Prop
 | .var cs=>∃ B o C E,μ id= .at B o∧fp=[B]∧w.heap[B]? =some (.cells C E (0,0))∧o+cs.length≤C.size∧
  aj c μ (aE w B o cs.length) cs∧cs.all ai.bC=true∧(B<c.w0.heap.size→∀ j,j<cs.length→c.M B (o+j))
 | .arr e xs=>∃ a cap,μ id= .sS a xs.length cap e.size∧(Ty.sl e).au c.fz w [.slice a xs.length cap] xs fp∧(∀ b∈fp,b<c.w0.heap.size→∀ j,c.M b j)
 | .AW e xs x i off u dS=>∃ a cap,μ id= .sS a xs.length cap e.size∧Ki c.fz w a cap e xs i off u (μ dS) fp∧(∀ b∈fp,b<c.w0.heap.size→∀ j,c.M b j)∧xs.length≤cap∧(cap=0∨∃ b o,a=some ⟨b,o,none⟩)∧xs[i]? =some x
 | .vG e xs i cs=>∃ a cap b o C E p q,μ id= .sS a xs.length cap e.size∧a=some ⟨b,o,none⟩∧fp=b::(p++q)∧w.heap[b]? =some (.cells C E (0,0))∧o+cap*e.size≤C.size∧xs.length≤cap∧i<xs.length∧
  Y9 c.fz w a cap e xs i b o C E p q∧aj c μ (aE w b (o+i*e.size) e.size) cs∧cs.length=e.size∧cs.all ai.bC=true∧b ∉ p++q∧(∀ b∈fp,b<c.w0.heap.size→∀ j,c.M b j)
 | .cut e ys k=>∃ a cap a',μ id= .sS a (k+ys.length) cap e.size∧k+ys.length≤cap∧(0<cap→∃ b o,a=some ⟨b,o,none⟩)∧(cap - k=0∨∃ b o,a=some ⟨b,o,none⟩∧a'=some ⟨b,o+k*e.size,none⟩)∧
  (Ty.sl e).au c.fz w [.slice a' ys.length (cap - k)] ys fp∧(∀ b∈fp,b<c.w0.heap.size→∀ j,c.M b j)
 | .it s p=>∃ B,μ id= .at B 0∧fp=[B]∧w.heap[B]? =some (.stringIter ⟨s.toArray⟩ p)∧s.length≤aS∧(B<c.w0.heap.size→c.M B 0)
structure cX (c:Ctx) (μ:Nat→Loc) (fp:Nat→List Nat) (v:Env) (w:World):Prop where
 rel:∀ id x,v id=some x→cL c μ w id (fp id) x
 nodup:∀ id x,v id=some x→(fp id).Nodup
 sep:∀ id dS,id≠dS→v id≠none→v dS≠none→∀ b∈fp id,b ∉ fp dS
 jg:∀ id,v id≠none→∀ b∈fp id,¬ c.S b
 lt:∀ id,v id≠none→∀ b∈fp id,b<w.heap.size
structure Ev (c:Ctx) (w:World):Prop where
 size:c.w0.heap.size≤w.heap.size
 os:w.os=c.w0.os
 output:w.output=c.w0.output
 S:∀ b,c.S b→w.heap[b]? =c.w0.heap[b]?
 yd:∀ b,b<c.w0.heap.size→w.heap[b]? =c.w0.heap[b]? ∨(∃ C C' E,c.w0.heap[b]? =some (.cells C E (0,0))∧w.heap[b]? =some (.cells C' E (0,0))∧C'.size=C.size∧∀ j,¬ c.M b j→C'[j]? =C[j]?)∨(c.M b 0∧∃ s p p',c.w0.heap[b]? =some (.stringIter s p)∧w.heap[b]? =some (.stringIter s p'))
 frozen:∀ a,a.block<c.w0.heap.size→w.frozen? a=c.w0.frozen? a
theorem Ev.comp {c c1:Ctx} {w w':World} (h:Ev c w) (h':Ev c1 w') (hw:c1.w0=w) (hS:∀ b,c.S b→c1.S b) (hM:∀ b j,b<c.w0.heap.size→c1.M b j→c.M b j):Ev c w':=by
 subst hw;refine ⟨aa3 h.size h'.size,h'.os.trans h.os,h'.output.trans h.output,fun b hb=>(h'.S b (hS b hb)).trans (h.S b hb),fun b hb=> ?_,fun a ha=>(h'.frozen a (acO ha h.size)).trans (h.frozen a ha)⟩;have cf:=acO hb h.size;rcases h'.yd b cf with e'|⟨D,D',T,a1,a2,a3,a4⟩|⟨m1,s1,p1,p2,a1,a2⟩
 . rw [e'];exact h.yd b hb
 . rcases h.yd b hb with e|⟨C,C',T',b1,b2,b3,b4⟩|⟨_,_,_,_,_,b2⟩
   . exact .inr (.inl ⟨D,D',T,by rw [← e,a1],a2,a3,fun j hj=>a4 j fun hm=>hj (hM b j hb hm)⟩)
   . rw [a1] at b2;cases b2
     exact .inr (.inl ⟨C,D',T,b1,a2,a3.trans b3,fun j hj=>(a4 j fun hm=>hj (hM b j hb hm)).trans (b4 j hj)⟩)
   . rw [a1] at b2;cases b2
 . rcases h.yd b hb with e|⟨C,C',T',b1,b2,b3,b4⟩|⟨_,s2,p3,p4,b1,b2⟩
   . exact .inr (.inr ⟨hM b 0 hb m1,s1,p1,p2,by rw [← e,a1],a2⟩)
   . rw [a1] at b2;cases b2
   . rw [a1] at b2;cases b2
     exact .inr (.inr ⟨hM b 0 hb m1,_,_,_,b1,a2⟩)
structure Ext (c c':Ctx):Prop where
 P:c'.P=c.P
 tok:c'.tok=c.tok
 loc:c'.loc=c.loc
 S:∀ b,c.S b→c'.S b
 new:∀ b,c'.S b→c.S b∨c.w0.heap.size≤b∨∀ j,c.M b j
 ev:Ev c c'.w0
 M:∀ b j,b<c.w0.heap.size→c'.M b j→c.M b j
theorem Ev.start (c:Ctx):Ev c c.w0:=⟨abD _,rfl,rfl,fun _ _=>rfl,fun _ _=> .inl rfl,fun _ _=>rfl⟩
theorem Ext.refl (c:Ctx):Ext c c:=⟨rfl,rfl,rfl,fun _ h=>h,fun _ h=> .inl h,Ev.start c,fun _ _ _ h=>h⟩
theorem Ext.back {c c':Ctx} {w:World} (h:Ext c c') (ev:Ev c' w):Ev c w:=h.ev.comp ev rfl h.S h.M
theorem Ext.trans {a b c:Ctx} (h:Ext a b) (h':Ext b c):Ext a c where
 P:=h'.P.trans h.P
 tok:=h'.tok.trans h.tok
 loc:=h'.loc.trans h.loc
 S x hx:=h'.S x (h.S x hx)
 new x hx:=by
  rcases h'.new x hx with hx|hx|hx
  . exact h.new x hx
  . exact .inr (.inl (aa3 h.ev.size hx))
  . rcases ae0 x a.w0.heap.size with bZ|I5
    . exact .inr (.inr fun j=>h.M x j bZ (hx j))
    . exact .inr (.inl I5)
 ev:=h.back h'.ev
 M x j bZ hm:=h.M x j bZ (h'.M x j (acO bZ h.ev.size) hm)
mutual
theorem an.ext {c c':Ctx} (h:Ext c c') {μ:Nat→Loc}:{v:Value}→(d:ai)→an c μ v d→an c' μ v d
 |_, .dead,h1=>h1
 |_, .jD,h1=>h1
 |_, .undef,h1=>h1
 |_, .b _,h1=>h1
 |_, .i _ _,h1=>h1
 |_, .s _,h1=>h1
 |_, .er _,h1=>h1
 |_, .kp n,h1=>by simp only [an] at h1 ⊢; rw [h.tok];exact h1
 |_, .ro e xs tk,h1=>by
  simp only [an] at h1 ⊢;exact ⟨Ty.eA (fun b hb=>⟨h.S b hb,h.ev.S b hb⟩) _ h1.1,fun k hk=>by rw [h.tok];exact h1.2 k hk⟩
 |_, .ni,h1=>h1
 |_, .cN id none,h1=>h1
 |_, .cN id (some (o,l)),h1=>h1
 |_, .vptr id off,h1=>h1
 |_, .jL id i off,h1=>h1
 |_, .BR t x off,h1=>by
  simp only [an] at h1 ⊢;obtain ⟨b,o,hb,h1,h2⟩:=h1;refine ⟨b,o,h.S b hb, ?_,h2⟩;rw [fc (h.ev.S b hb)];exact Ty.eA (fun b hb=>⟨h.S b hb,h.ev.S b hb⟩) _ h1
 |_, .agg ds,h1=>by simp only [an] at h1 ⊢; obtain ⟨vs,e,h1⟩:=h1;exact ⟨vs,e,aj.ext h ds h1⟩
 |_, .H5 ds,h1=>by simp only [an] at h1 ⊢; obtain ⟨vs,e,h1⟩:=h1;exact ⟨vs,e,aj.ext h ds h1⟩
 |_, .fn f ds,h1=>by simp only [an] at h1 ⊢; obtain ⟨vs,e,h1⟩:=h1;exact ⟨vs,e,aj.ext h ds h1⟩
theorem aj.ext {c c':Ctx} (h:Ext c c') {μ:Nat→Loc}:{vs:List Value}→(ds:List ai)→aj c μ vs ds→aj c' μ vs ds
 |_,[],h1=>h1
 |_,d::ds,h1=>by
  simp only [aj] at h1 ⊢; obtain ⟨v,bm,e,h1,h2⟩:=h1;exact ⟨v,bm,e,an.ext h d h1,aj.ext h ds h2⟩
end
def Ctx.next (c:Ctx) (w:World) (S':Nat→Prop) (tX:Gw S' w):Ctx where
 P:=c.P
 S:=S'
 w0:=w
 M:=fun b j=>c.M b j∨c.w0.heap.size≤b
 tok:=c.tok
 loc:=c.loc
 hS:=tX
theorem Ext.next {c:Ctx} {w:World} {S':Nat→Prop} {tX:Gw S' w} (ev:Ev c w) (h:∀ b,c.S b→S' b) (h':∀ b,S' b→c.S b∨c.w0.heap.size≤b∨∀ j,c.M b j):Ext c (c.next w S' tX) where
 P:=rfl
 tok:=rfl
 loc:=rfl
 S:=h
 new:=h'
 ev:=ev
 M b j bZ hm:=by
   rcases hm with hm|hm
   . exact hm
   . omega
theorem Ext.fz {c c':Ctx} (h:Ext c c'):c.fz.le c'.fz:=fun b hb=>⟨h.S b hb,h.ev.S b hb⟩
theorem Ki.mono {z z':Fz} (hz:z.le z') {w:World} {a:Option Addr} {cap:Nat} {e:Ty} {xs:List e.D} {i off:Nat} {u:Ty} {h:Loc} {fp:List Nat} (hw:Ki z w a cap e xs i off u h fp):Ki z' w a cap e xs i off u h fp:=by
 obtain ⟨a',nV,j7,e',b,o,C,E,h1,h2,h3,h4,h5,h6,h7⟩:=hw;exact ⟨a',nV,j7,e',b,o,C,E,h1,h2,h3,h4,h5,h6,fun z'' w'' C' hd ys fp' q=>h7 z'' w'' C' hd ys fp' (Fz.le_trans hz q)⟩
theorem cL.next {c:Ctx} {μ:Nat→Loc} {w w1:World} {S':Nat→Prop} {tX:Gw S' w1} (e:Ext c (c.next w1 S' tX)) {id:Nat} {f:List Nat} {x:bQ} (h1:cL c μ w id f x):cL (c.next w1 S' tX) μ w id f x:=by
 have hM:∀ b j,(b<c.w0.heap.size→c.M b j)→(c.next w1 S' tX).M b j:=fun b j hb=>by
  rcases ae0 b c.w0.heap.size with bZ|I5
  . exact .inl (hb bZ)
  . exact .inr I5
 cases x with
 |var cs=>
  obtain ⟨B,o,C,E,h1,h2,h3,h4,h5,h6,h7⟩:=h1;exact ⟨B,o,C,E,h1,h2,h3,h4,aj.ext e cs h5,h6,fun _ j hj=>hM B (o+j) fun bZ=>h7 bZ j hj⟩
 |arr el xs=>
  obtain ⟨a,cap,h1,h2,h3⟩:=h1;exact ⟨a,cap,h1,Ty.dc e.fz _ h2,fun b hb _ j=>hM b j fun bZ=>h3 b hb bZ j⟩
 |AW el xs x i off u dS=>
  obtain ⟨a,cap,h1,h2,h3,h4⟩:=h1;exact ⟨a,cap,h1,h2.mono e.fz,fun b hb _ j=>hM b j fun bZ=>h3 b hb bZ j,h4⟩
 |it s p=>
  obtain ⟨B,h1,h2,h3,h4,h5⟩:=h1;exact ⟨B,h1,h2,h3,h4,fun _=>hM B 0 h5⟩
 |cut el ys k=>
  obtain ⟨a,cap,a',h1,h2,h3,h4,h5,h6⟩:=h1;exact ⟨a,cap,a',h1,h2,h3,h4,Ty.dc e.fz _ h5,fun b hb _ j=>hM b j fun bZ=>h6 b hb bZ j⟩
 |vG el xs i cs=>
  obtain ⟨a,cap,b,o,C,E,p,q,h1,h2,h3,h4,h5,h6,h7,h8,h9,UZ,U0,h13,O8⟩:=h1;exact ⟨a,cap,b,o,C,E,p,q,h1,h2,h3,h4,h5,h6,h7,h8.frame e.fz (fun _ _=>rfl) rfl fun _ _=>rfl,aj.ext e cs h9,UZ,U0,h13,fun b hb _ j=>hM b j fun bZ=>O8 b hb bZ j⟩
theorem cX.next {c:Ctx} {μ:Nat→Loc} {fp:Nat→List Nat} {v:Env} {w w1:World} {S':Nat→Prop} {tX:Gw S' w1} (e:Ext c (c.next w1 S' tX)) (h:cX c μ fp v w) (hn:∀ id,v id≠none→∀ b∈fp id,¬ S' b):
  cX (c.next w1 S' tX) μ fp v w where
 rel id x hx:=(h.rel id x hx).next e
 nodup:=h.nodup
 sep:=h.sep
 jg:=hn
 lt:=h.lt
structure pt (s:lx):Prop where
 t:∀ j,∀ id∈(s.t j).ids,s.k id
 v:∀ id x,s.v id=some x→s.k id∧∀ dS∈x.ids,s.k dS
structure iE (c:Ctx) (μ:Nat→Loc) (fp:Nat→List Nat) (s:lx) (n:Nat) (a:Act) (w:World):Prop where
 tm:∀ j,an c μ (a.tmps.getD j Go.undef) (s.t j)
 n:n≤a.tmps.size
 defers:a.defers=[]
 vs:cX c μ fp s.v w
 known:pt s
 ev:Ev c w
 fix:∀ id,id<64→s.k id∧μ id=c.loc id
theorem Cd (w:World) (C:Array Value) (E:TypeId) (a:Addr):(w.alloc (.cells C E)).frozen? a=w.frozen? a:=by
 rcases Nat.lt_trichotomy a.block w.heap.size with h|h|h
 . simp only [World.frozen?]
   rw [heap_alloc_old w _ a.block h]
 . simp only [World.frozen?]
   have e2:w.heap[a.block]? =none:=by rw [h];simp
   have e1:(w.alloc (.cells C E)).heap[a.block]? =some (.cells C E (0,0)):=by rw [h];exact heap_alloc_new w _
   rw [e1,e2];simp
 . simp only [World.frozen?]
   have e2:w.heap[a.block]? =none:=by simp;omega
   have e1:(w.alloc (.cells C E)).heap[a.block]? =none:=by simp;omega
   rw [e1,e2]
theorem A6 {w:World} {b:Nat} {C C':Array Value} {E:TypeId} (hb:w.heap[b]? =some (.cells C E (0,0))) (a:Addr):(w.setRow b C').frozen? a=w.frozen? a:=by
 simp only [World.frozen?];by_cases h:a.block=b
 . rw [h,setRow_heap w b C C' E (0,0) hb,hb]
 . rw [setRow_other w b a.block C' h]
theorem Ev.alloc {c:Ctx} {w:World} (h:Ev c w) (C:Array Value) (E:TypeId):Ev c (w.alloc (.cells C E)) where
 size:=by simp;have:=h.size;omega
 os:=h.os
 output:=h.output
 S b hb:=by
   have:=c.hS.1 b hb;have:=h.size;rw [heap_alloc_old w _ b (by omega)];exact h.S b hb
 yd b hb:=by
  have:=h.size;rw [heap_alloc_old w _ b (by omega)];exact h.yd b hb
 frozen a ha:=(Cd w C E a).trans (h.frozen a ha)
theorem Ev.drew {c:Ctx} {w:World} (h:Ev c w):Ev c w.drew:=⟨h.size,h.os,h.output,h.S,h.yd,h.frozen⟩
theorem Ev.setRow {c:Ctx} {w:World} (h:Ev c w) {b:Nat} {C C':Array Value} {E:TypeId} (hb:w.heap[b]? =some (.cells C E (0,0))) (hs:¬ c.S b)
  (hz:C'.size=C.size) (hm:b<c.w0.heap.size→∀ j,¬ c.M b j→C'[j]? =C[j]?):Ev c (w.setRow b C') where
 size:=by simp;exact h.size
 os:=h.os
 output:=h.output
 S b' cf:=by
   have:b'≠b:=fun e=>hs (e ▸ cf);rw [setRow_other w b b' C' this];exact h.S b' cf
 yd b' cf:=by
  by_cases e:b'=b
  . subst e
    rw [setRow_heap w b' C C' E (0,0) hb];rcases h.yd b' cf with h1|⟨C0,C1,E1,h0,h1,h2,h3⟩|⟨_,_,_,_,_,h1⟩
    . exact .inr (.inl ⟨C,C',E,by rw [← h1,hb],rfl,hz,hm cf⟩)
    . rw [hb] at h1;cases h1
      exact .inr (.inl ⟨C0,C',E,h0,rfl,hz.trans h2,fun j hj=>(hm cf j hj).trans (h3 j hj)⟩)
    . rw [hb] at h1;cases h1
  . rw [setRow_other w b b' C' e];exact h.yd b' cf
 frozen a ha:=(A6 hb a).trans (h.frozen a ha)
theorem cj {w:World} {b:Nat} {C:Array Value} {E:TypeId} {fr:Nat×Nat} (h:w.heap[b]? =some (.cells C E fr)) (o n:Nat):aE w b o n=(C.toList.drop o).take n:=by
 simp [aE,h]
theorem Ki.frame {w w':World} {a:Option Addr} {cap:Nat} {e:Ty} {xs:List e.D} {i off:Nat} {u:Ty} {h:Loc} {fp:List Nat}
  (hw:Ki z w a cap e xs i off u h fp) (hs:∀ b∈fp,w'.heap[b]? =w.heap[b]?):Ki z w' a cap e xs i off u h fp:=by
 obtain ⟨a',nV,j7,e',b,o,C,E,h1,h2,h3,h4,h5,h6,h7⟩:=hw;exact ⟨a',nV,j7,e',b,o,C,E,h1,h2,h3,h4,(hs b h4).trans h5,h6,fun z'' w'' C' hd ys fp' q0 q1 q2 q3 q4 q5=>h7 z'' w'' C' hd ys fp' q0 q1 q2 q3 q4 fun b' hb dW=>(q5 b' hb dW).trans (hs b' hb)⟩
theorem cL.frame {c:Ctx} {μ μ':Nat→Loc} {w w':World} {id:Nat} {fp:List Nat} {x:bQ} (h:cL c μ w id fp x)
  (hs:∀ b∈fp,w'.heap[b]? =w.heap[b]?) (A7:μ' id=μ id) (hi:∀ dS∈x.ids,μ' dS=μ dS):cL c μ' w' id fp x:=by
 cases x with
 |var cs=>
  obtain ⟨B,o,C,E,h1,rfl,h2,h3,h4,h5,h6⟩:=h;refine ⟨B,o,C,E,A7.trans h1,rfl,(hs B (by simp)).trans h2,h3, ?_,h5,h6⟩;rw [fc (hs B (by simp))];exact aj.mono cs hi h4
 |arr e xs=>
  obtain ⟨a,cap,h1,h2,h3⟩:=h;exact ⟨a,cap,A7.trans h1,Ty.df _ h2 hs,h3⟩
 |AW e xs x i off u dS=>
  obtain ⟨a,cap,h1,h2,h3,h4⟩:=h;refine ⟨a,cap,A7.trans h1, ?_,h3,h4⟩;rw [hi dS (by simp [bQ.ids])];exact h2.frame hs
 |it s p=>
  obtain ⟨B,h1,rfl,h2,h3,h4⟩:=h;exact ⟨B,A7.trans h1,rfl,(hs B (by simp)).trans h2,h3,h4⟩
 |cut e ys k=>
  obtain ⟨a,cap,a',h1,h2,h3,h4,h5,h6⟩:=h;exact ⟨a,cap,a',A7.trans h1,h2,h3,h4,Ty.df _ h5 hs,h6⟩
 |vG e xs i cs=>
  obtain ⟨a,cap,b,o,C,E,p,q,h1,h2,rfl,h4,h5,h6,h7,h8,h9,UZ,U0,h13,O8⟩:=h;refine ⟨a,cap,b,o,C,E,p,q,A7.trans h1,h2,rfl,(hs b (by simp)).trans h4,h5,h6,h7,h8.frame (Fz.le_refl _) (fun b' cf=>hs b' (afV _ cf)) rfl (fun _ _=>rfl), ?_,UZ,U0,h13,O8⟩;rw [fc (hs b (by simp))];exact aj.mono cs hi h9
theorem cX.frame {c:Ctx} {μ μ':Nat→Loc} {fp:Nat→List Nat} {v:Env} {w w':World} (h:cX c μ fp v w) (hz:w.heap.size≤w'.heap.size)
  (hs:∀ id,v id≠none→∀ b∈fp id,w'.heap[b]? =w.heap[b]?) (A7:∀ id x,v id=some x→μ' id=μ id∧∀ dS∈x.ids,μ' dS=μ dS):cX c μ' fp v w' where
 rel id x hx:=(h.rel id x hx).frame (hs id (by simp [hx])) (A7 id x hx).1 (A7 id x hx).2
 nodup:=h.nodup
 sep:=h.sep
 jg:=h.jg
 lt id hx b hb:=acO (h.lt id hx b hb) hz
end
section
open Go
variable {z:Fz}
mutual
theorem Ty.beq_refl:(t:Ty)→t.beq t=true
 | .bool=>rfl
 | .int _=>by simp [Ty.beq]
 | .str=>rfl
 | .hole=>rfl
 | .sl e=>by simp only [Ty.beq];exact Ty.beq_refl e
 | .fz e=>by simp only [Ty.beq];exact Ty.beq_refl e
 | .st fs=>by simp only [Ty.beq];exact aI.beq_refl fs
theorem aI.beq_refl:(t:aI)→t.beq t=true
 | .nil=>rfl
 | .cons t ts=>by simp_all [aI.beq,aaE,Ty.beq_refl,aI.beq_refl]
end
theorem Ty.eL (t:Ty) (x:t.D):Ty.cast t t x=some x:=by simp_all [Ty.cast,dif_pos,Ty.beq_refl]
def air (z:Fz) (w:World) (t:Ty) (cs:List Value) (x:t.D) (fp:List Nat) (off:Nat) (u:Ty) (y:u.D):Prop:=
 ∃ pre wA post f1 fm f2,cs=pre++wA++post∧pre.length=off∧fp=f1++fm++f2∧u.au z w wA y fm∧
   ∀ (z':Fz) (w':World) (xw:List Value) (y':u.D) (On:List Nat),z.le z'→(∀ b∈f1++f2,w'.heap[b]? =w.heap[b]?)→u.au z' w' xw y' On→
     ∃ x',t.cK x off u y'=some x'∧t.au z' w' (pre++xw++post) x' (f1++On++f2)
def ais (z:Fz) (w:World) (t:aI) (cs:List Value) (x:t.D) (fp:List Nat) (off:Nat) (u:Ty) (y:u.D):Prop:=
 ∃ pre wA post f1 fm f2,cs=pre++wA++post∧pre.length=off∧fp=f1++fm++f2∧u.au z w wA y fm∧
   ∀ (z':Fz) (w':World) (xw:List Value) (y':u.D) (On:List Nat),z.le z'→(∀ b∈f1++f2,w'.heap[b]? =w.heap[b]?)→u.au z' w' xw y' On→
     ∃ x',t.cK x off u y'=some x'∧t.au z' w' (pre++xw++post) x' (f1++On++f2)
theorem jw {w:World} {t:Ty} {cs:List Value} {x:t.D} {fp:List Nat} {u:Ty} {y:u.D} (h:t.au z w cs x fp) (hc:Ty.cast t u x=some y)
  (Hd:∀ y',t.cK x 0 t y'=some y'):air z w t cs x fp 0 u y:=by
 obtain ⟨rfl,rfl⟩:=Ty.dD hc;refine ⟨[],cs,[],[],fp,[],by simp,rfl,by simp,h,by grind⟩
mutual
theorem Ty.lI {w:World}:(t:Ty)→{cs:List Value}→{x:t.D}→{fp:List Nat}→{off:Nat}→{u:Ty}→{y:u.D}→t.au z w cs x fp→t.cF x off u=some y→air z w t cs x fp off u y
 | .bool,_,x,_,off,u,_,h,hg=>by grind [Ty.cF,jw,Ty.cK,Ty.eL]
 | .int _,_,x,_,off,u,_,h,hg=>by grind [Ty.cF,jw,Ty.cK,Ty.eL]
 | .str,_,x,_,off,u,_,h,hg=>by grind [Ty.cF,jw,Ty.cK,Ty.eL]
 | .hole,_,x,_,off,u,_,h,hg=>by grind [Ty.cF,jw,Ty.cK,Ty.eL]
 | .sl _,_,x,_,off,u,_,h,hg=>by grind [Ty.cF,jw,Ty.cK,Ty.eL]
 | .fz _,_,x,_,off,u,_,h,hg=>by grind [Ty.cF,jw,Ty.cK,Ty.eL]
 | .st fs,cs,x,fp,off,u,y,h,hg=>by
   simp only [Ty.cF] at hg;split at hg
   . rename_i h0
     obtain ⟨rfl,hb⟩:=h0;exact jw h hg fun y'=>by simp [Ty.cK,Ty.beq_refl,Ty.eL]
   . rename_i h0
     have h':fs.au z w cs x fp:=by grind [Ty.au]
     obtain ⟨pre,wA,post,f1,fm,f2,h1,h2,h3,h4,h5⟩:=aI.lI fs h' hg;refine ⟨pre,wA,post,f1,fm,f2,h1,h2,h3,h4,fun z' w' xw y' On hz hs hr=> ?_⟩;obtain ⟨x',hx,GQ⟩:=h5 z' w' xw y' On hz hs hr;refine ⟨x', ?_,by grind [Ty.au]⟩;have:¬ (off=0∧u.beq (.st fs)=true):=by grind [Ty.beq_eq,Ty.beq_refl]
     simp only [Ty.cK,this];exact hx
theorem aI.lI {w:World}:(t:aI)→{cs:List Value}→{x:t.D}→{fp:List Nat}→{off:Nat}→{u:Ty}→{y:u.D}→t.au z w cs x fp→t.cF x off u=some y→ais z w t cs x fp off u y
 | .nil,_,_,_,_,_,_,_,hg=>by grind [aI.cF]
 | .cons t ts,_,x,_,off,u,y,h,hg=>by
   simp only [aI.au] at h;obtain ⟨c1,c2,g1,g2,rfl,rfl,hr1,hr2⟩:=h;simp only [aI.cF] at hg;split at hg
   . rename_i bZ
     obtain ⟨pre,wA,post,f1,fm,f2,rfl,h2,rfl,h4,h5⟩:=Ty.lI t hr1 hg;refine ⟨pre,wA,post++c2,f1,fm,f2++g2,by simp,h2,by simp,h4,fun z' w' xw y' On hz hs hr=> ?_⟩;obtain ⟨x',hx,GQ⟩:=h5 z' w' xw y' On hz (fun b hb=>hs b (by simp at hb ⊢; rcases hb with h|h<;>simp [h])) hr;refine ⟨(x',x.2),by simp only [aI.cK,bZ,af7,hx];rfl, ?_⟩;simp only [aI.au];exact ⟨pre++xw++post,c2,f1++On++f2,g2,by simp,by simp,GQ,by grind [aI.dc,aI.df]⟩
   . rename_i bZ
     obtain ⟨pre,wA,post,f1,fm,f2,rfl,h2,rfl,h4,h5⟩:=aI.lI ts hr2 hg;have hl:=Ty.fh t hr1;refine ⟨c1++pre,wA,post,g1++f1,fm,f2,by simp,by grind,by simp,h4,fun z' w' xw y' On hz hs hr=> ?_⟩;obtain ⟨x',hx,GQ⟩:=h5 z' w' xw y' On hz (fun b hb=>hs b (by simp at hb ⊢; rcases hb with h|h<;>simp [h])) hr;refine ⟨(x.1,x'),by simp only [aI.cK,bZ,agF,hx];rfl, ?_⟩;simp only [aI.au];exact ⟨c1,pre++xw++post,g1,f1++On++f2,by simp,by simp,by grind [Ty.dc,Ty.df],GQ⟩
end
mutual
theorem Ty.jh:(t:Ty)→{x:t.D}→{off:Nat}→{u:Ty}→{y:u.D}→{x':t.D}→t.cK x off u y=some x'→∃ z,t.cF x off u=some z
 | .bool,x,off,u,y,x',h=>by
   simp only [Ty.cK] at h;split at h
   . rename_i h0;obtain ⟨rfl,_⟩:=Ty.dD h;grind [Ty.cF,Ty.eL]
   . simp at h
 | .int _,x,off,u,y,x',h=>by
   simp only [Ty.cK] at h;split at h
   . rename_i h0;obtain ⟨rfl,_⟩:=Ty.dD h;grind [Ty.cF,Ty.eL]
   . simp at h
 | .str,x,off,u,y,x',h=>by
   simp only [Ty.cK] at h;split at h
   . rename_i h0;obtain ⟨rfl,_⟩:=Ty.dD h;grind [Ty.cF,Ty.eL]
   . simp at h
 | .hole,x,off,u,y,x',h=>by
   simp only [Ty.cK] at h;split at h
   . rename_i h0;obtain ⟨rfl,_⟩:=Ty.dD h;grind [Ty.cF,Ty.eL]
   . simp at h
 | .sl _,x,off,u,y,x',h=>by
   simp only [Ty.cK] at h;split at h
   . rename_i h0;obtain ⟨rfl,_⟩:=Ty.dD h;grind [Ty.cF,Ty.eL]
   . simp at h
 | .fz _,x,off,u,y,x',h=>by
   simp only [Ty.cK] at h;split at h
   . rename_i h0;obtain ⟨rfl,_⟩:=Ty.dD h;grind [Ty.cF,Ty.eL]
   . simp at h
 | .st fs,x,off,u,y,x',h=>by
   by_cases h0:off=0∧u.beq (Ty.st fs)=true
   . have h:Ty.cast u (.st fs) y=some x':=(aaK h0).symm.trans h
     obtain ⟨rfl,_⟩:=Ty.dD h;grind [Ty.cF,Ty.eL]
   . have h:fs.cK x off u y=some x':=(aap h0).symm.trans h
     obtain ⟨z,hz⟩:=aI.jh fs h;have:¬ (off=0∧(Ty.st fs).beq u=true):=by grind [Ty.beq_eq,Ty.beq_refl]
     exact ⟨z,(aap this).trans hz⟩
theorem aI.jh:(t:aI)→{x:t.D}→{off:Nat}→{u:Ty}→{y:u.D}→{x':t.D}→t.cK x off u y=some x'→∃ z,t.cF x off u=some z
 | .nil,_,_,_,_,_,h=>by simp [aI.cK] at h
 | .cons t ts,x,off,u,y,x',h=>by
   simp only [aI.cK] at h;split at h
   . rename_i bZ
     cases hx:t.cK x.1 off u y with
     |none=>rw [hx] at h;cases h
     |some z=>obtain ⟨q,hq⟩:=Ty.jh t hx;exact ⟨q,by simp [aI.cF,bZ,hq]⟩
   . rename_i bZ
     cases hx:ts.cK x.2 (off - t.size) u y with
     |none=>rw [hx] at h;cases h
     |some z=>obtain ⟨q,hq⟩:=aI.jh ts hx;exact ⟨q,by simp [aI.cF,bZ,hq]⟩
end
/- The same for what is only read. -/
mutual
theorem Ty.qu {S:Nat→Prop} {w:World}:(t:Ty)→{cs:List Value}→{x:t.D}→{off:Nat}→{u:Ty}→{y:u.D}→t.aQ S w cs x→t.cF x off u=some y→
  ∃ pre wA post,cs=pre++wA++post∧pre.length=off∧u.aQ S w wA y
 | .bool,cs,x,off,u,_,h,hg=>by
   simp only [Ty.cF] at hg;split at hg
   . rename_i h0;obtain ⟨rfl,rfl⟩:=Ty.dD hg;exact ⟨[],cs,[],by simp,h0.symm,h⟩
   . simp at hg
 | .int _,cs,x,off,u,_,h,hg=>by
   simp only [Ty.cF] at hg;split at hg
   . rename_i h0;obtain ⟨rfl,rfl⟩:=Ty.dD hg;exact ⟨[],cs,[],by simp,h0.symm,h⟩
   . simp at hg
 | .str,cs,x,off,u,_,h,hg=>by
   simp only [Ty.cF] at hg;split at hg
   . rename_i h0;obtain ⟨rfl,rfl⟩:=Ty.dD hg;exact ⟨[],cs,[],by simp,h0.symm,h⟩
   . simp at hg
 | .hole,cs,x,off,u,_,h,hg=>by
   simp only [Ty.cF] at hg;split at hg
   . rename_i h0;obtain ⟨rfl,rfl⟩:=Ty.dD hg;exact ⟨[],cs,[],by simp,h0.symm,h⟩
   . simp at hg
 | .sl _,cs,x,off,u,_,h,hg=>by
   simp only [Ty.cF] at hg;split at hg
   . rename_i h0;obtain ⟨rfl,rfl⟩:=Ty.dD hg;exact ⟨[],cs,[],by simp,h0.symm,h⟩
   . simp at hg
 | .fz _,cs,x,off,u,_,h,hg=>by
   simp only [Ty.cF] at hg;split at hg
   . rename_i h0;obtain ⟨rfl,rfl⟩:=Ty.dD hg;exact ⟨[],cs,[],by simp,h0.symm,h⟩
   . simp at hg
 | .st fs,cs,x,off,u,y,h,hg=>by
   simp only [Ty.cF] at hg;split at hg
   . rename_i h0;obtain ⟨rfl,rfl⟩:=Ty.dD hg;exact ⟨[],cs,[],by simp,h0.1.symm,h⟩
   . have h':fs.aQ S w cs x:=by simpa only [Ty.aQ] using h
     exact aI.qu fs h' hg
theorem aI.qu {S:Nat→Prop} {w:World}:(t:aI)→{cs:List Value}→{x:t.D}→{off:Nat}→{u:Ty}→{y:u.D}→t.aQ S w cs x→t.cF x off u=some y→
  ∃ pre wA post,cs=pre++wA++post∧pre.length=off∧u.aQ S w wA y
 | .nil,_,_,_,_,_,_,hg=>by grind [aI.cF]
 | .cons t ts,_,x,off,u,y,h,hg=>by
   simp only [aI.aQ] at h;obtain ⟨c1,c2,rfl,hr1,hr2⟩:=h;simp only [aI.cF] at hg;split at hg
   . obtain ⟨pre,wA,post,rfl,h2,h4⟩:=Ty.qu t hr1 hg
     grind
   . rename_i bZ
     obtain ⟨pre,wA,post,rfl,h2,h4⟩:=aI.qu ts hr2 hg;grind [Ty.ki]
end
mutual
theorem Ty.nW {c:Ctx} {μ:Nat→Loc}:(t:Ty)→{cs:List Value}→{x:t.D}→t.aQ c.S c.w0 cs x→aj c μ cs (t.jE x)
 | .bool,cs,x,h=>by grind [Ty.aQ,Ty.jE,aj,an]
 | .int _,cs,x,h=>by grind [Ty.aQ,Ty.jE,aj,an]
 | .str,cs,x,h=>by grind [Ty.aQ,Ty.jE,aj,an]
 | .hole,cs,x,h=>by simp only [Ty.aQ] at h;obtain ⟨v,rfl,hv⟩:=h;simpa [Ty.jE,aj,an] using hv
 | .sl e,cs,x,h=>by
   have h':=h;simp only [Ty.aQ] at h;obtain ⟨a,cap,rfl,_⟩:=h;simp only [Ty.jE,aj];exact ⟨_,[],rfl,by simp only [an];exact ⟨h',by simp⟩,rfl⟩
 | .fz e,cs,x,h=>by
   have h':=j0.1 h;simp only [Ty.aQ] at h;obtain ⟨a,cap,rfl,_⟩:=h;simp only [Ty.jE,aj];exact ⟨_,[],rfl,by simp only [an];exact ⟨h',by simp⟩,rfl⟩
 | .st fs,cs,x,h=>by simp only [Ty.jE];exact aI.nW fs (by simpa only [Ty.aQ] using h)
theorem aI.nW {c:Ctx} {μ:Nat→Loc}:(t:aI)→{cs:List Value}→{x:t.D}→t.aQ c.S c.w0 cs x→aj c μ cs (t.jE x)
 | .nil,cs,x,h=>by grind [aI.aQ,aI.jE,aj]
 | .cons t ts,cs,x,h=>by
   simp only [aI.aQ] at h;obtain ⟨c1,c2,rfl,h1,h2⟩:=h;simp only [aI.jE];exact (Ty.nW t h1).append (aI.nW ts h2)
end
mutual
theorem Ty.nX {c:Ctx} {μ:Nat→Loc} {w:World}:(t:Ty)→{cs:List Value}→{x:t.D}→{fp:List Nat}→t.au c.fz w cs x fp→aj c μ cs (t.jF x)
 | .bool,cs,x,_,h=>by grind [Ty.au,Ty.jF,aj,an]
 | .int _,cs,x,_,h=>by grind [Ty.au,Ty.jF,aj,an]
 | .str,cs,x,_,h=>by grind [Ty.au,Ty.jF,aj,an]
 | .hole,cs,x,_,h=>by simp only [Ty.au] at h;obtain ⟨⟨v,rfl,hv⟩,_⟩:=h;simpa [Ty.jF,aj,an] using hv
 | .sl e,cs,x,_,h=>by
   simp only [Ty.au] at h;obtain ⟨a,cap,rfl,_⟩:=h;simp only [Ty.jF,aj];exact ⟨_,[],rfl,by simp only [an];rfl,rfl⟩
 | .fz e,cs,x,_,h=>by
   have h:=(show _∧_ by simpa only [Ty.au] using h).1;have h':=j0.1 h;simp only [Ty.aQ] at h;obtain ⟨a,cap,rfl,_⟩:=h;simp only [Ty.jF,aj];exact ⟨_,[],rfl,by simp only [an];exact ⟨h',by simp⟩,rfl⟩
 | .st fs,cs,x,_,h=>by simp only [Ty.jF];exact aI.nX fs (by simpa only [Ty.au] using h)
theorem aI.nX {c:Ctx} {μ:Nat→Loc} {w:World}:(t:aI)→{cs:List Value}→{x:t.D}→{fp:List Nat}→t.au c.fz w cs x fp→aj c μ cs (t.jF x)
 | .nil,cs,x,_,h=>by grind [aI.au,aI.jF,aj]
 | .cons t ts,cs,x,_,h=>by
   simp only [aI.au] at h;obtain ⟨c1,c2,f1,f2,rfl,rfl,h1,h2⟩:=h;simp only [aI.jF];exact (Ty.nX t h1).append (aI.nX ts h2)
end
theorem Ce {α:Type} (l:List (List α)) (i:Nat) (h:i<l.length):l.flatten=(l.take i).flatten++l[i]++(l.drop (i+1)).flatten:=by grind [List.take_append_drop,List.flatten_append,List.drop_eq_getElem_cons,List.flatten_cons,List.append_assoc]
theorem Ia {α:Type} (l:List (List α)) (o n:Nat):(((l.drop o).take n).flatten).Sublist l.flatten:=by
 have e:l.flatten=(l.take o).flatten++(((l.drop o).take n).flatten++((l.drop o).drop n).flatten):=by grind [List.flatten_append,List.take_append_drop]
 grind
theorem xx {w:World} {e:Ty} {a:Option Addr} {cap:Nat} {xs:List e.D} {fp:List Nat} (h:(Ty.sl e).au z w [.slice a xs.length cap] xs fp) {i:Nat} {x:e.D} (hx:xs[i]? =some x):
  ∃ b o C E p fi q,a=some ⟨b,o,none⟩∧w.heap[b]? =some (.cells C E (0,0))∧o+cap*e.size≤C.size∧xs.length≤cap∧fp=b::(p++fi++q)∧
    e.au z w (aE w b (o+i*e.size) e.size) x fi∧
    ∀ (z':Fz) (w':World) (x':e.D) (I4:List Nat) (C':Array Value),z.le z'→w'.heap[b]? =some (.cells C' E (0,0))→C'.size=C.size→
      (∀ j,j<o+i*e.size∨o+(i+1)*e.size≤j→C'[j]? =C[j]?)→(∀ b'∈p++q,w'.heap[b']? =w.heap[b']?)→b ∉ p++q→
      e.au z' w' (aE w' b (o+i*e.size) e.size) x' I4→(Ty.sl e).au z' w' [.slice a xs.length cap] (xs.set i x') (b::(p++I4++q)):=by
 have bZ:i<xs.length:=(by grind)
 simp only [Ty.au] at h;obtain ⟨a',j7,he,hc,h⟩:=h;cases he;rcases h with ⟨h0,_⟩|⟨b,o,C,E,fps,ha,hb,ho,hl,hf,hi⟩
 . omega
 have hif:i<fps.length:=by omega
 have jt:fps=fps.take i++fps[i]::fps.drop (i+1):=by simp_all
 refine ⟨b,o,C,E,(fps.take i).flatten,fps[i],(fps.drop (i+1)).flatten,ha,hb,ho,hc.1, ?_,by grind, ?_⟩
 . grind
 intro z' w' x' I4 C' hzz cf hz vO Th hnb hr;simp only [Ty.au];refine ⟨a,cap,by simp,by simpa using hc, .inr ⟨b,o,C',E,fps.set i I4,ha,cf,by omega,by simpa using hl, ?_, ?_⟩⟩
 . grind
 intro j y f hy hfj;by_cases hj:j=i
 . grind
 . have Gq:(xs.set i x')[j]? =some y:=hy
   have hf0:(fps.set i I4)[j]? =some f:=hfj;have ov:xs[j]? =some y:=by grind
   have B5:fps[j]? =some f:=by grind
   have VG:j<fps.length:=(by grind)
   have Ib:∀ b'∈f,b'∈(fps.take i).flatten++(fps.drop (i+1)).flatten:=by
    intro b' cf;have hfe:fps[j]=f:=(by grind)
    simp only [aaN,ahU];grind
   have amb:aE w' b (o+j*e.size) e.size=aE w b (o+j*e.size) e.size:=by
    rw [cj cf,cj hb];apply adQ;intro k;by_cases hk:k<e.size
    . rw [aca hk,aca hk,acb,acb,acL,acL]
      apply vO;rcases ae0 j i with h|h
      . left
        have:(j+1)*e.size≤i*e.size:=ab9 _ h;grind
      . right
        have:(i+1)*e.size≤j*e.size:=ab9 _ (by omega);omega
    grind
   grind [Ty.dc,Ty.df]
theorem Oo {S:Nat→Prop} {w:World} {e:Ty} {v:Value} {xs:List e.D} (h:(Ty.sl e).aQ S w [v] xs) {i:Nat} {x:e.D} (hx:xs[i]? =some x):
  ∃ b o cap,v= .slice (some ⟨b,o,none⟩) xs.length cap∧S b∧e.aQ S w (aE w b (o+i*e.size) e.size) x:=by
 simp only [Ty.aQ] at h;grind
theorem A8 {S:Nat→Prop} {w:World} {e:Ty} {a:Option Addr} {n cap:Nat} {xs:List e.D} (h:(Ty.sl e).aQ S w [.slice a n cap] xs) {o l:Nat} (hl:o+l≤n) {a':Option Addr}
  (ha:cap - o=0∨∃ b o',a=some ⟨b,o',none⟩∧a'=some ⟨b,o'+o*e.size,none⟩):(Ty.sl e).aQ S w [.slice a' l (cap - o)] ((xs.drop o).take l):=by
 simp only [Ty.aQ] at h ⊢;obtain ⟨a0,Oq,he,hc,h⟩:=h;cases he;have hlen:((xs.drop o).take l).length=l:=by simp;omega
 refine ⟨a',cap - o,by rw [hlen],by grind, ?_⟩;grind
theorem Ti {w:World} {e:Ty} {a:Option Addr} {n cap:Nat} {xs:List e.D} {fp:List Nat} (h:(Ty.sl e).au z w [.slice a n cap] xs fp) {o l:Nat} (hl:o+l≤n) {a':Option Addr}
  (ha:cap - o=0∨∃ b o',a=some ⟨b,o',none⟩∧a'=some ⟨b,o'+o*e.size,none⟩):
  ∃ fp',(Ty.sl e).au z w [.slice a' l (cap - o)] ((xs.drop o).take l) fp'∧(fp.Nodup→fp'.Nodup)∧∀ b∈fp',b∈fp:=by
 simp only [Ty.au] at h;obtain ⟨a0,Oq,he,hc,h⟩:=h;cases he;have hlen:((xs.drop o).take l).length=l:=by simp;omega
 by_cases h0:cap - o=0
 . refine ⟨[], ?_,by simp,by simp⟩
   grind [Ty.au]
 rcases ha with ha|⟨b',o',he,rfl⟩
 . omega
 rcases h with ⟨h1,_⟩|⟨b,o1,C,E,fps,ha,hb,ho,hlf,rfl,hi⟩
 . omega
 subst he;cases ha;refine ⟨b'::((fps.drop o).take l).flatten, ?_, ?_, ?_⟩
 . simp only [Ty.au]
   refine ⟨_,cap - o,by rw [hlen],by grind, .inr ⟨b',o'+o*e.size,C,E,(fps.drop o).take l,rfl,hb, ?_,by simp;omega,by simp, ?_⟩⟩
   . rw [Nat.sub_mul]
     have:o*e.size≤cap*e.size:=ab9 _ (by omega);omega
   grind
 . grind [Ia]
 . intro x hx
   simp only [abE,ahU] at hx ⊢;grind
end
section
open Go
variable {z:Fz}
theorem jn {e e':Ty} {xs:List e'.D} {ys:List e.D} (h:Ty.cast (.sl e') (.sl e) xs=some ys):∃ he:e'=e,ys=he ▸ xs:=by
 unfold Ty.cast at h;grind
theorem qv (S:Nat→Prop) (w:World) (e:Ty) (a:Option Addr):(Ty.sl e).aQ S w [.slice a 0 0] ([]:List e.D):=by
 simp only [Ty.aQ];exact ⟨a,0,rfl,by grind, .inl rfl⟩
theorem vP (w:World) (e:Ty) (a:Option Addr):(Ty.sl e).au z w [.slice a 0 0] ([]:List e.D) []:=by
 simp only [Ty.au];exact ⟨a,0,rfl,⟨abD 0,afO _⟩, .inl ⟨rfl,trivial⟩⟩
section
variable {c:Ctx} {μ:Nat→Loc} {fp:Nat→List Nat} {v:Env} {w:World} {E:Env}
theorem cX.jG (h:cX c μ fp v w):∀ (ids:List Nat),ids.Nodup→(∀ id∈ids,v id≠none)→(ids.flatMap fp).Nodup
 |[],_,_=>by simp
 |id::ids,hn,hp=>by
  rw [ac9] at hn;rw [List.flatMap_cons,acd];obtain ⟨x,hx⟩:=Option.ne_none_iff_exists'.1 (hp id (by simp));refine ⟨h.nodup id x hx,h.jG ids hn.2 (by grind), ?_⟩;intro a ha b hb e;subst e;obtain ⟨i,hi,hm⟩:=List.mem_flatMap.1 hb;exact h.sep id i (by grind) (hp id (by simp)) (hp i (by simp [hi])) a ha hm
theorem M3 {ds:List ai} {r:Bool×List ai} (h:Y3 ds=some r):ds= .b r.1::r.2:=by
 unfold Y3 at h;grind
theorem M4 {k:IntKind} {ds:List ai} {r:Int×List ai} (h:Y4 k ds=some r):ds= .i k r.1::r.2:=by
 unfold Y4 at h;grind
theorem Tj {cs:List Value} {ds:List ai} {r:Unit×List ai} (hr:aj c μ cs ds) (h:aeA ds=some r):∃ x vs d,cs=x::vs∧ds=d::r.2∧d.bC=true∧an c μ x d∧aj c μ vs r.2:=by
 unfold aeA at h;split at h
 . rename_i d q
   split at h
   . rename_i hd
     cases h;simp only [aj] at hr;obtain ⟨x,vs,rfl,hx,hr⟩:=hr;exact ⟨x,vs,d,rfl,rfl,hd,hx,hr⟩
   . cases h
 . cases h
theorem M5 {ds:List ai} {r:List UInt8×List ai} (h:Y5 ds=some r):ds= .s r.1::r.2:=by
 unfold Y5 at h;grind
theorem Ic {e:Ty} {cs:List Value} {ds:List ai} {r:List e.D×List ai} (hr:aj c μ cs ds) (h:SR e ds=some r):
  ∃ x vs,cs=x::vs∧(Ty.sl e).aQ c.S c.w0 [x] r.1∧aj c μ vs r.2:=by
 unfold SR at h;split at h
 . cases h
   simp only [aj] at hr;obtain ⟨x,vs,rfl,hx,hr⟩:=hr;simp only [an] at hx;obtain ⟨a,rfl⟩:=hx;exact ⟨_,vs,rfl,qv c.S c.w0 e a,hr⟩
 . obtain ⟨y,hy,rfl⟩:=Option.map_eq_some_iff.1 h
   obtain ⟨he,Cf⟩:=jn hy;clear hy h;subst he;simp only [aj] at hr;obtain ⟨x,vs,rfl,hx,hr⟩:=hr;simp only [an] at hx;grind
 . cases h
theorem Tk (h:∀ id x,v id=some x→cL c μ w id (fp id) x) (hE:∀ id x,E id=some x→v id=some x) {e:Ty} {cs:List Value} {ds:List ai} {r:List e.D×List ai×List Nat} (hr:aj c μ cs ds) (hf:aeB E e ds=some r):
  ∃ x vs,cs=x::vs∧(Ty.sl e).au c.fz w [x] r.1 (r.2.2.flatMap fp)∧aj c μ vs r.2.1∧ai.bI ds=r.2.2++ai.bI r.2.1∧(∀ k∈r.2.2,∃ e xs,E k=some (.arr e xs))∧(∀ b∈r.2.2.flatMap fp,b<c.w0.heap.size→∀ j,c.M b j):=by
 unfold aeB at hf;split at hf
 . cases hf
   simp only [aj] at hr;obtain ⟨x,vs,rfl,hx,hr⟩:=hr;simp only [an] at hx;obtain ⟨a,rfl⟩:=hx;exact ⟨_,vs,rfl,vP w e a,hr,rfl,by simp,by simp⟩
 . rename_i id q
   split at hf
   . rename_i e' xs he
     obtain ⟨y,hy,rfl⟩:=Option.map_eq_some_iff.1 hf;obtain ⟨hee,Cf⟩:=jn hy;clear hy hf;subst hee;simp only [aj] at hr;obtain ⟨x,vs,rfl,hx,hr⟩:=hr;simp only [an] at hx;obtain ⟨a,len,cap,sz,hm,rfl⟩:=hx;obtain ⟨a',j7,pI,dI,Tl⟩:=h id _ (hE _ _ he);rw [pI] at hm;cases hm;exact ⟨_,vs,rfl,by grind,hr,rfl,by grind,by grind⟩
   . cases hf
 . cases hf
mutual
theorem Ty.nY (h:∀ id x,v id=some x→cL c μ w id (fp id) x) (hE:∀ id x,E id=some x→v id=some x):
  (t:Ty)→{cs:List Value}→{ds:List ai}→{r:t.D×List ai×List Nat}→aj c μ cs ds→t.vH E ds=some r→
   ∃ c1 c2,cs=c1++c2∧t.au c.fz w c1 r.1 (r.2.2.flatMap fp)∧aj c μ c2 r.2.1∧ai.bI ds=r.2.2++ai.bI r.2.1∧(∀ k∈r.2.2,∃ e xs,E k=some (.arr e xs))∧(∀ b∈r.2.2.flatMap fp,b<c.w0.heap.size→∀ j,c.M b j)
 | .bool,cs,ds,r,hr,hf=>by
   obtain ⟨y,hy,rfl⟩:=Option.map_eq_some_iff.1 hf;rw [M3 hy] at hr ⊢;simp only [aj] at hr;obtain ⟨x,vs,rfl,hx,hr⟩:=hr;simp only [an] at hx;subst hx;exact ⟨[_],vs,rfl,by simp [Ty.au],hr,rfl,by simp,by simp⟩
 | .int k,cs,ds,r,hr,hf=>by
   obtain ⟨y,hy,rfl⟩:=Option.map_eq_some_iff.1 hf;rw [M4 hy] at hr ⊢;simp only [aj] at hr;obtain ⟨x,vs,rfl,hx,hr⟩:=hr;simp only [an] at hx;subst hx;exact ⟨[_],vs,rfl,by simp [Ty.au],hr,rfl,by simp,by simp⟩
 | .str,cs,ds,r,hr,hf=>by
   obtain ⟨y,hy,rfl⟩:=Option.map_eq_some_iff.1 hf;rw [M5 hy] at hr ⊢;simp only [aj] at hr;obtain ⟨x,vs,rfl,hx,hr⟩:=hr;simp only [an] at hx;exact ⟨[_],vs,rfl,by simp only [Ty.au];exact ⟨by rw [hx.1],rfl,hx.2⟩,hr,rfl,by simp,by simp⟩
 | .hole,cs,ds,r,hr,hf=>by
   obtain ⟨y,hy,rfl⟩:=Option.map_eq_some_iff.1 hf;unfold aih at hy;split at hy
   . rename_i d q
     split at hy
     . rename_i hd
       cases hy;simp only [aj] at hr;obtain ⟨x,vs,rfl,hx,hr⟩:=hr;exact ⟨[x],vs,rfl,by simp only [Ty.au];exact ⟨⟨x,rfl,hx.iP hd.1⟩,rfl⟩,hr,by grind [ai.bI],by simp,by simp⟩
     . cases hy
   . cases hy
 | .sl e,cs,ds,r,hr,hf=>by
   obtain ⟨x,vs,rfl,h1,h2,h3,h4,h5⟩:=Tk h hE hr hf;grind
 | .fz e,cs,ds,r,hr,hf=>by
   obtain ⟨y,hy,rfl⟩:=Option.map_eq_some_iff.1 hf;obtain ⟨x,vs,rfl,hx,GQ⟩:=Ic hr hy;refine ⟨[x],vs,rfl,by simp only [Ty.au];exact ⟨j0.2 hx,rfl⟩,GQ, ?_,by simp,by simp⟩;unfold SR at hy;split at hy
   . cases hy;rfl
   . obtain ⟨z,_,rfl⟩:=Option.map_eq_some_iff.1 hy;rfl
   . cases hy
 | .st fs,cs,ds,r,hr,hf=>by
   obtain ⟨c1,c2,h1,h2,h3⟩:=aI.nY h hE fs hr hf;grind [Ty.au]
theorem aI.nY (h:∀ id x,v id=some x→cL c μ w id (fp id) x) (hE:∀ id x,E id=some x→v id=some x):
  (t:aI)→{cs:List Value}→{ds:List ai}→{r:t.D×List ai×List Nat}→aj c μ cs ds→t.vH E ds=some r→
   ∃ c1 c2,cs=c1++c2∧t.au c.fz w c1 r.1 (r.2.2.flatMap fp)∧aj c μ c2 r.2.1∧ai.bI ds=r.2.2++ai.bI r.2.1∧(∀ k∈r.2.2,∃ e xs,E k=some (.arr e xs))∧(∀ b∈r.2.2.flatMap fp,b<c.w0.heap.size→∀ j,c.M b j)
 | .nil,cs,ds,r,hr,hf=>by
   simp only [aI.vH,adh] at hf;subst hf;exact ⟨[],cs,rfl,by simp [aI.au],hr,rfl,by simp,by simp⟩
 | .cons t ts,cs,ds,r,hr,hf=>by
   unfold aI.vH at hf;obtain ⟨x,hx,hf⟩:=Option.bind_eq_some_iff.1 hf;obtain ⟨y,hy,rfl⟩:=Option.map_eq_some_iff.1 hf;obtain ⟨c1,c2,rfl,h2,h3,h4,h5,h6⟩:=Ty.nY h hE t hr hx;obtain ⟨c3,c4,rfl,g2,g3,g4,g5,g6⟩:=aI.nY h hE ts h3 hy;refine ⟨c1++c3,c4,by simp, ?_,g3, ?_, ?_, ?_⟩
   . simp only [aI.au,List.flatMap_append];exact ⟨c1,c3,_,_,rfl,rfl,h2,g2⟩
   . rw [h4,g4,aez]
   . intro k hk
     rcases aaN.1 hk with hk|hk
     . exact h5 k hk
     . exact g5 k hk
   . intro b hb
     rw [List.flatMap_append,aaN] at hb;rcases hb with hb|hb
     . exact h6 b hb
     . exact g6 b hb
end
theorem Dj (b:Nat) (p fi q:List Nat):(b::(p++fi++q)).Perm ((b::(p++q))++fi):=by grind
theorem mm:∀ (l:List Nat),mh l=true→l.Nodup
 |[],_=>by simp
 |a::l,h=>by simp [mh] at h;rw [ac9];exact ⟨h.1,mm l h.2⟩
theorem A9 (h:∀ id x,v id=some x→cL c μ w id (fp id) x) (hE:∀ id x,E id=some x→v id=some x) {id:Nat} {x:bQ} (hx:E id=some x) {e:Ty} {xs:List e.D} (hu:ik E x=some ⟨e,xs⟩):
  ∃ a cap f,μ id= .sS a xs.length cap e.size∧(Ty.sl e).au c.fz w [.slice a xs.length cap] xs f∧f.Perm ((id::bG x).flatMap fp)∧(id::bG x).Nodup∧
    (∀ k∈id::bG x,v k≠none∧E k≠none)∧(∀ b∈f,b<c.w0.heap.size→∀ j,c.M b j):=by
 have hv:=hE id x hx;cases x with
 |var cs=>grind [ik]
 |it _ _=>grind [ik]
 |cut _ _ _=>grind [ik]
 |vG e' xs' i cs=>
  obtain ⟨a,cap,b,o,C,E',p,q,h1,rfl,h3,h4,h5,h6,h7,h8,h9,UZ,U0,h13,O8⟩:=h id _ hv;simp only [ik] at hu;split at hu
  case h_2=>cases hu
  rename_i x' ids ht;split at hu
  case isFalse=>cases hu
  rename_i hn;obtain ⟨rfl,hu⟩:=Sigma.mk.inj (aaG hu);cases hu;obtain ⟨c1,c2,e1,r1,r2,r3,r4,r5⟩:=Ty.nY h hE e' h9 ht;simp only [aj] at r2;subst r2;simp only [ai.bI,aeI] at r3 e1;rw [← e1] at r1;have pG:=mm _ hn;clear hu;have eI:id ∉ ids:=by grind
  have dI:=h8 c.fz w x' (ids.flatMap fp) C (Fz.le_refl _) h4 rfl (fun _ _=>rfl) (fun _ _=>rfl) h13 r1;refine ⟨some ⟨b,o,none⟩,cap,b::(p++ids.flatMap fp++q),by simpa using h1,by grind, ?_, ?_, ?_, ?_⟩
  . grind [bG,Dj]
  . grind [bG,List.nodup_cons]
  . intro k hk
    simp only [bG,r3,abE] at hk;grind
  grind
 |arr e' xs'=>
  simp only [ik] at hu;cases hu;obtain ⟨a,cap,h1,h2,h3⟩:=h id _ hv;exact ⟨a,cap,fp id,h1,h2,by simp [bG],by simp [bG],by grind [bG],h3⟩
 |AW e' xs' x0 i off u dS=>
  simp only [ik] at hu;cases hy:E dS with
  |none=>grind
  |some y=>
   cases y with
   |var _=>grind
   |AW _ _ _ _ _ _ _=>grind
   |it _ _=>grind
   |cut _ _ _=>grind
   |vG _ _ _ _=>grind
   |arr e2 ys=>
    simp only [hy] at hu;have Pb:=hE dS _ hy;have dW:id≠dS:=by grind
    obtain ⟨a,cap,h1,⟨a',nV,j7,e3,bb,ob,CC,EE,g1,rfl,_,_,g4,g5,g3⟩,h3,_,_,zA⟩:=h id _ hv;obtain ⟨a2,cap2,k1,k2,k3⟩:=h dS _ Pb;rw [k1] at g1;cases hc:Ty.cast (.sl e2) (.sl e3) ys with
    |none=>grind
    |some y3=>
     rw [hc] at hu;obtain ⟨he,rfl⟩:=Ty.dD hc;cases he;cases g1;obtain ⟨x,x',Y8,q1,q2,q3,q4⟩:=g3 c.fz w CC _ ys (fp dS) (Fz.le_refl _) g4 rfl (fun _ _=>rfl) g5 (fun _ _ _=>rfl) k2;have hu:((e'.cK x0 off (.sl e2) ys).map fun x'=>(⟨e',xs'.set i x'⟩:(e:Ty)×List e.D))=some ⟨e,xs⟩:=hu;rw [zA] at q1;cases q1;rw [q2] at hu;cases hu;refine ⟨a,cap,Y8,by simpa using h1,by simpa using q3,by grind [bG],by simp [bG,dW], ?_, ?_⟩
     . intro k hk
       simp only [bG,abE,List.not_mem_nil,or_false] at hk;grind
     grind
theorem gZ (h:cX c μ fp v w) (hE:∀ id x,E id=some x→v id=some x) {id:Nat} {x:bQ} (hx:E id=some x) {e:Ty} {xs:List e.D} (hu:ik E x=some ⟨e,xs⟩):
 ∃ a cap f,μ id= .sS a xs.length cap e.size∧(Ty.sl e).au c.fz w [.slice a xs.length cap] xs f∧f.Perm ((id::bG x).flatMap fp)∧(id::bG x).Nodup∧
   (∀ k∈id::bG x,v k≠none∧E k≠none)∧(∀ b∈f,b<c.w0.heap.size→∀ j,c.M b j):=A9 h.rel hE hx hu
theorem xy {S:Nat→Prop} {w:World} {e' e:Ty} {xs:List e'.D} {ys:List e.D} (h:yc e' e xs=some ys) {cs:List Value} (hr:(Ty.sl e').aQ S w cs xs):(Ty.sl e).aQ S w cs ys:=by
 unfold yc at h;split at h
 . rename_i y hy
   obtain rfl:=aaG h;obtain ⟨hz,rfl⟩:=Ty.oT hy;exact Ty.iD _ _ hz _ _ hr
 . obtain ⟨he,Cf⟩:=jn h
   clear h;subst he;rw [Cf];simp only [Ty.aQ] at hr ⊢;obtain ⟨a,cap,rfl,hc,hr⟩:=hr;refine ⟨a,cap,by simp,by simpa using hc, ?_⟩;rcases hr with rfl|⟨b,o,ha,hb,hi⟩
   . exact .inl rfl
   . refine .inr ⟨b,o,ha,hb,fun i y hy=> ?_⟩
     have hy:(xs.map e'.erase)[i]? =some y:=hy;rw [af6] at hy;obtain ⟨x,hx,rfl⟩:=Option.map_eq_some_iff.1 hy;grind [Ty.qo,Ty.mg]
theorem oZ (h:cX c μ fp v w) (ev:Ev c w) (hE:∀ id x,E id=some x→v id=some x) {S':Nat→Prop} (hS:∀ b,c.S b→S' b) (hP:∀ id,E id≠none→∀ b∈fp id,S' b)
  {e:Ty} {d:ai} {x:Value} {xs:List e.D} (hx:an c μ x d) (hl:tU E e d=some xs):(Ty.sl e).aQ S' w [x] xs:=by
 cases d with
 |ro e' ys tk=>
  simp only [an] at hx;exact xy (show yc e' e ys=some xs from hl) (Ty.eA (fun b hb=>⟨hS b hb,ev.S b hb⟩) _ hx.1)
 |ni=>
  obtain rfl:[]=xs:=aaG hl;simp only [an] at hx;obtain ⟨a,rfl⟩:=hx;exact qv S' w e a
 |cN id vw=>
  rcases vw with _|⟨o,l⟩
  . have hl:(E id).bind (fun v=>(ik E v).bind fun x=>yc x.1 e x.2)=some xs:=hl
    obtain ⟨y,hy,hl⟩:=Option.bind_eq_some_iff.1 hl;obtain ⟨⟨e',ys⟩,hu,hl⟩:=Option.bind_eq_some_iff.1 hl;obtain ⟨a,cap,f,h1,h2,h3,_,h5,_⟩:=gZ h hE hy hu;have h4:(Ty.sl e').aQ S' w [.slice a ys.length cap] ys:=by
     refine Ty.gu (fun b hb=>⟨hS b hb,ev.S b hb⟩) _ h2 fun b hb=> ?_;grind
    simp only [an] at hx;obtain ⟨a',len,j7,sz,g1,rfl⟩:=hx;grind [xy]
  . have hl:(E id).bind (fun v=>(ik E v).bind fun x=>yc x.1 e ((x.2.drop o).take l))=some xs:=hl
    obtain ⟨y,hy,hl⟩:=Option.bind_eq_some_iff.1 hl;obtain ⟨⟨e',ys⟩,hu,hl⟩:=Option.bind_eq_some_iff.1 hl;obtain ⟨a,cap,f,h1,h2,h3,_,h5,_⟩:=gZ h hE hy hu;have h4:(Ty.sl e').aQ S' w [.slice a ys.length cap] ys:=by
     refine Ty.gu (fun b hb=>⟨hS b hb,ev.S b hb⟩) _ h2 fun b hb=> ?_;grind
    simp only [an] at hx;obtain ⟨a',len,j7,sz,a2,g1,g2,g3,rfl,g4⟩:=hx;grind [xy,A8]
 |_=>cases hl
theorem Za {e:Ty} {ds:List ai} {r:List e.D×List ai×List Nat} (h:aeC E e ds=some r):∃ d,ds=d::r.2.1∧iS E e d=some (r.1,r.2.2):=by
 unfold aeC at h;split at h
 . rename_i d q
   obtain ⟨x,hx,rfl⟩:=Option.map_eq_some_iff.1 h;grind
 . cases h
structure k8 (c:Ctx) (fp:Nat→List Nat) (v E:Env) (ids:List Nat) (f:List Nat):Prop where
 mem:∀ b∈f,∃ id∈ids,b∈fp id
 nodup:f.Nodup
 there:∀ id∈ids,v id≠none∧E id≠none
 may:∀ b∈f,b<c.w0.heap.size→∀ j,c.M b j
theorem hJ (h:cX c μ fp v w) (hE:∀ id x,E id=some x→v id=some x) {e:Ty} {d:ai} {x:Value} {r:List e.D×List Nat} (hx:an c μ x d) (hl:iS E e d=some r):
  ∃ f,(Ty.sl e).au c.fz w [x] r.1 f∧k8 c fp v E r.2 f:=by
 cases d with
 |ni=>
  obtain rfl:([],[])=r:=aaG hl;simp only [an] at hx;obtain ⟨a,rfl⟩:=hx;exact ⟨[],vP w e a,⟨by simp,by simp,by simp,by simp⟩⟩
 |cN id vw=>
  rcases vw with _|⟨o,l⟩
  . have hl:(E id).bind (fun v=>(ik E v).bind fun x=>(Ty.cast (.sl x.1) (.sl e) x.2).map fun y=>(y,id::bG v))=some r:=hl
    obtain ⟨y,hy,hl⟩:=Option.bind_eq_some_iff.1 hl;obtain ⟨⟨e',ys⟩,hu,hl⟩:=Option.bind_eq_some_iff.1 hl;obtain ⟨zs,hc,rfl⟩:=Option.map_eq_some_iff.1 hl;obtain ⟨he,Cf⟩:=jn hc;clear hc hl;subst he;obtain ⟨a,cap,f,h1,h2,h3,h4,h5,h6⟩:=gZ h hE hy hu;have hn:f.Nodup:=h3.nodup_iff.2 (h.jG _ h4 fun k hk=>(h5 k hk).1);have hg:k8 c fp v E (id::bG y) f:=⟨by grind,hn,h5,h6⟩
    simp only [an] at hx;grind
  . have hl:(E id).bind (fun v=>(ik E v).bind fun x=>(Ty.cast (.sl x.1) (.sl e) ((x.2.drop o).take l)).map fun y=>(y,id::bG v))=some r:=hl
    obtain ⟨y,hy,hl⟩:=Option.bind_eq_some_iff.1 hl;obtain ⟨⟨e',ys⟩,hu,hl⟩:=Option.bind_eq_some_iff.1 hl;obtain ⟨zs,hc,rfl⟩:=Option.map_eq_some_iff.1 hl;obtain ⟨he,Cf⟩:=jn hc;clear hc hl;subst he;obtain ⟨a,cap,f,h1,h2,h3,h4,h5,h6⟩:=gZ h hE hy hu;have hn:f.Nodup:=h3.nodup_iff.2 (h.jG _ h4 fun k hk=>(h5 k hk).1);have hg:k8 c fp v E (id::bG y) f:=⟨by grind,hn,h5,h6⟩
    simp only [an] at hx;obtain ⟨a',len,j7,sz,a2,g1,g2,g3,rfl,g4⟩:=hx;rw [h1] at g1;cases g1;obtain ⟨f',k1,k2,k3⟩:=Ti h2 g2 g4;exact ⟨f',Cf ▸ k1,⟨by grind,k2 hn,h5,by grind⟩⟩
 |_=>cases hl
theorem k8.append (h:cX c μ fp v w) {ids Ba f f':List Nat} (g:k8 c fp v E ids f) (g':k8 c fp v E Ba f') (hn:(ids++Ba).Nodup):k8 c fp v E (ids++Ba) (f++f') where
 mem b hb:=by
  rcases aaN.1 hb with hb|hb
  . obtain ⟨i,hi,hm⟩:=g.mem b hb;grind
  . obtain ⟨i,hi,hm⟩:=g'.mem b hb;grind
 nodup:=by
  rw [acd];refine ⟨g.nodup,g'.nodup,fun a ha b hb e=> ?_⟩;subst e;obtain ⟨i,hi,hm⟩:=g.mem a ha;obtain ⟨j,hj,pI⟩:=g'.mem a hb;have:i≠j:=by grind
  exact h.sep i j this (g.there i hi).1 (g'.there j hj).1 a hm pI
 there i hi:=by
  rcases aaN.1 hi with hi|hi
  . exact g.there i hi
  . exact g'.there i hi
 may b hb:=by
  rcases aaN.1 hb with hb|hb
  . exact g.may b hb
  . exact g'.may b hb
mutual
theorem Ty.nZ (h:cX c μ fp v w) (hE:∀ id x,E id=some x→v id=some x):
  (t:Ty)→{cs:List Value}→{ds:List ai}→{r:t.D×List ai×List Nat}→aj c μ cs ds→t.vI E ds=some r→r.2.2.Nodup→
   ∃ c1 c2 f,cs=c1++c2∧t.au c.fz w c1 r.1 f∧aj c μ c2 r.2.1∧k8 c fp v E r.2.2 f
 | .bool,cs,ds,r,hr,hf,_=>by
   obtain ⟨y,hy,rfl⟩:=Option.map_eq_some_iff.1 hf;rw [M3 hy] at hr;simp only [aj] at hr;obtain ⟨x,vs,rfl,hx,hr⟩:=hr;simp only [an] at hx;subst hx;exact ⟨[_],vs,[],rfl,by simp [Ty.au],hr,⟨by simp,by simp,by simp,by simp⟩⟩
 | .int k,cs,ds,r,hr,hf,_=>by
   obtain ⟨y,hy,rfl⟩:=Option.map_eq_some_iff.1 hf;rw [M4 hy] at hr;simp only [aj] at hr;obtain ⟨x,vs,rfl,hx,hr⟩:=hr;simp only [an] at hx;subst hx;exact ⟨[_],vs,[],rfl,by simp [Ty.au],hr,⟨by simp,by simp,by simp,by simp⟩⟩
 | .str,cs,ds,r,hr,hf,_=>by
   obtain ⟨y,hy,rfl⟩:=Option.map_eq_some_iff.1 hf;rw [M5 hy] at hr;simp only [aj] at hr;obtain ⟨x,vs,rfl,hx,hr⟩:=hr;simp only [an] at hx;exact ⟨[_],vs,[],rfl,by simp_all [Ty.au,trivial],hr,⟨by simp,by simp,by simp,by simp⟩⟩
 | .hole,cs,ds,r,hr,hf,_=>by
   obtain ⟨y,hy,rfl⟩:=Option.map_eq_some_iff.1 hf;obtain ⟨x,vs,d,rfl,_,hd,hx,hr⟩:=Tj hr hy;exact ⟨[x],vs,[],rfl,by simp only [Ty.au];exact ⟨⟨x,rfl,hx.iP hd⟩,trivial⟩,hr,⟨by simp,by simp,by simp,by simp⟩⟩
 | .sl e,cs,ds,r,hr,hf,_=>by
   obtain ⟨d,e1,hy⟩:=Za hf;rw [e1] at hr;simp only [aj] at hr;obtain ⟨x,vs,rfl,hx,hr⟩:=hr;obtain ⟨f,h1,h2⟩:=hJ h hE hx hy;grind
 | .fz e,cs,ds,r,hr,hf,_=>by
   obtain ⟨y,hy,rfl⟩:=Option.map_eq_some_iff.1 hf;obtain ⟨x,vs,rfl,hx,hr⟩:=Ic hr hy;exact ⟨[x],vs,[],rfl,by simp only [Ty.au];exact ⟨j0.2 hx,trivial⟩,hr,⟨by simp,by simp,by simp,by simp⟩⟩
 | .st fs,cs,ds,r,hr,hf,hn=>by
   obtain ⟨c1,c2,f,h1,h2,h3,h4⟩:=aI.nZ h hE fs hr hf hn;exact ⟨c1,c2,f,h1,by grind [Ty.au],h3,h4⟩
theorem aI.nZ (h:cX c μ fp v w) (hE:∀ id x,E id=some x→v id=some x):
  (t:aI)→{cs:List Value}→{ds:List ai}→{r:t.D×List ai×List Nat}→aj c μ cs ds→t.vI E ds=some r→r.2.2.Nodup→
   ∃ c1 c2 f,cs=c1++c2∧t.au c.fz w c1 r.1 f∧aj c μ c2 r.2.1∧k8 c fp v E r.2.2 f
 | .nil,cs,ds,r,hr,hf,_=>by
   simp only [aI.vI,adh] at hf;subst hf;exact ⟨[],cs,[],rfl,by simp [aI.au],hr,⟨by simp,by simp,by simp,by simp⟩⟩
 | .cons t ts,cs,ds,r,hr,hf,hn=>by
   unfold aI.vI at hf;obtain ⟨x,hx,hf⟩:=Option.bind_eq_some_iff.1 hf;obtain ⟨y,hy,rfl⟩:=Option.map_eq_some_iff.1 hf;have nz:(x.2.2++y.2.2).Nodup:=hn;obtain ⟨c1,c2,f1,rfl,h2,h3,h4⟩:=Ty.nZ h hE t hr hx (acd.1 nz).1;obtain ⟨c3,c4,f2,rfl,h5,h6,h7⟩:=aI.nZ h hE ts h3 hy (acd.1 nz).2.1;exact ⟨c1++c3,c4,f1++f2,by simp,by simp only [aI.au];exact ⟨c1,c3,f1,f2,rfl,rfl,h2,h5⟩,h6,h4.append h h7 nz⟩
end
theorem ye (h:cX c μ fp v w) (hE:∀ id x,E id=some x→v id=some x) {t:Ty} {cs:List Value} {ds:List ai} {r:t.D×List Nat} (hr:aj c μ cs ds) (hf:zz E t ds=some r):
  ∃ f,t.au c.fz w cs r.1 f∧k8 c fp v E r.2 f:=by
 unfold zz at hf;split at hf
 . rename_i x ids hx
   split at hf
   . rename_i hn
     cases hf;obtain ⟨c1,c2,f,rfl,h2,h3,h4⟩:=Ty.nZ h hE t hr hx (mm _ hn);grind [aj]
   . simp at hf
 . simp at hf
end
end
section
open Go
variable {z:Fz}
mutual
def Ty.zeroV:Ty→List Value
 | .bool=>[.bool false]
 | .int k=>[.int k 0]
 | .str=>[.string ⟨#[]⟩]
 | .hole=>[.slice none 0 0]
 | .sl _=>[.slice none 0 0]
 | .fz _=>[.slice none 0 0]
 | .st fs=>fs.zeroV
def aI.zeroV:aI→List Value
 | .nil=>[]
 | .cons t ts=>t.zeroV++ts.zeroV
end
def o5 (P:Program) (t:Ty) (tid:TypeId):Prop:=
 ∃ i z,P.info? tid=some i∧i.size=t.size∧i.bytes≤1024∧i.zero=some z∧z.cells.toList=t.zeroV∧0<t.size
mutual
def Ty.Ok (P:Program):Ty→TypeId→Prop
 | .bool,tid=>o5 P .bool tid∧P.underlying tid=some .bool
 | .int k,tid=>o5 P (.int k) tid∧P.underlying tid=some (.int k)
 | .str,tid=>o5 P .str tid∧P.underlying tid=some .string
 | .hole,tid=>o5 P .hole tid∧∃ eid,P.underlying tid=some (.slice eid)
 | .sl e,tid=>o5 P (.sl e) tid∧∃ eid,P.underlying tid=some (.slice eid)∧e.Ok P eid
 | .fz e,tid=>o5 P (.fz e) tid∧∃ eid,P.underlying tid=some (.slice eid)∧e.Ok P eid
 | .st fs,tid=>o5 P (.st fs) tid∧∃ fields,P.underlying tid=some (.struct fields)∧fs.Cg P fields.toList 0
def aI.Cg (P:Program):aI→List Field→Nat→Prop
 | .nil,fs,_=>fs=[]
 | .cons t ts,fs,off=>∃ f r,fs=f::r∧f.offset=off∧t.Ok P f.type∧ts.Cg P r (off+t.size)
end
theorem Ty.Ok.base {P:Program} {t:Ty} {tid:TypeId} (h:t.Ok P tid):o5 P t tid:=by
 cases t<;>simp only [Ty.Ok] at h<;>exact h.1
section
variable {P:Program} {w:World}
theorem Ty.Ok.kM {t:Ty} {tid:TypeId} (h:t.Ok P tid):(sizeOf tid).run P w= .ok t.size w:=by
 obtain ⟨i,z,h1,h2,_⟩:=h.base;simp [sizeOf,typeInfo,h1,h2]
theorem Ty.Ok.n0 {t:Ty} {tid:TypeId} (h:t.Ok P tid):(isAgg tid).run P w= .ok t.j2 w:=by
 cases t<;>simp only [Ty.Ok] at h
 . simp [isAgg,run_underlying h.2,Ty.j2]
 . simp [isAgg,run_underlying h.2,Ty.j2]
 . simp [isAgg,run_underlying h.2,Ty.j2]
 . obtain ⟨_,e,h⟩:=h;simp [isAgg,run_underlying h,Ty.j2]
 . obtain ⟨_,e,h,_⟩:=h;simp [isAgg,run_underlying h,Ty.j2]
 . obtain ⟨_,e,h,_⟩:=h;simp [isAgg,run_underlying h,Ty.j2]
 . obtain ⟨_,e,h,_⟩:=h;simp [isAgg,run_underlying h,Ty.j2]
theorem Ty.Ok.Tm {t:Ty} {tid:TypeId} (h:t.Ok P tid):∃ z,(zeroValue tid).run P w= .ok z w∧z.cells.toList=t.zeroV:=by
 obtain ⟨i,z,h1,h2,_,h4,h5,_⟩:=h.base;simp_all [zeroValue,typeInfo]
theorem Ty.Ok.pos {t:Ty} {tid:TypeId} (h:t.Ok P tid):0<t.size:=by
 obtain ⟨i,z,_,_,_,_,_,h⟩:=h.base;exact h
end
mutual
theorem Ty.dN:(t:Ty)→t.zeroV.length=t.size
 | .bool=>rfl
 | .int _=>rfl
 | .str=>rfl
 | .hole=>rfl
 | .sl _=>rfl
 | .fz _=>rfl
 | .st fs=>by simp only [Ty.zeroV,Ty.size];exact aI.dN fs
theorem aI.dN:(t:aI)→t.zeroV.length=t.size
 | .nil=>rfl
 | .cons t ts=>by simp [aI.zeroV,aI.size,Ty.dN t,aI.dN ts]
end
mutual
theorem Ty.iJ (w:World):(t:Ty)→t.au z w t.zeroV t.zero []
 | .bool=>by simp [Ty.au,Ty.zeroV,Ty.zero]
 | .int _=>by simp [Ty.au,Ty.zeroV,Ty.zero]
 | .str=>by simp [Ty.au,Ty.zeroV,Ty.zero]
 | .hole=>by simp only [Ty.au];exact ⟨⟨_,rfl,rfl⟩,trivial⟩
 | .sl e=>vP w e none
 | .fz e=>by simp only [Ty.au];exact ⟨j0.2 (qv _ _ e none),trivial⟩
 | .st fs=>by simp only [Ty.au,Ty.zeroV];exact aI.iJ w fs
theorem aI.iJ (w:World):(t:aI)→t.au z w t.zeroV t.zero []
 | .nil=>by simp [aI.au,aI.zeroV]
 | .cons t ts=>by
   simp only [aI.au,aI.zeroV];exact ⟨t.zeroV,ts.zeroV,[],[],rfl,rfl,Ty.iJ w t,aI.iJ w ts⟩
end
theorem aI.Cg.field {P:Program}:(ts:aI)→{fs:List Field}→{o:Nat}→ts.Cg P fs o→{k:Nat}→{r:Nat×Ty}→ts.offset k=some r→
  ∃ f,fs[k]? =some f∧f.offset=o+r.1∧r.2.Ok P f.type∧r.1+r.2.size≤ts.size
 | .nil,_,_,_,k,r,hk=>by grind [aI.offset]
 | .cons t ts,fs,o,h,k,r,hk=>by
   simp only [aI.Cg] at h;obtain ⟨f,q,rfl,h1,h2,h3⟩:=h;cases k with
   |zero=>
    simp only [aI.offset,adh] at hk;subst hk;exact ⟨f,rfl,by simpa using h1,h2,by simp [aI.size]⟩
   |succ k=>
    simp only [aI.offset] at hk;obtain ⟨r',GQ,rfl⟩:=Option.map_eq_some_iff.1 hk;obtain ⟨f',e1,e2,e3,e4⟩:=aI.Cg.field ts h3 GQ;exact ⟨f',by simpa using e1,by simp [e2];omega,e3,by simp [aI.size];omega⟩
theorem Ty.Ok.field {P:Program} {t:Ty} {tid:TypeId} (h:t.Ok P tid) {k:Nat} {r:Nat×Ty} (hk:t.field k=some r):
  ∃ fields f,P.underlying tid=some (.struct fields)∧fields[k]? =some f∧f.offset=r.1∧r.2.Ok P f.type∧r.1+r.2.size≤t.size:=by
 cases t<;>simp [Ty.field] at hk;rename_i fs;simp only [Ty.Ok] at h;obtain ⟨_,fields,hu,hf⟩:=h;obtain ⟨f,e1,e2,e3,e4⟩:=aI.Cg.field fs hf hk;exact ⟨fields,f,hu,by simpa using e1,by simpa using e2,e3,by simpa [Ty.size] using e4⟩
def cC (v:Env):oe→Env
 |[]=>v
 |(id,x)::r=>cC (fun k=>if k=id then x else v k) r
theorem dE (v:Env) (a b:oe):cC v (a++b)=cC (cC v a) b:=by
 induction a generalizing v with
 |nil=>rfl
 |cons x a ih=>grind [id,cC]
theorem kj (v:Env) (l:List Nat) (k:Nat):cC v (l.map fun id=>(id,none)) k=if k∈l then none else v k:=by
 induction l generalizing v with
 |nil=>simp [cC]
 |cons x l ih=>
  simp only [acX,cC,ih,abE];grind
theorem gI (v:Env) (l:List Nat) (id:Nat) (x:bQ) (k:Nat):cC v ((l.map fun i=>(i,none))++[(id,some x)]) k=if k=id then some x else if k∈l then none else v k:=by
 rw [dE];simp only [cC,kj]
theorem Ot (v:List (Nat×bQ)) (id:Nat) (x:bQ) (k:Nat):bs (S7 v id x) k=if k=id then some x else bs v k:=by
 induction v with
 |nil=>grind [S7,bs,id]
 |cons a v ih=>
  grind [S7,bs]
theorem Ie (v:List (Nat×bQ)) (id:Nat) (k:Nat):bs (xu v id) k=if k=id then none else bs v k:=by
 induction v with
 |nil=>simp [xu,bs]
 |cons a v ih=>
  grind [xu,bs]
theorem xz (u:oe):∀ (v:List (Nat×bQ)),bs (Cc v u)=cC (bs v) u:=by
 induction u with
 |nil=>intro v;rfl
 |cons a u ih=>
  intro v;obtain ⟨id,x⟩:=a;cases x with
  |none=>simp only [Cc,cC,ih];congr 1;funext k;exact Ie v id k
  |some x=>simp only [Cc,cC,ih];congr 1;funext k;exact Ot v id x k
theorem cX.mn {c:Ctx} {μ μ':Nat→Loc} {fp:Nat→List Nat} {v:Env} {w w':World} (h:cX c μ fp v w) (rem:List Nat) (id0:Nat) (x0:bQ) (f0:List Nat)
  (A7:∀ id x,v id=some x→id≠id0→id ∉ rem→μ' id=μ id∧∀ dS∈x.ids,μ' dS=μ dS)
  (M6:∀ id,v id≠none→id≠id0→id ∉ rem→∀ b∈fp id,w'.heap[b]? =w.heap[b]?) (qw:w.heap.size≤w'.heap.size)
  (ta:cL c μ' w' id0 f0 x0) (pG:f0.Nodup)
  (hf:∀ b∈f0,¬ c.S b∧b<w'.heap.size∧∀ id,v id≠none→id≠id0→id ∉ rem→b ∉ fp id):
  cX c μ' (fun k=>if k=id0 then f0 else fp k) (cC v ((rem.map fun i=>(i,none))++[(id0,some x0)])) w':=by
 have hold:∀ {k:Nat},k≠id0→cC v ((rem.map fun i=>(i,none))++[(id0,some x0)]) k≠none→k ∉ rem∧v k≠none:=by
  intro k hk hn;rw [gI,aap hk] at hn;split at hn
  . exact absurd rfl hn
  . exact ⟨‹_›, hn⟩
 have vQ:∀ {k:Nat},k≠id0→cC v ((rem.map fun i=>(i,none))++[(id0,some x0)]) k≠none→∀ b∈fp k,b ∉ f0:=by grind
 constructor
 . intro k x hx
   by_cases hk:k=id0
   . subst hk
     rw [gI,aaK rfl] at hx;grind
   . obtain ⟨hr,hv⟩:=hold hk (by rw [hx];simp)
     rw [gI,aap hk,aap hr] at hx;simp only [aap hk];exact (h.rel k x hx).frame (M6 k hv hk hr) (A7 k x hx hk hr).1 (A7 k x hx hk hr).2
 . intro k x hx
   by_cases hk:k=id0
   . grind
   . obtain ⟨hr,hv⟩:=hold hk (by rw [hx];simp)
     rw [gI,aap hk,aap hr] at hx;simp only [aap hk];exact h.nodup k x hx
 . intro k k' dW hv Pb b hb
   by_cases hk:k=id0
   . grind
   . simp only [aap hk] at hb
     by_cases mA:k'=id0
     . grind
     . simp only [aap mA]
       exact h.sep k k' dW (hold hk hv).2 (hold mA Pb).2 b hb
 . intro k hv b hb
   by_cases hk:k=id0
   . grind
   . simp only [aap hk] at hb
     exact h.jg k (hold hk hv).2 b hb
 . intro k hv b hb
   by_cases hk:k=id0
   . grind
   . simp only [aap hk] at hb
     exact acO (h.lt k (hold hk hv).2 b hb) qw
theorem cX.ly {c:Ctx} {μ μ':Nat→Loc} {fp:Nat→List Nat} {v:Env} {w w':World} (h:cX c μ fp v w) (ev:Ev c w) (rem:List Nat) (id0:Nat) (x0:bQ) (f0:List Nat)
  (A7:∀ id x,v id=some x→id≠id0→id ∉ rem→μ' id=μ id∧∀ dS∈x.ids,μ' dS=μ dS)
  (M6:∀ id,v id≠none→id≠id0→id ∉ rem→∀ b∈fp id,w'.heap[b]? =w.heap[b]?) (qw:w.heap.size≤w'.heap.size)
  (ta:cL c μ' w' id0 f0 x0) (pG:f0.Nodup)
  (hf:∀ b∈f0,(w.heap.size≤b∧b<w'.heap.size)∨∃ id,(id=id0∨id∈rem)∧v id≠none∧b∈fp id):
  cX c μ' (fun k=>if k=id0 then f0 else fp k) (cC v ((rem.map fun i=>(i,none))++[(id0,some x0)])) w':=by
 refine h.mn rem id0 x0 f0 A7 M6 qw ta pG fun b hb=> ?_;rcases hf b hb with ⟨h1,h2⟩|⟨id,h1,h2,h3⟩
 . exact ⟨fun hs=>by have:=c.hS.1 b hs;have:=ev.size;omega,h2,by grind⟩
 . refine ⟨h.jg id h2 b h3,acO (h.lt id h2 b h3) qw,fun k hv hk hr cf=>h.sep k id ?_ hv h2 b cf h3⟩
   grind
theorem Ig (c:Ctx) (μ:Nat→Loc) (v:Value):an c μ v (ofValue v):=by
 unfold ofValue;split
 . simp [an]
 . simp [an]
 . split
   . simp_all [an,trivial]
   . simp [an]
 . simp [an]
 . exact ⟨rfl,rfl⟩
 . simp [an]
theorem cn {c:Ctx} {μ:Nat→Loc} {t:Nat→ai} {a:Act} (h:∀ j,an c μ (a.tmps.getD j Go.undef) (t j)) (x:Operand):an c μ (a.eval x) (fj t x):=by
 cases x with
 |tmp j=>exact h j
 |const v=>exact Ig c μ v
 |func f=>simp [fj,Act.eval,an,aj]
 |global g=>simp [fj,an]
structure FV (c:Ctx) (μ:Nat→Loc) (s:lx) (r:iv) (v':Value) (w':World) (μ':Nat→Loc) (fp':Nat→List Nat):Prop where
 agree:∀ id,s.k id→μ' id=μ id
 val:an c μ' v' r.1
 vs:cX c μ' fp' (cC s.v r.2) w'
 ev:Ev c w'
def pF (c:Ctx) (μ:Nat→Loc) (s:lx) (o:Oper) (a:Act) (w:World) (r:iv):Prop:=
 ∀ (K:Act→World→Prop) (Q:Exit→Act→World→Prop),(∀ v' w' μ' fp',FV c μ s r v' w' μ' fp'→K (a.put o.dst v') w')→o.wp c.P a w K Q
theorem dn {c:Ctx} {μ μ':Nat→Loc} {fp':Nat→List Nat} {s:lx} {o:Oper} {a:Act} {w w':World} {r:iv} {v':Value}
  (hr:(execOp a.eval o).run c.P w= .ok (.value v') w') (hp:FV c μ s r v' w' μ' fp'):pF c μ s o a w r:=by
 intro K Q h;grind [Oper.wp,Oper.upon_value]
theorem vR {c:Ctx} {μ μ':Nat→Loc} {fp':Nat→List Nat} {s:lx} {o:Oper} {a:Act} {w w':World} {r:iv}
  (hr:(execOp a.eval o).run c.P w= .ok .skip w') (hp:FV c μ s r Go.undef w' μ' fp'):pF c μ s o a w r:=by
 intro K Q h;grind [Oper.wp,Oper.upon_skip]
theorem bz {c:Ctx} {μ:Nat→Loc} {fp:Nat→List Nat} {s:lx} {n:Nat} {o:Oper} {a:Act} {w:World} {d:ai} {v':Value} (h:iE c μ fp s n a w)
  (hr:(execOp a.eval o).run c.P w= .ok (.value v') w) (hv:an c μ v' d):pF c μ s o a w (d,[]):=
 dn hr ⟨fun _ _=>rfl,hv,h.vs,h.ev⟩
end
section
open Go
section
variable {c:Ctx} {μ:Nat→Loc} {fp:Nat→List Nat} {s:lx} {n:Nat} {o:Oper} {a:Act} {w:World} {r:iv}
theorem aM {α ρ:Type} {o:Option α} {k:α→Out ρ} {r:ρ} (h:(Out.of o k).eval=some r):∃ x,o=some x∧(k x).eval=some r:=by
 cases o with
 |none=>cases h
 |some x=>exact ⟨x,rfl,h⟩
theorem aX {v:ai} (h:(cJ v).eval=some r):r=(v,[]):=(aaG h).symm
theorem cb {ρ:Type} {p:Bool} {x y:Out ρ} {r:ρ} (h:(Out.ite p x y).eval=some r):(p=true∧x.eval=some r)∨(p=false∧y.eval=some r):=by
 cases p
 . exact .inr ⟨rfl,h⟩
 . exact .inl ⟨rfl,h⟩
theorem ji {α ρ:Type} {o:Option α} {k:α→Out ρ} {r:ρ} (h:(Out.get o k).eval=some r):∃ x,o=some x∧(k x).eval=some r:=by
 cases o with
 |none=>cases h
 |some x=>exact ⟨x,rfl,h⟩
theorem Dk {t:Ty} {d:ai} (h:t.j2=false):mO t [d]=d:=by simp [mO,h]
theorem Kj {P:Program} {op:BinOp} {k:IntKind} {x y:Int} (hs:FN op=false) (h:(SS op k x y).eval=some r) (t:TypeId):
  ∃ v',(binOp op t (.int k x) (.int k y)).run P w= .ok v' w∧(∀ c μ,an c μ v' r.1)∧r.2=[]:=by
 cases op<;>simp only [FN,Bool.true_eq_false] at hs
 case quo=>
  rcases cb h with ⟨_,h⟩|⟨h0,h⟩
  . cases h
  . have h0:y≠0:=by simpa using h0
    rw [aX h];exact ⟨.int k (k.wrap (x.tdiv y)),by simp [binOp,Op.intDiv,h0],fun _ _=>by simp [an],rfl⟩
 case rem=>
  rcases cb h with ⟨_,h⟩|⟨h0,h⟩
  . cases h
  . have h0:y≠0:=by simpa using h0
    rw [aX h];exact ⟨.int k (x.tmod y),by simp [binOp,Op.intDiv,h0],fun _ _=>by simp [an],rfl⟩
 all_goals
  rw [aX h];refine ⟨_,by simp [binOp,Op.intArith,Op.intBits,Op.intCmp];rfl,fun _ _=>by simp [an],rfl⟩
theorem FW {P:Program} {op:BinOp} {k k':IntKind} {x y:Int} (h:(H6 op k x y).eval=some r) (t:TypeId):
  ∃ v',(binOp op t (.int k x) (.int k' y)).run P w= .ok v' w∧(∀ c μ,an c μ v' r.1)∧r.2=[]:=by
 cases op<;>try cases h
 all_goals
  rcases cb h with ⟨_,h⟩|⟨h0,h⟩
  . cases h
  . have h0:¬ y<0:=by simpa using h0
    rw [aX h];refine ⟨_,by simp [binOp,Op.shift,h0];rfl,by grind [an],rfl⟩
theorem o6 (x:List UInt8):(ByteArray.mk x.toArray).size=x.length:=by simp [ByteArray.size]
theorem vS (x:List UInt8):(ByteArray.mk x.toArray).toList=x:=by simp_all
theorem FX (x y:List UInt8):(ByteArray.mk x.toArray)++(ByteArray.mk y.toArray)=ByteArray.mk (x++y).toArray:=by
 apply ByteArray.ext;simp
theorem Kk {P:Program} {op:BinOp} {x y:List UInt8} (h:(SU op x y).eval=some r) (t:TypeId):
  ∃ v',(binOp op t (.string ⟨x.toArray⟩) (.string ⟨y.toArray⟩)).run P w= .ok v' w∧(∀ c μ,an c μ v' r.1)∧r.2=[]:=by
 cases op
 case add=>
  rcases cb h with ⟨h0,h⟩|⟨_,h⟩
  . have h0:x.length+y.length≤bV:=abH h0
    rw [aX h];refine ⟨.string ⟨(x++y).toArray⟩, ?_,fun _ _=>by simp [an];grind,rfl⟩;have:¬ (((x.length+y.length:Nat):Int)>IntKind.i64.max):=by
     simp [IntKind.max,IntKind.signed,IntKind.bits];grind
    simp_all [binOp,Op.stringOp,o6,agF,FX]
  . cases h
 all_goals first
  |(cases h;done)
  |(rw [aX h]
    refine ⟨_,by simp only [binOp,Op.stringOp,vS];rfl,fun _ _=>by simp [an,bne],rfl⟩)
variable (h:iE c μ fp s n a w)
include h
theorem iE.cn (x:Operand):an c μ (a.eval x) (fj s.t x):=Dm.cn h.tm x
theorem iE.new {fr:Nat} (hk:¬ s.k fr) (rem:List Nat) (L:Loc) (x0:bQ) (f0:List Nat) {w':World}
  (M6:∀ id,s.v id≠none→id ∉ rem→∀ b∈fp id,w'.heap[b]? =w.heap[b]?) (qw:w.heap.size≤w'.heap.size)
  (ta:cL c (fun id=>if id=fr then L else μ id) w' fr f0 x0) (pG:f0.Nodup)
  (hf:∀ b∈f0,(w.heap.size≤b∧b<w'.heap.size)∨∃ id,id∈rem∧s.v id≠none∧b∈fp id):
  (∀ id,s.k id→(fun id=>if id=fr then L else μ id) id=μ id)∧
  cX c (fun id=>if id=fr then L else μ id) (fun k=>if k=fr then f0 else fp k) (cC s.v ((rem.map fun i=>(i,none))++[(fr,some x0)])) w':=by
 have ha:∀ id,s.k id→(fun id=>if id=fr then L else μ id) id=μ id:=by grind
 refine ⟨ha,h.vs.ly h.ev rem fr x0 f0 ?_ ?_ qw ta pG ?_⟩
 . intro id x hx _ _
   exact ⟨by grind,fun dS hi=>ha dS ((h.known.v id x hx).2 dS hi)⟩
 . grind
 grind
theorem M7 {C:Cx} {x:Operand} (ho:o.op= .move x∨o.op= .assign x) {ty fr:Nat} (hk:¬ s.k fr) (hr:(S4 C ty (fj s.t x) fr).eval=some r):pF c μ s o a w r:=by
 have hx:=h.cn x;have run:(execOp a.eval o).run c.P w= .ok (.value (a.eval x)) w:=by rcases ho with ho|ho<;>simp [execOp,ho]
 unfold S4 at hr;split at hr
 . rename_i e0
   split at hr
   . rename_i e he
     cases hr;rw [e0] at hx;simp only [an] at hx;obtain ⟨ad,hv⟩:=hx;obtain ⟨h1,h2⟩:=h.new hk [] (.sS ad 0 0 e.size) (.arr e []) [] (w':=w) (fun _ _ _ _ _=>rfl) (abD _)
      ⟨ad,0,by simp,vP w e ad,by simp⟩ (by simp) (by simp)
     rw [hv] at run;refine dn run ⟨h1, ?_,h2,h.ev⟩;simp only [an];exact ⟨ad,0,0,e.size,by simp,rfl⟩
   . cases hr
     grind [bz]
 . cases hr
   grind [bz]
theorem Tn {x y z:Operand} (ho:o.op= .pick x y z) (hr:(Out.of (aeF (fj s.t x)) fun p=> .ite p (cJ (fj s.t y)) (cJ (fj s.t z))).eval=some r):pF c μ s o a w r:=by
 obtain ⟨p,hp,hr⟩:=aM hr;have hx:=h.cn x;have e:fj s.t x= .b p:=by
  unfold aeF at hp;grind
 rw [e] at hx;simp only [an] at hx;rcases cb hr with ⟨rfl,hr⟩|⟨rfl,hr⟩
 . rw [aX hr]
   exact bz h (v':=a.eval y) (by simp [execOp,ho,hx,asBool]) (h.cn y)
 . rw [aX hr]
   exact bz h (v':=a.eval z) (by simp [execOp,ho,hx,asBool]) (h.cn z)
theorem FY {x:Operand} (ho:o.op= .nilCheck x)
  (hr:(match fj s.t x with
   | .vptr id off=>cJ (.vptr id off)
   | .jL id i off=>cJ (.jL id i off)
   | .BR t x off=>cJ (.BR t x off)
   |_=> .fail:Out iv).eval=some r):pF c μ s o a w r:=by
 have hx:=h.cn x;split at hr
 . rename_i e;rw [e] at hx;rw [aX hr]
   have sY:=hx;simp only [an] at hx;obtain ⟨B,o',_,hv⟩:=hx;exact bz h (by simp [execOp,ho,hv]) (hv ▸ sY)
 . rename_i e;rw [e] at hx;rw [aX hr]
   have sY:=hx;simp only [an] at hx;obtain ⟨b,o',len,cap,sz,_,_,hv⟩:=hx;exact bz h (by simp [execOp,ho,hv]) (hv ▸ sY)
 . rename_i e;rw [e] at hx;rw [aX hr]
   have sY:=hx;simp only [an] at hx;obtain ⟨b,o',_,_,hv⟩:=hx;exact bz h (by simp [execOp,ho,hv]) (hv ▸ sY)
 . cases hr
theorem To {op:UnOp} {t:TypeId} {x:Operand} (ho:o.op= .unOp op t x) (hr:(unD op (fj s.t x)).eval=some r):pF c μ s o a w r:=by
 have hx:=h.cn x;unfold unD at hr;split at hr
 . rename_i e;rw [e] at hx;rw [aX hr]
   simp only [an] at hx;exact bz h (by simp [execOp,ho,hx,Op.unary];rfl) (by simp [an])
 . rename_i e;rw [e] at hx;rw [aX hr]
   simp only [an] at hx;exact bz h (by simp [execOp,ho,hx,Op.unary,Op.intArith];rfl) (by simp [an])
 . cases hr
theorem Ih {x:Operand} {k:Nat} (ho:o.op= .extract x k)
  (hr:(match fj s.t x with
   | .H5 vs=> .of vs[k]? fun v=>cJ v
   |_=> .fail:Out iv).eval=some r):pF c μ s o a w r:=by
 have hx:=h.cn x;split at hr
 . rename_i vs e
   rw [e] at hx;simp only [an] at hx;obtain ⟨us,hv,hx⟩:=hx;obtain ⟨d,hd,hr⟩:=aM hr;rw [aX hr];obtain ⟨u,hu,ta⟩:=hx.get hd;have zP:us[k]? =some u:=by simpa using hu
   exact bz h (v':=u) (by simp_all [execOp,Instr.extract]) ta
 . cases hr
theorem FZ {f:FuncId} {first cs:Array Operand} (ho:o.op= .makeFunc (.func f) first cs)
  (hr:(if first.size=0 then cJ (.fn f (cs.toList.map (fj s.t))) else .fail).eval=some r):pF c μ s o a w r:=by
 split at hr
 . rename_i h0
   rw [aX hr];have:first= #[]:=by grind
   subst this;refine bz h (v':= .func (.func f) #[] (cs.map a.eval)) (by simp [execOp,ho,Instr.makeFunc]) ?_;simp only [an];refine ⟨_,rfl, ?_⟩;rw [Array.toList_map];refine aj.A5 (by simp) fun j d v hd hv=> ?_;rw [af6] at hd hv;obtain ⟨x,hx,rfl⟩:=Option.map_eq_some_iff.1 hd;rw [hx] at hv;cases hv;exact h.cn x
 . cases hr
theorem Ou {t:TypeId} {x y:Operand} (ho:o.op= .index t x y) (ht:c.P.underlying t=some .string)
  (hr:(Out.of (mi (fj s.t y)) fun k=>
   match fj s.t x with
   | .s l=> .ite (decide (0≤k)) (.get (nth l k.toNat) fun c=>cJ (.i .u8 (c.toNat:Int))) .fail
   |_=> .fail).eval=some r):pF c μ s o a w r:=by
 have hx:=h.cn x;have hy:=h.cn y;obtain ⟨k,hk,hr⟩:=aM hr;have e:∃ kd,fj s.t y= .i kd k:=by
  unfold mi at hk;split at hk
  . rename_i e0;cases hk;exact ⟨_,e0⟩
  . cases hk
 obtain ⟨kd,e⟩:=e;rw [e] at hy;simp only [an] at hy;split at hr
 . rename_i l el
   rw [el] at hx;simp only [an] at hx;rcases cb hr with ⟨h0,hr⟩|⟨_,hr⟩
   . have h0:0≤k:=abH h0
     obtain ⟨b,hb,hr⟩:=ji hr;rw [aX hr];have bZ:k.toNat<l.length:=(List.getElem?_eq_some_iff.1 hb).1;have cf:(ByteArray.mk l.toArray)[k.toNat]? =some b:=by
      rw [ByteArray.getElem?_lt' _ _ (by rw [o6];exact bZ)];have:=(List.getElem?_eq_some_iff.1 hb).2;congr 1
     refine bz h (v':= .int .u8 b.toNat) ?_ (by simp [an]);simp_all [execOp,Instr.index,asIntOf,run_underlying]
   . cases hr
 . cases hr
theorem Ov {C:Cx} (hC:∀ tid t,C.ty tid=some t→t.Ok c.P tid) {t:TypeId} {x:Operand} {k:Nat} (ho:o.op= .field t x k)
  (hr:(Out.of (C.ty t) fun t=> .of (t.field k) fun f=>
  match fj s.t x with
  | .agg cs=>if f.1+f.2.size≤cs.length then cJ (mO f.2 ((cs.drop f.1).take f.2.size)) else .fail
  |_=> .fail).eval=some r):pF c μ s o a w r:=by
 have hx:=h.cn x;obtain ⟨ty,kN,hr⟩:=aM hr;obtain ⟨f,hf,hr⟩:=aM hr;obtain ⟨fields,fd,hu,h1,h2,h3,h4⟩:=(hC t ty kN).field hf;split at hr
 . rename_i cs e
   rw [e] at hx;simp only [an] at hx;obtain ⟨us,hv,hx⟩:=hx;split at hr
   . rename_i hle
     rw [aX hr];have hl:=hx.length;have fH:=(hx.drop f.1).take f.2.size;cases py:f.2.j2 with
     |true=>
      refine bz h (v':= .agg (us.extract f.1 (f.1+f.2.size))) ?_ ?_
      . simp [execOp,ho,hv,Instr.field,run_underlying hu,h1,asAgg,part,h3.n0,py,h3.kM,h2]
      . simp only [mO,py,an]
        refine ⟨_,rfl, ?_⟩;rw [Array.toList_extract];simpa [List.extract_eq_take_drop,List.take_drop] using fH
     |false=>
      have UG:f.2.size=1:=by cases hf2:f.2<;>rw [hf2] at py<;>first|rfl|grind [Ty.j2]
      rw [UG] at fH hle;have bZ:f.1<us.size:=by grind
      have pC:f.1<cs.length:=by omega
      rw [acN (by simpa using bZ),acN pC] at fH;simp only [List.take_succ_cons,ahI,aj] at fH;obtain ⟨v,bm,e1,VM,_⟩:=fH;cases e1;refine bz h (v':=us[f.1]) ?_ ?_
      . simp [execOp,ho,hv,Instr.field,run_underlying hu,h1,asAgg,part,h3.n0,py,h2,bZ]
      grind [List.drop_eq_getElem_cons,Dk]
   . cases hr
 . cases hr
end
end
section
open Go
def Kl (P:Program) (tid:TypeId):Prop:=
 P.stoodInHeld tid=false∧P.eqGuardType P.depth tid=false∧∃ fields,P.underlying tid=some (.struct fields)∧∀ f∈fields.toList,f.name≠ "_"
def ait (P:Program) (tid:TypeId):Prop:=(tid<Uv→Kl P tid)∧∀ k,tid=k+Uv→P.underlying k=some (.interface (P.methodsAt k))
structure iT (C:Cx) (P:Program):Prop where
 ty:∀ tid t,C.ty tid=some t→t.Ok P tid
 eqv:∀ tid,C.eqv tid=true→ait P tid
section
variable {c:Ctx} {μ:Nat→Loc} {fp:Nat→List Nat} {s:lx} {n:Nat} {o:Oper} {a:Act} {w:World} {r:iv}
theorem Ii {P:Program} {tid:TypeId} {t:Ty} (h:t.Ok P tid) (ht:t.j2=false) {xs:Array Value} {off:Nat} {v:Value} (hv:xs[off]? =some v):
  (part tid xs off).run P w= .ok v w:=by
 simp [part,h.n0,ht,hv]
theorem Km {P:Program} {t:Ty} {tid:TypeId} {x y:ai} {b:Bool} {v u:Value} (ht:t.Ok P tid) (he:FM t x y=some b) (hv:an c μ v x) (hu:an c μ u y):
  t.size=1∧t.j2=false∧∀ d,(Op.equalIn (d+1) tid v u).run P w= .ok b w:=by
 unfold FM at he;split at he
 . cases he
   simp only [an] at hv hu;subst hv hu;simp only [Ty.Ok] at ht;exact ⟨rfl,rfl,by grind [run_equalIn_bool']⟩
 . split at he
   . rename_i hk;obtain ⟨rfl,rfl⟩:=hk;cases he
     simp only [an] at hv hu;subst hv hu;simp only [Ty.Ok] at ht;exact ⟨rfl,rfl,by grind [run_equalIn_int]⟩
   . cases he
 . cases he
   simp only [an] at hv hu;obtain ⟨rfl,_⟩:=hv;obtain ⟨rfl,_⟩:=hu;simp only [Ty.Ok] at ht;refine ⟨rfl,rfl,fun d=> ?_⟩;grind [run_equalIn_string,vS]
 . cases he
theorem vT {P:Program} {x y:Array Value}:(ts:aI)→∀ {fs:List Field} {off:Nat} {dx dy:List ai} {z:Bool},ts.Cg P fs off→(∀ f∈fs,f.name≠ "_")→
  aj c μ (x.toList.drop off) dx→aj c μ (y.toList.drop off) dy→ts.Y6 dx dy=some z→∀ (d:Nat),(Op.eqFields (d+1) x y fs).run P w= .ok z w
 | .nil,fs,off,dx,dy,z,hf,_,hx,hy,he,d=>by
   simp only [aI.Cg] at hf;subst hf;unfold aI.Y6 at he;split at he
   . cases he;rfl
   . rename_i e;cases e
   . cases he
 | .cons t ts,fs,off,dx,dy,z,hf,hn,hx,hy,he,d=>by
   simp only [aI.Cg] at hf;obtain ⟨f,q,rfl,h1,h2,h3⟩:=hf;have aiu:f.name≠ "_" :=hn f (by simp);cases dx with
   |nil=>cases dy<;>cases he
   |cons d0 dx'=>
   cases dy with
   |nil=>cases he
   |cons e0 dy'=>
    obtain ⟨b,hb,he⟩:=Option.bind_eq_some_iff.1 (show ((FM t d0 e0).bind fun b=>(ts.Y6 dx' dy').map fun z=>b&&z)=some z from he);obtain ⟨z',hz,rfl⟩:=Option.map_eq_some_iff.1 he;simp only [aj] at hx hy;obtain ⟨v,vs,ex,hv,hx⟩:=hx;obtain ⟨u,us,ey,hu,hy⟩:=hy;obtain ⟨sW,py,heq⟩:=Km (w:=w) h2 hb hv hu;have hxo:x[off]? =some v:=by
     have:=congrArg (fun l=>l[0]?) ex;simpa [acb] using this
    have hyo:y[off]? =some u:=by
     have:=congrArg (fun l=>l[0]?) ey;simpa [acb] using this
    have sY:aj c μ (x.toList.drop (off+1)) dx':=by
     have:x.toList.drop (off+1)=vs:=by rw [← ahB,ex];rfl
     rw [this];exact hx
    have ov:aj c μ (y.toList.drop (off+1)) dy':=by
     have:y.toList.drop (off+1)=us:=by rw [← ahB,ey];rfl
     rw [this];exact hy
    rw [sW] at h3;have ih:=vT ts h3 (fun f hf=>hn f (by simp [hf])) sY ov hz d;have p1:=Ii (w:=w) (xs:=x) (off:=f.offset) h2 py (by rw [h1];exact hxo);have p2:=Ii (w:=w) (xs:=y) (off:=f.offset) h2 py (by rw [h1];exact hyo);simp only [Op.eqFields,aiu,ne_eq,not_false_eq_true,af7,Sem.run_bind,p1,p2,Result.andThen_ok,heq d,Sem.run_ite,Sem.run_pure,ih];cases b<;>simp
variable (h:iE c μ fp s n a w)
include h
theorem Kn {C:Cx} (hC:iT C c.P) {op:BinOp} {t yt:TypeId} {x:Operand} (ho:o.op= .binOp op t x (.const .nilIface) yt)
  (hr:(match fj s.t x with
  | .er b=>if C.eqv (t+Uv)=true then H7 op b else .fail
  |_=> .fail:Out iv).eval=some r):pF c μ s o a w r:=by
 have hx:=h.cn x;split at hr
 case h_2=>cases hr
 rename_i b e;rw [e] at hx;simp only [an] at hx;split at hr
 case isFalse=>cases hr
 rename_i hq;have hms:c.P.underlying t=some (.interface (c.P.methodsAt t)):=(hC.eqv _ hq).2 t rfl;obtain ⟨h1,h2⟩:=hx;have he:(binOp .eql t (a.eval x) .nilIface).run c.P w= .ok (.bool b) w∧(binOp .neq t (a.eval x) .nilIface).run c.P w= .ok (.bool !b) w∧∀ op,(eqGuard op t x (.const .nilIface) (a.eval x) .nilIface).run c.P w= .ok () w:=by
  cases b with
  |true=>
   simp_all [run_eql_nil_nil,run_neq_nil_nil,eqGuard_nil_constR]
  |false=>
   obtain ⟨t',p',h2⟩:∃ t p,a.eval x= .iface t p:=h2;simp_all [run_eql_held_nil,run_neq_held_nil,eqGuard_at_iface]
 have hcn:a.eval (.const .nilIface)= .nilIface:=rfl;unfold H7 at hr;split at hr
 . rw [aX hr]
   exact bz h (v':= .bool b) (by simp_all [execOp]) (by simp [an])
 . rw [aX hr]
   exact bz h (v':= .bool !b) (by simp_all [execOp]) (by simp [an])
 . cases hr
theorem Ow {C:Cx} (hC:iT C c.P) {op:BinOp} {t yt:TypeId} {x y:Operand} (ho:o.op= .binOp op t x y yt)
  (hr:(match fj s.t x,fj s.t y with
  | .agg a, .agg b=> .of (C.ty t) fun ty=>if C.eqv t=true∧t<Uv then
   .of (ty.Y6 a b) fun z=>H7 op z else .fail
  |a,b=>aeD (C.ty t) op a b:Out iv).eval=some r):pF c μ s o a w r:=by
 have hx:=h.cn x;have hy:=h.cn y;split at hr
 . rename_i da db ea eb
   rw [ea] at hx;rw [eb] at hy;simp only [an] at hx hy;obtain ⟨vx,e1,hx⟩:=hx;obtain ⟨vy,e2,hy⟩:=hy;obtain ⟨ty,kN,hr⟩:=aM hr;split at hr
   . rename_i hq
     obtain ⟨g1,g2,fields,hu,hnm⟩:=(hC.eqv t hq.1).1 hq.2;obtain ⟨z,hz,hr⟩:=aM hr;have dB:=hC.ty t ty kN;have ib:(Op.equalIn 10000 t (.agg vx) (.agg vy)).run c.P w= .ok z w:=by
      have hfo:c.P.fieldsOf t=fields:=by simp [Program.fieldsOf,hu]
      rw [run_equalIn_struct w 9999 t vx vy (by rw [hfo];exact hu) g1,hfo];cases ty<;>simp only [Ty.Y6] at hz<;>try (cases hz;done)
      simp only [Ty.Ok] at dB;obtain ⟨_,ajT,zP,hf⟩:=dB;rw [hu] at zP;cases zP;exact vT _ hf hnm (by simpa using hx) (by simpa using hy) hz 9998
     cases op<;>try (cases hr;done)
     . rw [aX hr]
       refine bz h (v':= .bool z) ?_ (by simp [an]);simp [execOp,ho,e1,e2,run_eqGuard_agg w _ t _ _ _ _ g2,run_eql_struct,ib]
     . rw [aX hr]
       refine bz h (v':= .bool (!z)) ?_ (by simp [an]);simp [execOp,ho,e1,e2,run_eqGuard_agg w _ t _ _ _ _ g2,run_neq_struct,ib]
   . cases hr
 . unfold aeD at hr
   split at hr
   . rename_i k1 x1 k2 x2 e1 e2
     rw [e1] at hx;rw [e2] at hy;simp only [an] at hx hy;have hg:(eqGuard op t x y (.int k1 x1) (.int k2 x2)).run c.P w= .ok () w:=by cases op<;>simp [eqGuard]
     split at hr
     . obtain ⟨v',h1,h2,h3⟩:=FW (w:=w) (P:=c.P) hr t (k':=k2)
       refine dn (μ':=μ) (fp':=fp) (v':=v') (w':=w) (by simp [execOp,ho,hx,hy,hg,h1]) ⟨fun _ _=>rfl,h2 c μ,by rw [h3];exact h.vs,h.ev⟩
     . rename_i hs
       split at hr
       . rename_i hk;subst hk
         obtain ⟨v',h1,h2,h3⟩:=Kj (w:=w) (P:=c.P) (by simpa using hs) hr t;refine dn (μ':=μ) (fp':=fp) (v':=v') (w':=w) (by simp [execOp,ho,hx,hy,hg,h1]) ⟨fun _ _=>rfl,h2 c μ,by rw [h3];exact h.vs,h.ev⟩
       . cases hr
   . rename_i x1 x2 e1 e2
     rw [e1] at hx;rw [e2] at hy;simp only [an] at hx hy;have hg:(eqGuard op t x y (.string ⟨x1.toArray⟩) (.string ⟨x2.toArray⟩)).run c.P w= .ok () w:=by cases op<;>simp [eqGuard]
     obtain ⟨v',h1,h2,h3⟩:=Kk (w:=w) (P:=c.P) hr t;refine dn (μ':=μ) (fp':=fp) (v':=v') (w':=w) (by simp_all [execOp]) ⟨fun _ _=>rfl,h2 c μ,by rw [h3];exact h.vs,h.ev⟩
   . rename_i x1 x2 e1 e2
     rw [e1] at hx;rw [e2] at hy;simp only [an] at hx hy;have hg:(eqGuard op t x y (.bool x1) (.bool x2)).run c.P w= .ok () w:=by simp_all [eqGuard]
     split at hr
     . rename_i hb
       have hu:c.P.underlying t=some .bool:=by
        unfold MV at hb;split at hb
        . rename_i e;have:=hC.ty t _ e;grind [Ty.Ok]
        . cases hb
       cases op<;>try (cases hr;done)
       . rw [aX hr]
         exact bz h (v':= .bool (x1==x2)) (by simp_all [execOp,run_eql_bool]) (by simp [an])
       . rw [aX hr]
         exact bz h (v':= .bool (!(x1==x2))) (by simp_all [execOp,run_neq_bool]) (by simp [an])
     . cases hr
   . cases hr
end
end
section
open Go
variable {z:Fz}
section
variable {c:Ctx} {μ:Nat→Loc} {fp:Nat→List Nat} {s:lx} {n:Nat} {o:Oper} {a:Act} {w:World} {r:iv} {C:Cx} {E:Env}
theorem sT {t e:Ty} (h:tV t=some e):t= .sl e:=by
 cases t<;>simp [tV] at h;rw [h]
theorem zB {d:ai} {k:Int} (h:mi d=some k):∃ kd,d= .i kd k:=by
 cases d<;>simp [mi] at h;simp_all
theorem Ty.Ok.sl {P:Program} {e:Ty} {tid:TypeId} (h:(Ty.sl e).Ok P tid):∃ eid,P.underlying tid=some (.slice eid)∧e.Ok P eid:=by grind [Ty.Ok]
theorem Ty.Ok.desc {P:Program} {t:Ty} {tid:TypeId} (h:t.Ok P tid):∃ d,P.underlying tid=some d:=by
 cases t<;>simp only [Ty.Ok] at h
 . grind
 . grind
 . grind
 . grind
 . grind
 . grind
 grind
theorem lz (hv:cX c μ fp s.v w) (hE:∀ id x,E id=some x→s.v id=some x) {id es:Nat} (h:nU E id=some es):
  ∃ a len cap,μ id= .sS a len cap es∧len≤cap∧(0<cap→∃ b o,a=some ⟨b,o,none⟩)∧Cb E (.cN id none)=some len:=by
 unfold nU at h;split at h
 . rename_i e xs hx
   cases h;obtain ⟨a,cap,h1,h2,_⟩:=hv.rel id _ (hE _ _ hx);grind [Ty.au,Cb]
 . rename_i e xs i off u dS hx
   cases h;obtain ⟨a,cap,h1,_,_,h3,h4⟩:=hv.rel id _ (hE _ _ hx);grind [Cb]
 . rename_i e xs i cs hx
   cases h;obtain ⟨a,cap,b,o,_,_,_,_,h1,h2,_,_,_,h6,_⟩:=hv.rel id _ (hE _ _ hx);grind [Cb]
 . rename_i e ys k hx
   cases h;obtain ⟨a,cap,a',h1,h2,h3,_⟩:=hv.rel id _ (hE _ _ hx);grind [Cb]
 . cases h
theorem Tp {S:Nat→Prop} {w:World} {e:Ty} {v:List Value} {l:List e.D} (h:(Ty.sl e).aQ S w v l):List.length l≤aS:=by grind [Ty.aQ]
theorem Ij {P:Program} {src dst:TypeId} {k kd:IntKind} {m:Int} {d:TypeDesc} (h1:P.underlying src=some d) (h2:P.underlying dst=some (.int k)):
 (convert src dst (.int kd m)).run P w= .ok (.int k (k.wrap m)) w:=by simp_all [convert,run_underlying,Conv.intToInt]
theorem Ox {S:Nat→Prop} {k:IntKind} {v:Value} {l:List Int} (h:(Ty.sl (.int k)).aQ S w [v] l):
  ∃ ad cap,v= .slice ad l.length cap∧l.length≤cap∧(l=[]∨∃ b o,ad=some ⟨b,o,none⟩∧S b∧∀ i,i<l.length→w.cell? ⟨b,o+i,none⟩=some (.int k (l.getD i 0))):=by
 simp only [Ty.aQ] at h;obtain ⟨ad,cap,e1,hc,h⟩:=h;refine ⟨ad,cap,(List.cons.inj e1).1,hc.1, ?_⟩;rcases h with h|⟨b,o,ha,hb,hi⟩
 . exact .inl h
 . refine .inr ⟨b,o,ha,hb,fun i bZ=> ?_⟩
   have h4:aE w b (o+i) 1=[.int k (l.getD i 0)]:=by
    have:=hi i (l.getD i 0) (by show l[i]? =some (l.getD i 0);grind);simp_all [Ty.aQ,Ty.size,Nat.mul_one]
   unfold aE at h4;split at h4
   . rename_i C' E' fr cf
     have h3:C'[o+i]? =some (.int k (l.getD i 0)):=by
      have:=congrArg (fun q=>q[0]?) h4;simpa [ahd,acb] using this
     grind [World.cell?]
   . cases h4
theorem Ci {P:Program} {src dst eid:TypeId} {v:Value} {l:List Int} {S:Nat→Prop} (h1:P.underlying src=some (.slice eid)) (h2:P.underlying eid=some (.int .u8)) (h3:P.underlying dst=some .string)
  (dI:(Ty.sl (.int .u8)).aQ S w [v] l):(convert src dst v).run P w= .ok (.string ⟨(l.map fun n:Int=>UInt8.ofNat n.toNat).toArray⟩) w:=by
 obtain ⟨ad,cap,rfl,hc,dI⟩:=Ox dI;rcases dI with rfl|⟨b,o',rfl,_,hi⟩
 . cases ad with
   |none=>exact run_convert_bytes_nil w src eid h1 h2 _ _ dst h3
   |some ad=>
    rw [run_convert_bytes_string w src dst eid _ _ _ h1 h2 h3];exact run_bytesToString w ad 0 cap [] (by simp [loadCells,loadCellsFrom])
 . exact run_convert_bytes_arg w src eid h1 h2 b o' l.length cap l rfl hi dst h3
variable (h:iE c μ fp s n a w)
include h
theorem Ik (hC:iT C c.P) (hE:∀ id x,E id=some x→s.v id=some x) {src dst:TypeId} {x:Operand} (ho:o.op= .convert src dst x)
  (hr:(S3 C E src dst (fj s.t x)).eval=some r):pF c μ s o a w r:=by
 have hx:=h.cn x;unfold S3 at hr;obtain ⟨t,ht,hr⟩:=aM hr;have dB:=hC.ty dst t ht;split at hr
 . rename_i k kd m e
   rw [e] at hx;simp only [an] at hx;simp only [Ty.Ok] at dB;split at hr
   . rename_i hs
     obtain ⟨ts,hs⟩:=Option.isSome_iff_exists.1 hs;obtain ⟨ds,hds⟩:=(hC.ty src ts hs).desc;rw [aX hr];exact bz h (v':= .int k (k.wrap m)) (by simp_all [execOp,Ij]) (by simp [an])
   . cases hr
 . rename_i l e
   rw [e] at hx;simp only [an] at hx;simp only [Ty.Ok] at dB;split at hr
   . rename_i hs
     obtain ⟨ts,hs⟩:=Option.isSome_iff_exists.1 hs;obtain ⟨ds,hds⟩:=(hC.ty src ts hs).desc;rw [aX hr];exact bz h (v':= .string ⟨l.toArray⟩) (by simp [execOp,ho,hx.1,convert,run_underlying hds,run_underlying dB.2]) (by grind [an])
   . cases hr
 . simp only [Ty.Ok] at dB
   split at hr
   . rename_i hb
     obtain ⟨l,hl,hr⟩:=aM hr;rw [aX hr];have nt:∃ eid,c.P.underlying src=some (.slice eid)∧c.P.underlying eid=some (.int .u8):=by
      unfold MW at hb;split at hb
      . rename_i e
        obtain ⟨eid,h1,h2⟩:=(hC.ty src _ e).sl;grind [Ty.Ok]
      . cases hb
     obtain ⟨eid,h1,h2⟩:=nt;have dI:=oZ h.vs h.ev hE (S':=fun _=>True) (fun _ _=>trivial) (fun _ _ _ _=>trivial) hx hl;refine bz h (v':= .string ⟨(List.map (fun n:Int=>UInt8.ofNat n.toNat) l).toArray⟩) ?_ (by simp only [an];exact ⟨trivial,aa3 (af5 (aeN _)) (Tp dI)⟩);have key:=Ci h1 h2 dB.2 dI;simp_all [execOp]
   . cases hr
 . cases hr
theorem Cj (hC:iT C c.P) {t:TypeId} {x:Operand} {k:Nat} (ho:o.op= .fieldAddr t x k)
  (hr:(Out.of (C.ty t) fun t=> .of (t.field k) fun f=>
  match fj s.t x with
  | .vptr id off=>cJ (.vptr id (off+f.1))
  | .jL id i off=>cJ (.jL id i (off+f.1))
  | .BR t x off=>cJ (.BR t x (off+f.1))
  |_=> .fail:Out iv).eval=some r):pF c μ s o a w r:=by
 have hx:=h.cn x;obtain ⟨ty,kN,hr⟩:=aM hr;obtain ⟨f,hf,hr⟩:=aM hr;obtain ⟨fields,fd,hu,h1,h2,h3,h4⟩:=(hC.ty t ty kN).field hf;have ln:=h3.pos;have run:∀ B o',(Instr.fieldAt t (.pointer (some ⟨B,o',none⟩)) k).run c.P w= .ok (.pointer (some ⟨B,o'+f.1,none⟩)) w:=by
  intro B o';have:f.2.size≠0:=by omega
  simp [Instr.fieldAt,run_underlying hu,h1,Instr.sureAddr,fieldPlace,h3.kM,this,h2,Addr.add]
  try (split<;>simp_all)
 split at hr
 . rename_i id off e
   rw [e] at hx;rw [aX hr];simp only [an] at hx;obtain ⟨B,o',hm,hv⟩:=hx;refine bz h (v':= .pointer (some ⟨B,o'+off+f.1,none⟩)) (by simp_all [execOp]) ?_;grind [an,Nat.add_assoc]
 . rename_i id i off e
   rw [e] at hx;rw [aX hr];simp only [an] at hx;obtain ⟨b,o',len,cap,sz,hm,hi,hv⟩:=hx;refine bz h (v':= .pointer (some ⟨b,o'+i*sz+off+f.1,none⟩)) (by simp_all [execOp]) ?_;grind [an,Nat.add_assoc]
 . rename_i t' x' off e
   rw [e] at hx;rw [aX hr];simp only [an] at hx;obtain ⟨b,o',hb,hm,hv⟩:=hx;refine bz h (v':= .pointer (some ⟨b,o'+off+f.1,none⟩)) (by simp_all [execOp]) ?_;grind [an,Nat.add_assoc]
 . cases hr
theorem tq (hC:iT C c.P) (hE:∀ id x,E id=some x→s.v id=some x) {t:TypeId} {x y:Operand} (ho:o.op= .indexAddr t x y)
  (hr:(Out.of (C.ty t) fun t=> .of (tV t) fun e=> .of (mi (fj s.t y)) fun n=>Kf E e.size (fj s.t x) n).eval=some r):pF c μ s o a w r:=by
 have hx:=h.cn x;have hy:=h.cn y;obtain ⟨ty,kN,hr⟩:=aM hr;obtain ⟨e,he,hr⟩:=aM hr;obtain ⟨m,hm,hr⟩:=aM hr;have kN:C.ty t=some (.sl e):=sT he ▸ kN;obtain ⟨eid,hu,dB⟩:=(hC.ty t _ kN).sl;obtain ⟨kd,ey⟩:=zB hm;rw [ey] at hy;simp only [an] at hy;have run:∀ (b o' len cap:Nat),0≤m→m<len→(Instr.indexAt t (.slice (some ⟨b,o',none⟩) len cap) (.int kd m)).run c.P w= .ok (.pointer (some ⟨b,o'+m.toNat*e.size,none⟩)) w:=by
  intro b o' len cap h0 h1;simp [Instr.indexAt,asIntOf,run_underlying hu,h0,h1,dB.kM,Addr.add]
  try (split<;>simp_all)
 unfold Kf at hr;split at hr
 . rename_i e' xs tk ex
   rw [ex] at hx;simp only [an] at hx;split at hr
   . rename_i sW
     rcases cb hr with ⟨h0,hr⟩|⟨_,hr⟩
     . have h0:0≤m:=abH h0
       obtain ⟨z,hz,hr⟩:=ji hr;rw [aX hr];have bZ:m.toNat<xs.length:=(List.getElem?_eq_some_iff.1 hz).1;obtain ⟨b,o',cap,hv,hb,dI⟩:=Oo hx.1 hz;refine bz h (v':= .pointer (some ⟨b,o'+m.toNat*e.size,none⟩)) (by simp [execOp,ho,hv,hy,run b o' xs.length cap h0 (by omega)]) ?_;simp only [an];exact ⟨b,o'+m.toNat*e.size,hb,by rw [← sW];exact dI,rfl⟩
     . cases hr
   . cases hr
 . rename_i id ex
   rw [ex] at hx;simp only [an] at hx;obtain ⟨ad,len,cap,sz,pI,hv⟩:=hx;obtain ⟨l,hl,hr⟩:=aM hr;split at hr
   . rename_i sW
     obtain ⟨ad',nV,j7,g1,g2,g3,g4⟩:=lz h.vs hE sW;rw [pI] at g1;cases g1;rw [g4] at hl;cases hl;rcases cb hr with ⟨h0,hr⟩|⟨_,hr⟩
     . have h0:0≤m∧m<(len:Int):=abH h0
       rw [aX hr];obtain ⟨b,o',rfl⟩:=g3 (by omega);refine bz h (v':= .pointer (some ⟨b,o'+m.toNat*e.size,none⟩)) (by simp [execOp,ho,hv,hy,run b o' len cap h0.1 h0.2]) ?_;simp only [an];exact ⟨b,o',len,cap,e.size,pI,by omega,rfl⟩
     . cases hr
   . cases hr
 . rename_i id off l ex
   rw [ex] at hx;simp only [an] at hx;obtain ⟨ad,len,cap,sz,ad2,pI,hle,hlc,hv,had⟩:=hx;split at hr
   . rename_i sW
     obtain ⟨ad',nV,j7,g1,g2,g3,g4⟩:=lz h.vs hE sW;rw [pI] at g1;cases g1;rcases cb hr with ⟨h0,hr⟩|⟨_,hr⟩
     . have h0:0≤m∧m<(l:Int):=abH h0
       rw [aX hr];rcases had with had|⟨b,o',rfl,rfl⟩
       . omega
       refine bz h (v':= .pointer (some ⟨b,o'+off*e.size+m.toNat*e.size,none⟩)) (by simp_all [execOp]) ?_;simp only [an];grind
     . cases hr
   . cases hr
 . cases hr
theorem Zb (hC:iT C c.P) (hE:∀ id x,E id=some x→s.v id=some x) {cl:Call} (hcl:cl.callee= .builtin .len) {t:TypeId} {x:Operand} (ha:cl.args.toList=[x]) (LA:cl.argTypes.toList=[t]) (ho:o.op= .call cl)
  (hr:(Out.of (C.ty t) fun t=> .of (aeE E t (fj s.t x)) fun n=>cJ (.i .i64 (n:Int))).eval=some r):pF c μ s o a w r:=by
 have hx:=h.cn x;obtain ⟨ty,kN,hr⟩:=aM hr;obtain ⟨m,hm,hr⟩:=aM hr;rw [aX hr];have dB:=hC.ty t ty kN;have E8:cl.args= #[x]:=by grind
 have Oy:cl.argTypes= #[t]:=by grind
 have key:∀ v,(Builtin.len_ #[t] o.type #[a.eval x]).run c.P w= .ok v w→(execOp a.eval o).run c.P w= .ok (.value v) w:=by simp_all [execOp,resolve,invoke,builtin]
 refine bz h (v':= .int .i64 m) (key _ ?_) (by simp [an]);unfold aeE at hm;split at hm
 . rename_i l e
   cases hm;rw [e] at hx;simp only [an] at hx;simp only [Ty.Ok] at dB;simp [Builtin.len_,hx,run_underlying dB.2,o6,goInt]
 . rename_i e
   obtain ⟨eid,hu,Ck⟩:=dB.sl;have hv:∃ ad cap,a.eval x= .slice ad m cap:=by
    unfold Cb at hm;split at hm
    . grind [an,Ty.aQ]
    . grind [an]
    . rename_i ex;rw [ex] at hx
      simp only [an] at hx;obtain ⟨ad,len,cap,sz,g1,hv⟩:=hx;split at hm
      . rename_i hEx;cases hm
        obtain ⟨a2,cap2,q1,_⟩:=h.vs.rel _ _ (hE _ _ hEx);grind
      . rename_i hEx;cases hm
        obtain ⟨a2,cap2,q1,_⟩:=h.vs.rel _ _ (hE _ _ hEx);grind
      . rename_i hEx;cases hm
        obtain ⟨a2,cap2,_,_,_,_,_,_,q1,_⟩:=h.vs.rel _ _ (hE _ _ hEx);grind
      . rename_i hEx;cases hm
        obtain ⟨a2,cap2,_,q1,_⟩:=h.vs.rel _ _ (hE _ _ hEx);grind
      . cases hm
    . grind [an]
    . cases hm
   obtain ⟨ad,cap,hv⟩:=hv;simp [Builtin.len_,hv,run_underlying hu,goInt]
 . cases hm
end
end
section
open Go
section
variable {c:Ctx} {μ:Nat→Loc} {fp:Nat→List Nat} {s:lx} {n:Nat} {o:Oper} {a:Act} {w:World} {r:iv} {C:Cx} {E:Env}
theorem Cl (x:List UInt8) (l h:Nat):(ByteArray.mk x.toArray).extract l h=ByteArray.mk ((x.take h).drop l).toArray:=by
 apply ByteArray.ext;simp [List.extract_eq_take_drop,List.drop_take]
theorem Dl {P:Program} {kd:IntKind} {i:Int} {y:Nat} {code:BoundsCode} (h0:0≤i) (h1:i≤y):(Instr.sliceBound (.int kd i) y code).run P w= .ok i.toNat w:=
 by grind [run_sliceBound]
theorem Bb {P:Program} {isS:Bool} {len cap:Nat} {lo hi:Option Value} {nm cU:Option Int} (JN:∀ v,lo=some v→∃ k i,v= .int k i∧nm=some i) (hhi:∀ v,hi=some v→∃ k i,v= .int k i∧cU=some i)
  (nlo:lo=none→nm=none) (nhi:hi=none→cU=none) (hlc:len≤cap)
  (h:0≤nm.getD 0∧nm.getD 0≤cU.getD len∧cU.getD len≤(len:Int)):
  (Instr.sliceBounds isS len cap lo hi none).run P w= .ok ((nm.getD 0).toNat,(cU.getD len).toNat,cap) w:=by
 have e2:∀ (code:BoundsCode),(match hi,(none:Option Value) with
   |some v,some _=>Instr.sliceBound v cap .slice3B
   |some v,none=>Instr.sliceBound v cap code
   |none,none=>pure len
   |none,some _=>stuck "Slice: max without high").run P w= .ok (cU.getD len).toNat w:=by
  intro code;cases hi with
  |none=>simp [nhi rfl]
  |some v=>
   obtain ⟨k,i,rfl,e⟩:=hhi v rfl;grind [Dl]
 have e3:(match lo with
   |some v=>Instr.sliceBound v (cU.getD len).toNat .sliceB
   |none=>pure 0).run P w= .ok (nm.getD 0).toNat w:=by
  cases lo with
  |none=>simp [nlo rfl]
  |some v=>
   obtain ⟨k,i,rfl,e⟩:=JN v rfl;grind [Dl]
 unfold Instr.sliceBounds;simp only [Sem.run_bind,Sem.run_pure,Result.andThen_ok];cases isS
 . have:=e2 .sliceAlen
   cases hi<;>cases lo<;>simp_all
 . have:=e2 .sliceAcap
   cases hi<;>cases lo<;>simp_all
variable (h:iE c μ fp s n a w)
include h
theorem iE.bound {z:Option Operand} {l:Option (Option Int)} (hl:z.map (fun q=>mi (fj s.t q))=l) (hn:l≠some none):
  (∀ v,z.map a.eval=some v→∃ k i,v= .int k i∧l.bind id=some i)∧(z.map a.eval=none→l.bind id=none):=by
 cases z with
 |none=>subst hl;simp
 |some q=>
  simp only [afJ] at hl ⊢;subst hl;cases hg:mi (fj s.t q) with
  |none=>grind
  |some i=>
   obtain ⟨kd,e⟩:=zB hg;have:=h.cn q;grind [an]
theorem Oz (hC:iT C c.P) (hE:∀ id x,E id=some x→s.v id=some x) {t:TypeId} {x:Operand} {lo hi:Option Operand} (ho:o.op= .slice t x lo hi none)
  (hr:(Out.of (C.ty t) fun t=>
  match lo.map fun z=>mi (fj s.t z),hi.map fun z=>mi (fj s.t z) with
  |some none,_=> .fail
  |_,some none=> .fail
  |l,h=>FO E t (fj s.t x) (l.bind id) (h.bind id)).eval=some r):pF c μ s o a w r:=by
 have hx:=h.cn x;obtain ⟨ty,kN,hr⟩:=aM hr;have dB:=hC.ty t ty kN;generalize hl:lo.map (fun z=>mi (fj s.t z))=l at hr;generalize hh:hi.map (fun z=>mi (fj s.t z))=hv at hr;have Uk:l≠some none:=by rintro rfl;cases hr
 have hnh:hv≠some none:=by rintro rfl;split at hr<;>first|cases hr|simp_all
 obtain ⟨bl,nl⟩:=h.bound hl Uk;obtain ⟨bh,nh⟩:=h.bound hh hnh;have hr:(FO E ty (fj s.t x) (l.bind id) (hv.bind id)).eval=some r:=by
  split at hr
  . cases hr
  . cases hr
  . exact hr
 generalize l.bind id=nm at bl nl hr;generalize hv.bind id=cU at bh nh hr;unfold FO at hr;split at hr
 . rename_i x' e _
   rw [e] at hx;simp only [an] at hx;simp only [Ty.Ok] at dB;have run:0≤nm.getD 0∧nm.getD 0≤cU.getD x'.length∧cU.getD x'.length≤(x'.length:Int)→
     (execOp a.eval o).run c.P w= .ok (.value (.string ⟨((x'.take (cU.getD x'.length).toNat).drop (nm.getD 0).toNat).toArray⟩)) w:=by
    intro hb;have:=Bb (w:=w) (P:=c.P) (isS:=false) (len:=x'.length) (cap:=x'.length) bl bh nl nh (abD _) hb;simp [execOp,ho,hx,Instr.sliceAt,Instr.slice,run_underlying dB.2,o6,this,Cl]
   unfold SY at hr;split at hr
   . rcases cb hr with ⟨h0,hr⟩|⟨_,hr⟩
     . have h0:=abH h0
       rw [aX hr];refine bz h (run ⟨h0.1,by simpa using h0.2,by simp⟩) ?_;have:=hx.2;simp [an];omega
     . cases hr
   . rcases cb hr with ⟨h0,hr⟩|⟨_,hr⟩
     . have h0:=abH h0
       rw [aX hr];refine bz h (run ⟨h0.1,by simpa using h0.2.1,by simpa using h0.2.2⟩) ?_;have:=hx.2;simp [an];omega
     . cases hr
 . rename_i e _
   obtain ⟨eid,hu,Ck⟩:=dB.sl;have run:∀ (ad:Option Addr) (len cap:Nat),a.eval x= .slice ad len cap→len≤cap→0≤nm.getD 0∧nm.getD 0≤cU.getD len∧cU.getD len≤(len:Int)→
     (execOp a.eval o).run c.P w= .ok (.value (.slice (if cap=(nm.getD 0).toNat then ad else ad.map (·.add ((nm.getD 0).toNat*e.size))) ((cU.getD len).toNat - (nm.getD 0).toNat) (cap - (nm.getD 0).toNat))) w:=by
    intro ad len cap hv hlc hb;have:=Bb (w:=w) (P:=c.P) (isS:=true) (len:=len) (cap:=cap) bl bh nl nh hlc hb;simp [execOp,ho,hv,Instr.sliceAt,Instr.slice,run_underlying hu,this,Ck.kM]
   unfold SZ at hr;split at hr
   . rename_i e' xs tk ex
     rw [ex] at hx;simp only [an] at hx;obtain ⟨dI,_⟩:=hx;split at hr
     . rename_i sW
       have hv:∃ ad cap,a.eval x= .slice ad xs.length cap∧xs.length≤cap∧(xs=[]∨∃ b o',ad=some ⟨b,o',none⟩):=by
        simp only [Ty.aQ] at dI;obtain ⟨ad,cap,e1,hc,h3⟩:=dI;refine ⟨ad,cap,(List.cons.inj e1).1,hc.1, ?_⟩;rcases h3 with h3|⟨b,o',h3,_⟩
        . exact .inl h3
        . exact .inr ⟨b,o',h3⟩
       obtain ⟨ad,cap,hv,hc,had⟩:=hv
       -- what comes of it, in one form
       have fin:0≤nm.getD 0∧nm.getD 0≤cU.getD xs.length∧cU.getD xs.length≤(xs.length:Int)→
         pF c μ s o a w (.ro e' ((xs.drop (nm.getD 0).toNat).take ((cU.getD xs.length).toNat - (nm.getD 0).toNat)) none,[]):=by
        intro hb;refine bz h (run ad xs.length cap hv hc hb) ?_;simp only [an];refine ⟨?_,by simp⟩;rw [hv] at dI;by_cases zA:xs=[]
        . subst zA
          simp only [aat] at hb ⊢;have e1:(cU.getD (0:Nat)).toNat - (nm.getD 0).toNat=0:=by omega
          rw [e1];simp only [ahI];simp only [Ty.aQ];exact ⟨_,_,rfl,⟨afO _,afO _⟩, .inl rfl⟩
        . obtain ⟨b,o',rfl⟩:=had.resolve_left zA
          refine A8 dI (by omega) ?_;by_cases Zc:cap=(nm.getD 0).toNat
          . left;omega
          . right;refine ⟨b,o',rfl, ?_⟩
            rw [aap Zc];simp only [afJ,Addr.add,sW];split<;>simp_all
       split at hr
       . rcases cb hr with ⟨h0,hr⟩|⟨_,hr⟩
         . have h0:=abH h0
           rw [aX hr];have:=fin ⟨h0.1,by simpa using h0.2,by simp⟩;simpa [afP] using this
         . cases hr
       . rcases cb hr with ⟨h0,hr⟩|⟨_,hr⟩
         . have h0:=abH h0
           rw [aX hr];have:=fin ⟨h0.1,by simpa using h0.2.1,by simpa using h0.2.2⟩;simpa [List.drop_take] using this
         . cases hr
     . cases hr
   . rename_i id vw ex
     rw [ex] at hx;obtain ⟨m,hm,hr⟩:=aM hr;split at hr
     . rename_i sW
       rcases cb hr with ⟨h0,hr⟩|⟨_,hr⟩
       . have h0:=abH h0
         rw [aX hr];obtain ⟨ad,len,cap,g1,g2,g3,g4⟩:=lz h.vs hE sW;rcases vw with _|⟨off,l1⟩
         . simp only [an] at hx
           obtain ⟨ad',nV,j7,sz,q1,hv⟩:=hx;rw [g1] at q1;cases q1;obtain rfl:len=m:=aaG (g4.symm.trans hm);refine bz h (run ad len cap hv g2 h0) ?_;simp only [an,Option.map_none,Option.getD_none,ada];refine ⟨ad,len,cap,e.size,_,g1,by omega,g2,rfl, ?_⟩;by_cases Zc:cap=(nm.getD 0).toNat
           . left;omega
           . right
             obtain ⟨b,o',rfl⟩:=g3 (by omega);refine ⟨b,o',rfl, ?_⟩;rw [aap Zc];simp only [afJ,Addr.add];split<;>simp_all
         . simp only [an] at hx
           obtain ⟨ad',nV,j7,sz,ad2,q1,q2,q3,hv,q4⟩:=hx;rw [g1] at q1;cases q1;obtain rfl:l1=m:=aaG hm;refine bz h (run ad2 l1 (cap - off) hv (by omega) h0) ?_;simp only [an,afJ,Option.getD_some];refine ⟨ad,len,cap,e.size,_,g1,by omega,g2,by rw [Nat.sub_sub], ?_⟩;by_cases Zc:cap - off=(nm.getD 0).toNat
           . left;omega
           . right
             rcases q4 with q4|⟨b,o',rfl,rfl⟩
             . omega
             refine ⟨b,o',rfl, ?_⟩;rw [aap Zc];simp only [afJ,Addr.add];split
             . rename_i hz;simp only [adh,Addr.mk.injEq,true_and,agG];grind
             grind
       . cases hr
     . cases hr
   . cases hr
 . cases hr
end
end
section
open Go
variable {z:Fz}
theorem jH (a b:List (Nat×bQ)):news (a++b)=news a++news b:=by simp [news]
mutual
theorem Ty.j4:(t:Ty)→(x:t.D)→(n:Nat)→n≤(t.bP x n).2.2
 | .bool,_,n=>abD n
 | .int _,_,n=>abD n
 | .str,_,n=>abD n
 | .hole,_,n=>abD n
 | .sl _,_,n=>ahj n
 | .fz _,_,n=>abD n
 | .st fs,x,n=>aI.j4 fs x n
theorem aI.j4:(t:aI)→(x:t.D)→(n:Nat)→n≤(t.bP x n).2.2
 | .nil,_,n=>abD n
 | .cons t ts,x,n=>aa3 (Ty.j4 t x.1 n) (aI.j4 ts x.2 _)
end
mutual
theorem Ty.n3:(t:Ty)→(x:t.D)→(n:Nat)→∀ id∈ai.bI (t.bP x n).1,n≤id∧id<(t.bP x n).2.2
 | .bool,_,n=>by intro id h;cases h
 | .int _,_,n=>by intro id h;cases h
 | .str,_,n=>by intro id h;cases h
 | .hole,_,n=>by intro id h;cases h
 | .sl e,x,n=>by
   intro id h;have h:id∈[n]:=h;simp at h;subst h;exact ⟨abD _,Nat.lt_succ_self _⟩
 | .fz _,_,n=>by intro id h;cases h
 | .st fs,x,n=>aI.n3 fs x n
theorem aI.n3:(t:aI)→(x:t.D)→(n:Nat)→∀ id∈ai.bI (t.bP x n).1,n≤id∧id<(t.bP x n).2.2
 | .nil,_,n=>by intro id h;cases h
 | .cons t ts,x,n=>by
   intro id h;have h:id∈ai.bI ((t.bP x.1 n).1++(ts.bP x.2 (t.bP x.1 n).2.2).1):=h;rw [qt,aaN] at h;have l1:=Ty.j4 t x.1 n;have l2:=aI.j4 ts x.2 (t.bP x.1 n).2.2;show n≤id∧id<(ts.bP x.2 (t.bP x.1 n).2.2).2.2;rcases h with h|h
   . have:=Ty.n3 t x.1 n id h;omega
   . have:=aI.n3 ts x.2 _ id h;omega
end
structure M8 (c:Ctx) (K K':Nat→Prop) (μ μ':Nat→Loc) (fp fp':Nat→List Nat) (v v':Env) (w:World) (f:List Nat):Prop where
 agree:∀ id,K id→μ' id=μ id
 rel:cX c μ' fp' v' w
 known:∀ id x,v' id=some x→K' id∧∀ dS∈x.ids,K' dS
 Zd:∀ id,v' id≠none→(v id≠none∧fp' id=fp id)∨∀ b∈fp' id,b∈f
mutual
theorem Ty.n4 {c:Ctx} {w:World}:(t:Ty)→∀ {cs:List Value} {x:t.D} {f:List Nat} {n:Nat} {K:Nat→Prop} {μ:Nat→Loc} {fp:Nat→List Nat} {v:Env},
  cX c μ fp v w→(∀ id x,v id=some x→K id∧∀ dS∈x.ids,K dS)→t.au c.fz w cs x f→f.Nodup→(∀ b∈f,¬ c.S b∧b<w.heap.size∧(b<c.w0.heap.size→∀ j,c.M b j))→
  (∀ id,v id≠none→∀ b∈fp id,b ∉ f)→(∀ id,n≤id→id<(t.bP x n).2.2→¬ K id)→
  ∃ μ' fp',aj c μ' cs (t.bP x n).1∧M8 c K (fun id=>K id∨(n≤id∧id<(t.bP x n).2.2)) μ μ' fp fp' v (cC v (news (t.bP x n).2.1)) w f
 | .bool,cs,x,f,n,K,μ,fp,v,hv,hK,hr,_,_,_,_=>by
   simp only [Ty.au] at hr;obtain ⟨rfl,rfl⟩:=hr;exact ⟨μ,fp,by simp [Ty.bP,aj,an],⟨fun _ _=>rfl,hv,fun id x hx=>⟨.inl (hK id x hx).1,fun i hi=> .inl ((hK id x hx).2 i hi)⟩,fun id hn=> .inl ⟨hn,rfl⟩⟩⟩
 | .int k,cs,x,f,n,K,μ,fp,v,hv,hK,hr,_,_,_,_=>by
   simp only [Ty.au] at hr;obtain ⟨rfl,rfl⟩:=hr;exact ⟨μ,fp,by simp [Ty.bP,aj,an],⟨fun _ _=>rfl,hv,fun id x hx=>⟨.inl (hK id x hx).1,fun i hi=> .inl ((hK id x hx).2 i hi)⟩,fun id hn=> .inl ⟨hn,rfl⟩⟩⟩
 | .str,cs,x,f,n,K,μ,fp,v,hv,hK,hr,_,_,_,_=>by
   simp only [Ty.au] at hr;obtain ⟨rfl,rfl,hx⟩:=hr;exact ⟨μ,fp,by grind [Ty.bP,aj,an],⟨fun _ _=>rfl,hv,fun id x hx=>⟨.inl (hK id x hx).1,fun i hi=> .inl ((hK id x hx).2 i hi)⟩,fun id hn=> .inl ⟨hn,rfl⟩⟩⟩
 | .hole,cs,x,f,n,K,μ,fp,v,hv,hK,hr,_,_,_,_=>by
   simp only [Ty.au] at hr;obtain ⟨⟨q,rfl,hq⟩,rfl⟩:=hr;exact ⟨μ,fp,by grind [Ty.bP,aj,an],⟨fun _ _=>rfl,hv,fun id x hx=>⟨.inl (hK id x hx).1,fun i hi=> .inl ((hK id x hx).2 i hi)⟩,fun id hn=> .inl ⟨hn,rfl⟩⟩⟩
 | .sl e,cs,x,f,n,K,μ,fp,v,hv,hK,hr,hn,hf,hd,iX=>by
   have GQ:=hr;simp only [Ty.au] at hr;obtain ⟨a,cap,rfl,hc,_⟩:=hr;have hk:¬ K n:=iX n (abD n) (Nat.lt_succ_self n);refine ⟨fun id=>if id=n then .sS a (List.length x) cap e.size else μ id,fun k=>if k=n then f else fp k, ?_, ?_⟩
   . show aj c _ [_] [ai.cN n none]
     simp only [aj,an];exact ⟨_,[],rfl,⟨a,List.length x,cap,e.size,by simp,rfl⟩,rfl⟩
   . have ha:∀ id,K id→(if id=n then Loc.sS a (List.length x) cap e.size else μ id)=μ id:=by grind
     refine ⟨ha, ?_, ?_, ?_⟩
     . refine hv.mn [] n (.arr e x) f (by grind) (fun _ _ _ _ _ _=>rfl) (abD _) ?_ hn ?_
       . exact ⟨a,cap,aaK rfl,GQ,by grind⟩
       grind
     . intro id y hy
       have hy:(if id=n then some (.arr e x) else v id)=some y:=hy;by_cases hi:id=n
       . rw [aaK hi] at hy;cases hy
         exact ⟨.inr ⟨by omega,by rw [hi];exact Nat.lt_succ_self n⟩,fun i hi=>by cases hi⟩
       grind
     . intro id hy
       have hy:(if id=n then some (.arr e x) else v id)≠none:=hy;grind
 | .fz e,cs,x,f,n,K,μ,fp,v,hv,hK,hr,_,_,_,_=>by
   simp only [Ty.au] at hr;obtain ⟨hr,rfl⟩:=hr;have GQ:=j0.1 hr;simp only [Ty.aQ] at hr;obtain ⟨a,cap,rfl,_⟩:=hr;exact ⟨μ,fp,by simp only [Ty.bP,aj,an];exact ⟨_,[],rfl,⟨GQ,by simp⟩,rfl⟩,⟨fun _ _=>rfl,hv,fun id x hx=>⟨.inl (hK id x hx).1,fun i hi=> .inl ((hK id x hx).2 i hi)⟩,fun id hn=> .inl ⟨hn,rfl⟩⟩⟩
 | .st fs,cs,x,f,n,K,μ,fp,v,hv,hK,hr,hn,hf,hd,iX=>aI.n4 fs hv hK (by grind [Ty.au]) hn hf hd iX
theorem aI.n4 {c:Ctx} {w:World}:(t:aI)→∀ {cs:List Value} {x:t.D} {f:List Nat} {n:Nat} {K:Nat→Prop} {μ:Nat→Loc} {fp:Nat→List Nat} {v:Env},
  cX c μ fp v w→(∀ id x,v id=some x→K id∧∀ dS∈x.ids,K dS)→t.au c.fz w cs x f→f.Nodup→(∀ b∈f,¬ c.S b∧b<w.heap.size∧(b<c.w0.heap.size→∀ j,c.M b j))→
  (∀ id,v id≠none→∀ b∈fp id,b ∉ f)→(∀ id,n≤id→id<(t.bP x n).2.2→¬ K id)→
  ∃ μ' fp',aj c μ' cs (t.bP x n).1∧M8 c K (fun id=>K id∨(n≤id∧id<(t.bP x n).2.2)) μ μ' fp fp' v (cC v (news (t.bP x n).2.1)) w f
 | .nil,cs,x,f,n,K,μ,fp,v,hv,hK,hr,_,_,_,_=>by
   simp only [aI.au] at hr;obtain ⟨rfl,rfl⟩:=hr;exact ⟨μ,fp,by simp [aI.bP,aj],⟨fun _ _=>rfl,hv,fun id x hx=>⟨.inl (hK id x hx).1,fun i hi=> .inl ((hK id x hx).2 i hi)⟩,fun id hn=> .inl ⟨hn,rfl⟩⟩⟩
 | .cons t ts,cs,x,f,n,K,μ,fp,v,hv,hK,hr,hn,hf,hd,iX=>by
   simp only [aI.au] at hr;obtain ⟨c1,c2,f1,f2,rfl,rfl,h1,h2⟩:=hr;have Gx:=acd.1 hn;have l1:=Ty.j4 t x.1 n;have l2:=aI.j4 ts x.2 (t.bP x.1 n).2.2;have e22:((aI.cons t ts).bP x n).2.2=(ts.bP x.2 (t.bP x.1 n).2.2).2.2:=rfl;have e21:((aI.cons t ts).bP x n).2.1=(t.bP x.1 n).2.1++(ts.bP x.2 (t.bP x.1 n).2.2).2.1:=rfl;have e1:((aI.cons t ts).bP x n).1=(t.bP x.1 n).1++(ts.bP x.2 (t.bP x.1 n).2.2).1:=rfl;obtain ⟨yG,I6,r1,ch1⟩:=Ty.n4 t hv hK h1 Gx.1 (by grind) (by grind) (fun id h3 h4=>iX id h3 (by rw [e22];omega));obtain ⟨μ2,fp2,r2,ch2⟩:=aI.n4 ts (n:=(t.bP x.1 n).2.2) ch1.rel ch1.known h2 Gx.2.1 (by grind)
    (fun id Pb b hb cf=>by
     rcases ch1.Zd id Pb with ⟨q1,q2⟩|q
     . grind
     grind)
    (by grind)
   refine ⟨μ2,fp2, ?_, ?_⟩
   . rw [e1]
     refine aj.append (aj.mono _ (fun id hi=> ?_) r1) r2;exact ch2.agree id (by grind [Ty.n3,id])
   . rw [e21,e22,jH,dE]
     refine ⟨fun id hi=>(ch2.agree id (.inl hi)).trans (ch1.agree id hi),ch2.rel, ?_, ?_⟩
     . intro id y hy
       have:=ch2.known id y hy;grind
     . intro id hy
       rcases ch2.Zd id hy with ⟨q1,q2⟩|q
       . rcases ch1.Zd id q1 with ⟨q3,q4⟩|q'
         . grind
         grind
       grind
end
section
variable {c:Ctx} {μ:Nat→Loc} {fp:Nat→List Nat} {s:lx} {n:Nat} {o:Oper} {a:Act} {w:World} {r:iv} {C:Cx} {E:Env}
variable (h:iE c μ fp s n a w)
include h
theorem iE.bP {t:Ty} {cs:List Value} {x:t.D} {f:List Nat} {k:Nat} (hr:t.au c.fz w cs x f) (hn:f.Nodup) (hf:∀ b∈f,¬ c.S b∧b<w.heap.size∧(b<c.w0.heap.size→∀ j,c.M b j))
  (hd:∀ id,s.v id≠none→∀ b∈fp id,b ∉ f) (iX:∀ id,k≤id→id<(t.bP x k).2.2→¬ s.k id):
  ∃ μ' fp',aj c μ' cs (t.bP x k).1∧M8 c s.k (fun id=>s.k id∨(k≤id∧id<(t.bP x k).2.2)) μ μ' fp fp' s.v (cC s.v (news (t.bP x k).2.1)) w f:=
 Ty.n4 t h.vs h.known.v hr hn hf hd iX
theorem iE.Dn (t:Ty) {k:Nat} (iX:∀ id,k≤id→id<(t.bP t.zero k).2.2→¬ s.k id):
  ∃ μ' fp',aj c μ' t.zeroV (t.bP t.zero k).1∧M8 c s.k (fun id=>s.k id∨(k≤id∧id<(t.bP t.zero k).2.2)) μ μ' fp fp' s.v (cC s.v (news (t.bP t.zero k).2.1)) w []:=
 h.bP (Ty.iJ w t) (by simp) (by simp) (by simp) iX
end
end
section
open Go
mutual
theorem Ty.jI:(t:Ty)→(x:t.D)→(n:Nat)→(t.bP x n).1.all ai.bC=true
 | .bool,_,_=>rfl
 | .int _,_,_=>rfl
 | .str,_,_=>rfl
 | .hole,_,_=>rfl
 | .sl _,_,_=>rfl
 | .fz _,_,_=>rfl
 | .st fs,x,n=>aI.jI fs x n
theorem aI.jI:(t:aI)→(x:t.D)→(n:Nat)→(t.bP x n).1.all ai.bC=true
 | .nil,_,_=>rfl
 | .cons t ts,x,n=>by
   show ((t.bP x.1 n).1++(ts.bP x.2 (t.bP x.1 n).2.2).1).all ai.bC=true;rw [afW,Ty.jI t x.1 n,aI.jI ts x.2 _];rfl
end
mutual
theorem Ty.n5:(t:Ty)→(x:t.D)→(n:Nat)→(t.bP x n).1.length=t.size
 | .bool,_,_=>rfl
 | .int _,_,_=>rfl
 | .str,_,_=>rfl
 | .hole,_,_=>rfl
 | .sl _,_,_=>rfl
 | .fz _,_,_=>rfl
 | .st fs,x,n=>aI.n5 fs x n
theorem aI.n5:(t:aI)→(x:t.D)→(n:Nat)→(t.bP x n).1.length=t.size
 | .nil,_,_=>rfl
 | .cons t ts,x,n=>by
   show ((t.bP x.1 n).1++(ts.bP x.2 (t.bP x.1 n).2.2).1).length=t.size+ts.size;rw [aao,Ty.n5 t x.1 n,aI.n5 ts x.2 _]
end
section
variable {c:Ctx} {μ:Nat→Loc} {fp:Nat→List Nat} {s:lx} {n:Nat} {o:Oper} {a:Act} {w:World} {r:iv} {C:Cx} {E:Env}
theorem Cn {w:World} {C:Array Value} {E:TypeId} {k:Nat} (h:C.size=k):aE (w.alloc (.cells C E)) w.heap.size 0 k=C.toList:=by grind [cj,heap_alloc_new,List.take_of_length_le]
theorem M9 {K:Nat→Prop} {μ:Nat→Loc} {fp:Nat→List Nat} {v:Env} {w:World} (hv:cX c μ fp v w) (ev:Ev c w) (hK:∀ id x,v id=some x→K id∧∀ dS∈x.ids,K dS)
  {fr:Nat} (iX:¬ K fr) {cs:List ai} {C:Array Value} {T:TypeId} (hr:aj c μ C.toList cs) (hc:cs.all ai.bC=true) (Bc:∀ id∈ai.bI cs,id≠fr):
  (∀ id,K id→(fun id=>if id=fr then Loc.at w.heap.size 0 else μ id) id=μ id)∧
  cX c (fun id=>if id=fr then .at w.heap.size 0 else μ id) (fun k=>if k=fr then [w.heap.size] else fp k) (cC v [(fr,some (.var cs))]) (w.alloc (.cells C T))∧Ev c (w.alloc (.cells C T)):=by
 have ha:∀ id,K id→(fun id=>if id=fr then Loc.at w.heap.size 0 else μ id) id=μ id:=by grind
 refine ⟨ha, ?_,ev.alloc _ _⟩;have hl:=hr.length;refine hv.ly ev [] fr (.var cs) [w.heap.size] (by grind)
  (fun id hn _ _ b hb=>heap_alloc_old w _ b (hv.lt id hn b hb)) (by simp) ?_ (by simp) (by simp)
 refine ⟨w.heap.size,0,C,T,by simp,rfl,heap_alloc_new w _,by simp [← hl], ?_,hc,fun bZ=> ?_⟩
 . simp_all [Cn,aj.mono,id,aap]
 . have:=ev.size;omega
variable (h:iE c μ fp s n a w)
include h
theorem OA (hC:iT C c.P) {t:TypeId} (ho:o.op= .alloc t) {fr:Nat}
  (iX:∀ id,fr≤id→id<fr+64→¬ s.k id)
  (hr:(Out.of (C.ty t) fun t=>if (t.bP t.zero (fr+1)).2.2≤fr+64 then
   .ret (.vptr fr 0,news (t.bP t.zero (fr+1)).2.1++[(fr,some (.var (t.bP t.zero (fr+1)).1))]) else .fail).eval=some r):pF c μ s o a w r:=by
 replace hr:=aM hr;obtain ⟨ty,kN,hr⟩:=hr;have dB:=hC.ty t ty kN;split at hr
 case isFalse=>cases hr
 rename_i h64;obtain ⟨z,hz,Jb⟩:=dB.Tm (w:=w);have hle:=Ty.j4 ty ty.zero (fr+1);obtain ⟨yG,I6,r1,ch⟩:=h.Dn ty (k:=fr+1) (by grind);have hk:¬ (s.k fr∨(fr+1≤fr∧fr<(ty.bP ty.zero (fr+1)).2.2)):=by grind
 obtain ⟨q1,q2,q3⟩:=M9 (T:=t) ch.rel h.ev ch.known hk (by rw [Jb];exact r1) (Ty.jI ty _ _) (fun id hi=>by have:=Ty.n3 ty ty.zero (fr+1) id hi;omega);have hr:=aaG hr;subst hr;refine dn (v':= .pointer (some ⟨w.heap.size,0,none⟩)) (fp':=fun k=>if k=fr then [w.heap.size] else I6 k) (by simp [execOp,ho,Instr.alloc,hz,newVar,newRow]) ⟨fun id hi=>(q1 id (.inl hi)).trans (ch.agree id hi), ?_, ?_,q3⟩
 . simp only [an];exact ⟨w.heap.size,0,by simp,rfl⟩
 . rw [dE];exact q2
theorem Ze {t:TypeId} {x:Operand} (ho:o.op= .box t x) {fr:Nat} (iX:¬ s.k fr)
  (hr:(Out.of (C.ty t) fun t=>if (fj s.t x).cells.length=t.size∧(fj s.t x).cells.all ai.bC=true then .ret (.vptr fr 0,[(fr,some (.var (fj s.t x).cells))]) else .fail).eval=some r):pF c μ s o a w r:=by
 have hx:=h.cn x;obtain ⟨ty,kN,hr⟩:=aM hr;split at hr
 . rename_i hc
   have hr:=aaG hr;subst hr;have sY:=hx.cells hc.2;obtain ⟨q1,q2,q3⟩:=M9 (T:=t) h.vs h.ev h.known.v iX sY hc.2 (fun id hi e=>by
    subst e;refine iX ?_;cases x with
    |tmp j=>
     refine h.known.t j id ?_;cases hd:s.t j<;>simp only [fj,hd,ai.cells] at hi<;>first|(simpa [ai.bI] using hi)|grind [ai.ids]
    |const v=>simp only [fj,ofValue] at hi;grind [ai.cells,ai.bI,ai.ids]
    |func f=>grind [fj,ai.cells,ai.bI,ai.ids]
    |global g=>grind [fj,ai.cells,ai.bI,ai.ids])
   refine dn (v':= .pointer (some ⟨w.heap.size,0,none⟩)) (by simp [execOp,ho,Instr.box,newVar,newRow]) ⟨q1, ?_,q2,q3⟩;simp only [an];exact ⟨w.heap.size,0,by simp,rfl⟩
 . cases hr
theorem Co (hC:iT C c.P) {t:TypeId} {x y:Operand} (ho:o.op= .makeSlice t x y) {fr:Nat} (iX:¬ s.k fr)
  (hr:(Out.of (C.ty t) fun t=> .of (tV t) fun e=> .of (mi (fj s.t x)) fun n=> .of (mi (fj s.t y)) fun m=>
   .ite (decide (0≤n∧n≤m∧m≤(bV:Int))) (.ret (.cN fr none,[(fr,some (.arr e (List.replicate n.toNat e.zero)))])) .fail).eval=some r):pF c μ s o a w r:=by
 have hx:=h.cn x;have hy:=h.cn y;obtain ⟨ty,kN,hr⟩:=aM hr;obtain ⟨e,he,hr⟩:=aM hr;obtain ⟨l,hl,hr⟩:=aM hr;obtain ⟨m,hm,hr⟩:=aM hr;have kN:C.ty t=some (.sl e):=sT he ▸ kN;obtain ⟨eid,hu,dB⟩:=(hC.ty t _ kN).sl;obtain ⟨kl,el⟩:=zB hl;obtain ⟨km,em⟩:=zB hm;rw [el] at hx;rw [em] at hy;simp only [an] at hx hy;rcases cb hr with ⟨h0,hr⟩|⟨_,hr⟩
 . have h0:0≤l∧l≤m∧m≤(bV:Int):=abH h0
   have hr:=aaG hr;subst hr;obtain ⟨i,z,hi,hs,hb,hz,Jb,ln⟩:=dB.base;have F1:(i.bytes:Int)*m≤281474976710656:=by
    have h1:(i.bytes:Int)*m≤1024*m:=Int.mul_le_mul_of_nonneg_right (by omega) (by omega);grind
   have ib:=run_make (P:=c.P) w t eid i z hu hi hz kl km l m h0.1 h0.2.1 F1 (by grind);have ta:cL c (fun id=>if id=fr then .sS (some ⟨w.heap.size,0,none⟩) (List.replicate l.toNat e.zero).length m.toNat e.size else μ id) (w.alloc (.cells (madeCells z.cells (m.toNat*i.size)) eid)) fr [w.heap.size] (.arr e (List.replicate l.toNat e.zero)):=by
    refine ⟨some ⟨w.heap.size,0,none⟩,m.toNat,by simp, ?_,fun b cf bZ=> ?_⟩
    . simp only [Ty.au]
      refine ⟨_,m.toNat,rfl,by grind, .inr ⟨w.heap.size,0,_,eid,List.replicate l.toNat [],rfl,heap_alloc_new w _, ?_,by simp,by simp, ?_⟩⟩
      . grind [size_madeCells]
      . intro j y f ov hf
        have hj:j<l.toNat:=by grind
        have I7:(List.replicate l.toNat e.zero)[j]? =some y:=ov;have hf2:(List.replicate l.toNat ([]:List Nat))[j]? =some f:=hf;rw [ae8,aaK hj] at I7 hf2;cases I7;cases hf2;have:aE (w.alloc (.cells (madeCells z.cells (m.toNat*i.size)) eid)) w.heap.size (0+j*e.size) e.size=e.zeroV:=by
         rw [cj (heap_alloc_new w _)];have Ph:e.zeroV.length=e.size:=Ty.dN e;have F2:z.cells.size=e.size:=by grind
         apply adQ;intro k;by_cases hk:k<e.size
         . rw [aca hk,acb,acL]
           have hjk:0+j*e.size+k<m.toNat*i.size:=by
            rw [hs];have:(j+1)*e.size≤m.toNat*e.size:=ab9 _ (by omega);grind
           have ame:(0+j*e.size+k) % z.cells.size=k:=by
            rw [F2,ada,Nat.add_comm,Nat.add_mul_mod_self_right,Nat.mod_eq_of_lt hk]
           rw [← Jb,acL];simp_all [madeCells,Array.getElem?_map,Array.getElem?_range,aaK,afJ]
         grind
        grind [Ty.iJ]
    . simp at cf;subst cf;have:=h.ev.size;omega
   obtain ⟨q1,q2⟩:=h.new iX [] _ _ _ (fun id hn _ b cf=>heap_alloc_old w _ b (h.vs.lt id hn b cf)) (by simp) ta (by simp) (by simp);refine dn (v':= .slice (some ⟨w.heap.size,0,none⟩) l.toNat m.toNat) (by simp_all [execOp]) ⟨q1, ?_,q2,h.ev.alloc _ _⟩;grind [an,List.replicate,List.length_replicate]
 . cases hr
end
end
section
open Go
variable {z:Fz}
section
variable {c:Ctx} {μ:Nat→Loc} {fp:Nat→List Nat} {s:lx} {n:Nat} {o:Oper} {a:Act} {w:World} {r:iv} {C:Cx} {E:Env}
theorem Il (v:Env) (l:oe) (x y:Nat×Option bQ):cC (cC v (l++[x])) ((([]:List Nat).map fun i=>(i,none))++[y])=cC v (l++[x,y]):=by grind [dE]
def vU (t:Ty) (cs:List Value):Value:=if t.j2=true then .agg cs.toArray else cs.headD Go.undef
theorem iF {w:World} {B o k m n:Nat} (h:k+m≤n):aE w B (o+k) m=((aE w B o n).drop k).take m:=by
 unfold aE;split
 . grind [List.drop_take,List.drop_drop,Nat.min_eq_left]
 . simp
theorem gQ {w:World} {B o n j:Nat} {v:Value} (h:(aE w B o n)[j]? =some v):w.cell? ⟨B,o+j,none⟩=some v:=by grind [aE,Nat.lt_or_ge,List.getElem?_eq_none,List.getElem?_take_of_lt,World.cell?]
theorem yf {P:Program} {t:Ty} {tid:TypeId} (dB:t.Ok P tid) {B o':Nat} {cs:List Value} (BS:aE w B o' t.size=cs) (hl:cs.length=t.size):
  (loadVar tid ⟨B,o',none⟩).run P w= .ok (vU t cs) w:=by
 have iZ:∀ j v,cs[j]? =some v→w.cell? ((⟨B,o',none⟩:Addr).add j)=some v:=by
  intro j v hv;have:(⟨B,o',none⟩:Addr).add j=⟨B,o'+j,none⟩:=by grind [Addr.add]
  grind [gQ]
 cases py:t.j2 with
 |true=>
  have:=run_loadCells_list (P:=P) w ⟨B,o',none⟩ cs iZ;rw [hl] at this;simp [loadVar,dB.n0,py,dB.kM,this,vU]
 |false=>
  have h1:t.size=1:=by cases t<;>simp_all [Ty.size,Ty.j2]
  rw [h1] at hl;obtain ⟨v,rfl⟩:=List.length_eq_one_iff.1 hl;have:=iZ 0 v rfl;have h0:(⟨B,o',none⟩:Addr).add 0=⟨B,o',none⟩:=by simp [Addr.add]
  rw [h0] at this;simp [loadVar,dB.n0,py,vU,run_load,this]
theorem lJ {t:Ty} {cs:List Value} {ds:List ai} (h:aj c μ cs ds) (hl:ds.length=t.size):an c μ (vU t cs) (mO t ds):=by
 cases py:t.j2 with
 |true=>
  simp only [mO,py,vU,af7,an];exact ⟨_,rfl,by simpa using h⟩
 |false=>
  have h1:t.size=1:=by cases t<;>simp_all [Ty.size,Ty.j2]
  rw [h1] at hl;obtain ⟨d,rfl⟩:=List.length_eq_one_iff.1 hl;simp only [aj] at h;obtain ⟨v,bm,rfl,h,rfl⟩:=h;grind [Dk,vU]
mutual
theorem Ty.n6:(t:Ty)→(x:t.D)→(t.jE x).length=t.size
 | .bool,_=>rfl
 | .int _,_=>rfl
 | .str,_=>rfl
 | .hole,_=>rfl
 | .sl _,_=>rfl
 | .fz _,_=>rfl
 | .st fs,x=>aI.n6 fs x
theorem aI.n6:(t:aI)→(x:t.D)→(t.jE x).length=t.size
 | .nil,_=>rfl
 | .cons t ts,x=>by
   show (t.jE x.1++ts.jE x.2).length=t.size+ts.size;rw [aao,Ty.n6 t,aI.n6 ts]
end
mutual
theorem Ty.n7:(t:Ty)→(x:t.D)→(t.jF x).length=t.size
 | .bool,_=>rfl
 | .int _,_=>rfl
 | .str,_=>rfl
 | .hole,_=>rfl
 | .sl _,_=>rfl
 | .fz _,_=>rfl
 | .st fs,x=>aI.n7 fs x
theorem aI.n7:(t:aI)→(x:t.D)→(t.jF x).length=t.size
 | .nil,_=>rfl
 | .cons t ts,x=>by
   show (t.jF x.1++ts.jF x.2).length=t.size+ts.size;rw [aao,Ty.n7 t,aI.n7 ts]
end
theorem vV (b:Nat) (p f1 fm f2 q:List Nat):(b::(p++(f1++fm++f2)++q)).Perm ((b::(p++f1++f2++q))++fm):=by grind
theorem Dp {w:World} {B o n:Nat} {pre wA post:List Value} (h:aE w B o n=pre++wA++post):aE w B (o+pre.length) wA.length=wA:=by
 have hl:(aE w B o n).length≤n:=by grind [aE,List.length_take]
 grind [List.length_append,iF]
theorem n8 {t t':Ty} (h:t'=t∨∃ e,t= .sl e∧t'= .fz e):t'.size=t.size∧t'.j2=t.j2:=by
 rcases h with rfl|⟨e,rfl,rfl⟩
 . grind
 . exact ⟨rfl,rfl⟩
mutual
theorem Ty.iQ:(t:Ty)→(off:Nat)→(u:Ty)→t.dg off u=u∨∃ e,u= .sl e∧t.dg off u= .fz e
 | .bool,_,_=> .inl rfl
 | .int _,_,_=> .inl rfl
 | .str,_,_=> .inl rfl
 | .hole,_,_=> .inl rfl
 | .sl _,_,_=> .inl rfl
 | .fz e,off,u=>by
   simp only [Ty.dg];split
   . rename_i h;exact .inr ⟨e,Ty.beq_eq _ _ h.2,rfl⟩
   grind
 | .st fs,off,u=>by simp only [Ty.dg];exact aI.iQ fs off u
theorem aI.iQ:(t:aI)→(off:Nat)→(u:Ty)→t.dg off u=u∨∃ e,u= .sl e∧t.dg off u= .fz e
 | .nil,_,_=> .inl rfl
 | .cons t ts,off,u=>by
   simp only [aI.dg];split
   . exact Ty.iQ t off u
   . exact aI.iQ ts _ u
end
theorem Im (v:Env):∀ (u:oe) {k:Nat},k ∉ u.map (·.1)→cC v u k=v k
 |[],_,_=>rfl
 |(id,x)::u,k,hk=>by simp_all [acX,abE,not_or,cC,Im,aap]
theorem Na (v v':Env):∀ (u:oe) {k:Nat},v k=v' k→cC v u k=cC v' u k
 |[],_,h=>h
 |(id,x)::u,k,h=>by
  simp only [cC];exact Na _ _ u (by simp only [h])
mutual
theorem Ty.qx:(t:Ty)→(x:t.D)→(n:Nat)→∀ y∈(t.bP x n).2.1,n≤y.1∧y.1<(t.bP x n).2.2
 | .bool,_,n=>by intro y h;cases h
 | .int _,_,n=>by intro y h;cases h
 | .str,_,n=>by intro y h;cases h
 | .hole,_,n=>by intro y h;cases h
 | .sl e,x,n=>by
   intro y h;have h:y∈[(n,bQ.arr e x)]:=h;simp at h;subst h;exact ⟨abD _,Nat.lt_succ_self _⟩
 | .fz _,_,n=>by intro y h;cases h
 | .st fs,x,n=>aI.qx fs x n
theorem aI.qx:(t:aI)→(x:t.D)→(n:Nat)→∀ y∈(t.bP x n).2.1,n≤y.1∧y.1<(t.bP x n).2.2
 | .nil,_,n=>by intro y h;cases h
 | .cons t ts,x,n=>by
   intro y h;have h:y∈(t.bP x.1 n).2.1++(ts.bP x.2 (t.bP x.1 n).2.2).2.1:=h;have l1:=Ty.j4 t x.1 n;have l2:=aI.j4 ts x.2 (t.bP x.1 n).2.2;show n≤y.1∧y.1<(ts.bP x.2 (t.bP x.1 n).2.2).2.2;rcases aaN.1 h with h|h
   . have:=Ty.qx t x.1 n y h;omega
   . have:=aI.qx ts x.2 _ y h;omega
end
theorem cX.part {c:Ctx} {w:World} {μ:Nat→Loc} {fp:Nat→List Nat} {v v':Env} (h:cX c μ fp v w) (hv:∀ id x,v' id=some x→v id=some x):cX c μ fp v' w where
 rel id x hx:=h.rel id x (hv id x hx)
 nodup id x hx:=h.nodup id x (hv id x hx)
 sep id dS dW h1 h2:=by
  obtain ⟨x,hx⟩:=Option.ne_none_iff_exists'.1 h1;obtain ⟨y,hy⟩:=Option.ne_none_iff_exists'.1 h2;exact h.sep id dS dW (by grind) (by grind)
 jg id h1:=by
  obtain ⟨x,hx⟩:=Option.ne_none_iff_exists'.1 h1;exact h.jg id (by grind)
 lt id h1:=by
  obtain ⟨x,hx⟩:=Option.ne_none_iff_exists'.1 h1;exact h.lt id (by grind)
variable (h:iE c μ fp s n a w)
include h
theorem OB (hE:∀ id x,E id=some x→s.v id=some x) {x:Operand} {fr:Nat} (iX:¬ s.k fr) {ty:Ty} {id i off b o' len cap sz:Nat} {vr:bQ} (Gy:E id=some vr)
  (run:∀ (B o':Nat) (cs:List Value),a.eval x= .pointer (some ⟨B,o',none⟩)→aE w B o' ty.size=cs→cs.length=ty.size→(execOp a.eval o).run c.P w= .ok (.value (vU ty cs)) w)
  (hm:μ id= .sS (some ⟨b,o',none⟩) len cap sz) (hi:i<len) (hv:a.eval x= .pointer (some ⟨b,o'+i*sz+off,none⟩)) (hr:(SV E ty id i off fr vr).eval=some r):pF c μ s o a w r:=by
 unfold SV at hr;replace hr:=aM hr;obtain ⟨⟨e',xs⟩,hu,hr⟩:=hr;replace hr:=ji hr;obtain ⟨z,hz,hr⟩:=hr;replace hr:=aM hr;obtain ⟨y,hy,hr⟩:=hr;obtain ⟨Uw,ZS⟩:=n8 (Ty.iQ e' off ty);have run:∀ (B o':Nat) (cs:List Value),a.eval x= .pointer (some ⟨B,o',none⟩)→aE w B o' (e'.dg off ty).size=cs→cs.length=(e'.dg off ty).size→(execOp a.eval o).run c.P w= .ok (.value (vU (e'.dg off ty) cs)) w:=by
  intro B o' cs q1 q2 q3;rw [Uw] at q2 q3;have:=run B o' cs q1 q2 q3;unfold vU at this ⊢;rw [ZS];exact this
 clear Uw ZS;revert y hy hr run;generalize e'.dg off ty=ty;intro y hy hr run;obtain ⟨ad,j7,f,g1,g2,g3,g4,g5,g6⟩:=gZ h.vs hE Gy hu;rw [hm] at g1;cases g1;obtain ⟨b2,o2,D,T,p,fi,q,k1,k2,k3,k4,k5,k6,k7⟩:=xx g2 hz;cases k1;obtain ⟨pre,wA,post,f1,fm,f2,l1,l2,l3,l4,l5⟩:=Ty.lI e' k6 hy;have hl:=Ty.fh ty l4;have BS:=Dp l1;rw [hl,l2] at BS;have run':=run b (o'+i*e'.size+off) wA hv BS hl;split at hr
 . -- a slice inside: held beside
   rename_i es y';have hr:=aaG hr;subst hr;have pG:f.Nodup:=g3.nodup_iff.2 (h.vs.jG _ g4 fun k hk=>(g5 k hk).1);simp only [Ty.au] at l4;obtain ⟨a',cap2,Zf,hc2,l4'⟩:=l4;have l4:(Ty.sl es).au c.fz w [.slice a' (List.length y') cap2] y' fm:=by simp only [Ty.au];exact ⟨a',cap2,rfl,hc2,l4'⟩
   have e0:f=b::(p++fi++q):=k5;have pw:f.Perm ((b::(p++f1++f2++q))++fm):=by rw [e0,l3];exact vV b p f1 fm f2 q
   have aeK:((b::(p++f1++f2++q))++fm).Nodup:=pw.nodup_iff.1 pG;have Gx:=acd.1 aeK;have aaI:∀ b'∈b::(p++f1++f2++q),b'∈f:=fun b' cf=>pw.mem_iff.2 (aaN.2 (.inl cf));have aaJ:∀ b'∈fm,b'∈f:=fun b' cf=>pw.mem_iff.2 (aaN.2 (.inr cf));have dW:id≠fr:=fun e=>iX (e ▸ (h.known.v id vr (hE _ _ Gy)).1);have ha:∀ k,s.k k→(fun k=>if k=fr then Loc.sS a' (List.length y') cap2 es.size else μ k) k=μ k:=fun k hk=>aap fun (e:k=fr)=>iX (e ▸ hk);have nk:cL c (fun k=>if k=fr then Loc.sS a' (List.length y') cap2 es.size else μ k) w id (b::(p++f1++f2++q)) (.AW e' xs z i off (.sl es) fr):=by
    refine ⟨some ⟨b,o',none⟩,cap,(ha id (h.known.v id vr (hE _ _ Gy)).1).trans hm, ?_,fun b' cf bZ=>g6 b' (aaI b' cf) bZ,k4, .inr ⟨b,o',rfl⟩,hz⟩;have aiB:D[o'+i*e'.size+off]? =some (.slice a' (List.length y') cap2):=by
     have:=gQ (w:=w) (B:=b) (o:=o'+i*e'.size+off) (n:=1) (j:=0) (v:= .slice a' (List.length y') cap2) (by
      have:=BS;rw [show (Ty.sl es).size=1 from rfl] at this;rw [this,Zf];rfl)
     simpa [World.cell?, k2] using this
    refine ⟨a',List.length y',cap2,es,b,o',D,T,aaK rfl,rfl,rfl,by simp,k2,aiB,fun z' w' D' hd ys fp' CU cf amf Ja LA vO OC=> ?_⟩;have hnb:b ∉ p++f1++f2++q:=(ac9.1 Gx.1).1;have Ib:∀ b'∈p++f1++f2++q,w'.heap[b']? =w.heap[b']? :=fun b' pI=>vO b' (by simp at pI ⊢; simp [pI]) (fun e=>hnb (e ▸ pI));obtain ⟨x',hx1,Zg⟩:=l5 z' w' [hd] ys fp' CU (fun b' cf=>Ib b' (by simp at cf ⊢; rcases cf with h|h<;>simp [h])) OC;refine ⟨z,x',b::(p++(f1++fp'++f2)++q),hz,hx1, ?_,vV b p f1 fp' f2 q⟩;have Gs:pre.length+1+post.length=e'.size:=by
     have:=Ty.fh e' k6;rw [l1,Zf] at this;simp at this;omega
    refine k7 z' w' x' (f1++fp'++f2) D' CU cf amf (fun j hj=>Ja j (by
     rintro rfl
     rw [acF] at hj;omega)) (fun b' cf=>Ib b' (by simp at cf ⊢; rcases cf with h|h<;>simp [h])) (fun cf=>hnb (by simp at cf ⊢; rcases cf with h|h<;>simp [h])) ?_
    have hcw:aE w' b (o'+i*e'.size) e'.size=pre++[hd]++post:=by
     have hw0:aE w b (o'+i*e'.size) e'.size=pre++[.slice a' (List.length y') cap2]++post:=by rw [l1,Zf]
     rw [cj k2] at hw0;rw [cj cf];apply adQ;intro k;have hk0:=congrArg (fun l=>l[k]?) hw0;by_cases hk:k<e'.size
     . rw [aca hk,acb,acL] at hk0 ⊢
       by_cases hko:k=off
       . subst hko
         rw [LA, ← l2];simp
       . rw [Ja (o'+i*e'.size+k) (by omega),hk0]
         rw [aez,aez];rcases ae0 k pre.length with h'|h'
         . rw [afH h',afH h']
         . rw [afG h',afG h']
           cases hkk:k - pre.length with
           |zero=>omega
           |succ m=>simp
     . rw [aeH (by simp;omega),aeH (by simp;omega)]
    rw [hcw];exact Zg
   have h1:=h.vs.ly (μ':=fun k=>if k=fr then Loc.sS a' (List.length y') cap2 es.size else μ k) (w':=w) h.ev (bG vr) id (.AW e' xs z i off (.sl es) fr) (b::(p++f1++f2++q))
    (fun k x hx _ _=>⟨ha k (h.known.v k x hx).1,fun k' mA=>ha k' ((h.known.v k x hx).2 k' mA)⟩) (fun _ _ _ _ _ _=>rfl) (abD _) nk Gx.1
    (fun b' cf=>by
     obtain ⟨k,hk,I9⟩:=List.mem_flatMap.1 (g3.mem_iff.1 (aaI b' cf));exact .inr ⟨k,abE.1 hk,(g5 k hk).1,I9⟩)
   have h2:=h1.mn (μ':=fun k=>if k=fr then Loc.sS a' (List.length y') cap2 es.size else μ k) (w':=w) [] fr (.arr es y') fm
    (fun _ _ _ _ _=>⟨rfl,fun _ _=>rfl⟩) (fun _ _ _ _ _ _=>rfl) (abD _) ⟨a',cap2,aaK rfl,l4,fun b' cf bZ=>g6 b' (aaJ b' cf) bZ⟩ Gx.2.1
    (fun b' cf=>by
     obtain ⟨k,hk,I9⟩:=List.mem_flatMap.1 (g3.mem_iff.1 (aaJ b' cf));refine ⟨h.vs.jg k (g5 k hk).1 b' I9,h.vs.lt k (g5 k hk).1 b' I9,fun k' mA hkf _ hb3=> ?_⟩;by_cases eI:k'=id
     . rw [aaK eI] at hb3
       exact Gx.2.2 b' hb3 b' cf rfl
     . rw [aap eI] at hb3
       rw [gI,aap eI] at mA;split at mA
       . exact mA rfl
       . rename_i hnr
         refine h.vs.sep k' k ?_ mA (g5 k hk).1 b' hb3 I9
         rintro rfl
         rcases abE.1 hk with hk|hk
         . exact eI hk
         . exact hnr hk)
   rw [Il] at h2;refine dn run' ⟨ha, ?_,h2,h.ev⟩;rw [Zf];simp only [vU,Ty.j2,adf,agF,List.headD_cons,an];exact ⟨a',List.length y',cap2,es.size,by simp,rfl⟩
 . rename_i DX
   rw [aX hr];exact bz h run' (lJ (Ty.nX ty l4) (Ty.n7 ty y))
theorem OD (hE:∀ id x,E id=some x→s.v id=some x) {x:Operand} {fr:Nat} (iX:∀ id,fr≤id→id<fr+64→¬ s.k id) {ty:Ty} {id i off b o' len cap sz:Nat} {vr:bQ} (Gy:E id=some vr)
  (run:∀ (B o':Nat) (cs:List Value),a.eval x= .pointer (some ⟨B,o',none⟩)→aE w B o' ty.size=cs→cs.length=ty.size→(execOp a.eval o).run c.P w= .ok (.value (vU ty cs)) w)
  (hm:μ id= .sS (some ⟨b,o',none⟩) len cap sz) (hi:i<len) (hv:a.eval x= .pointer (some ⟨b,o'+i*sz+off,none⟩))
  (hr:(Out.of (ik E vr) fun ex=> .get (nth ex.2 i) fun x=>if off+ty.size≤ex.1.size∧(ex.1.bP x fr).2.2≤fr+64 then
   .ret (mO ty (((ex.1.bP x fr).1.drop off).take ty.size),((bG vr).map fun k=>(k,none))++([(id,some (.vG ex.1 ex.2 i (ex.1.bP x fr).1))]++news (ex.1.bP x fr).2.1)) else .fail).eval=some r):pF c μ s o a w r:=by
 obtain ⟨⟨e',xs⟩,hu,hr⟩:=aM hr;obtain ⟨z,hz,hr⟩:=ji hr;split at hr
 case isFalse=>cases hr
 rename_i hc;obtain ⟨sW,h64⟩:=hc;have hr:=aaG hr;subst hr;simp only at sW h64;obtain ⟨ad,j7,f,g1,g2,g3,g4,g5,g6⟩:=gZ h.vs hE Gy hu;rw [hm] at g1;cases g1;obtain ⟨b2,o2,D,T,p,fi,q,k1,k2,k3,k4,k5,k6,k7⟩:=xx g2 hz;cases k1;have hlen:=Ty.fh e' k6;have pG:f.Nodup:=g3.nodup_iff.2 (h.vs.jG _ g4 fun k hk=>(g5 k hk).1);rw [k5] at pG;have pw:=Dj b p fi q;have Gx:=acd.1 (pw.nodup_iff.1 pG);have Tq:∀ b'∈(b::(p++q))++fi,b'∈f:=fun b' cf=>k5 ▸ pw.mem_iff.2 cf;have Io:∀ b'∈f,∃ k∈id::bG vr,s.v k≠none∧b'∈fp k:=fun b' cf=>by
  obtain ⟨k,hk,I9⟩:=List.mem_flatMap.1 (g3.mem_iff.1 cf);exact ⟨k,hk,(g5 k hk).1,I9⟩
 -- those that are left, and the list without the item: as a part of it, its blocks
 have aiF:cL c μ w id (b::(p++q)) (.vG e' xs i (List.replicate e'.size .dead))→True:=fun _=>trivial;clear aiF;have amg:cX c μ fp (cC s.v (((id::bG vr).map fun k=>(k,none)))) w:=by
  refine h.vs.part fun k x hk=> ?_;rw [kj] at hk;split at hk
  . cases hk
  . exact hk
 have aiG:∀ k x,cC s.v (((id::bG vr).map fun k=>(k,none))) k=some x→s.k k∧∀ k'∈x.ids,s.k k':=fun k x hk=>by
  rw [kj] at hk;split at hk
  . cases hk
  . exact h.known.v k x hk
 obtain ⟨yG,I6,q1,ch⟩:=Ty.n4 (c:=c) (w:=w) e' (n:=fr) amg aiG k6 Gx.2.1
  (fun b' cf=>by
   obtain ⟨k,hk,BT,Ko⟩:=Io b' (Tq b' (aaN.2 (.inr cf)));exact ⟨h.vs.jg k BT b' Ko,h.vs.lt k BT b' Ko,g6 b' (Tq b' (aaN.2 (.inr cf)))⟩)
  (fun k hk b' cf xM=>by
   obtain ⟨k',mA,BT,Ko⟩:=Io b' (Tq b' (aaN.2 (.inr xM)));rw [kj] at hk;split at hk
   . exact hk rfl
   . rename_i OE
     exact h.vs.sep k k' (fun e=>OE (e ▸ mA)) hk BT b' cf Ko)
  (fun k BT Ko=>iX k BT (by omega))
 have GW:s.k id:=(h.known.v id vr (hE _ _ Gy)).1;have amh:¬ (fr≤id∧id<(e'.bP z fr).2.2):=fun q=>iX id q.1 (by omega) GW;have nk:cL c yG w id (b::(p++q)) (.vG e' xs i (e'.bP z fr).1):=by
  refine ⟨_,cap,b,o',D,T,p,q,(ch.agree id GW).trans hm,rfl,rfl,k2,k3,k4,hi,fun z' w' x' I4 C' a1 a2 a3 a4 a5 a6 a7=>k7 z' w' x' I4 C' a1 a2 a3 a4 a5 a6 a7,q1,(Ty.n5 e' z fr),Ty.jI e' z fr, ?_, ?_⟩
  . exact (ac9.1 Gx.1).1
  . exact fun b' cf bZ=>g6 b' (Tq b' (aaN.2 (.inl cf))) bZ
 have aeL:cC (cC s.v ((id::bG vr).map fun k=>(k,none))) (news (e'.bP z fr).2.1) id=none∨True:= .inr trivial;clear aeL;have qy:=ch.rel.mn (μ':=yG) (w':=w) [] id (.vG e' xs i (e'.bP z fr).1) (b::(p++q)) (fun _ _ _ _ _=>⟨rfl,fun _ _=>rfl⟩) (fun _ _ _ _ _ _=>rfl) (abD _) nk Gx.1
  (fun b' cf=>by
   obtain ⟨k,hk,BT,Ko⟩:=Io b' (Tq b' (aaN.2 (.inl cf)));refine ⟨h.vs.jg k BT b' Ko,h.vs.lt k BT b' Ko,fun k' mA dW _ hb3=> ?_⟩;rcases ch.Zd k' mA with ⟨h1,h2⟩|h1
   . rw [h2] at hb3
     rw [kj] at h1;split at h1
     . exact h1 rfl
     . rename_i OE
       exact h.vs.sep k' k (fun e=>OE (e ▸ hk)) h1 BT b' hb3 Ko
   . exact Gx.2.2 b' cf b' (h1 b' hb3) rfl)
 have Zh:cC s.v (((bG vr).map fun k=>(k,none))++([(id,some (.vG e' xs i (e'.bP z fr).1))]++news (e'.bP z fr).2.1))=
   cC (cC (cC s.v ((id::bG vr).map fun k=>(k,none))) (news (e'.bP z fr).2.1)) ((([]:List Nat).map fun i=>(i,none))++[(id,some (.vG e' xs i (e'.bP z fr).1))]):=by
  have Kp:id ∉ (news (e'.bP z fr).2.1).map (·.1):=fun pI=>by
   obtain ⟨y,hy,e⟩:=List.mem_map.1 pI;obtain ⟨y2,I7,rfl⟩:=List.mem_map.1 (show y∈(e'.bP z fr).2.1.map fun x=>(x.1,some x.2) from hy);have:=Ty.qx e' z fr y2 I7;simp only at e;rw [e] at this;exact amh this
  rw [dE,dE];funext k;rw [gI];simp only [List.not_mem_nil,agF];by_cases hk:k=id
  . subst hk
    rw [aaK rfl,Im _ _ Kp];simp [cC]
  . rw [aap hk]
    refine Na _ _ _ ?_;simp only [cC,acX,kj,aap hk]
 have BS:=(show aE w b (o'+i*e'.size+off) ty.size=((aE w b (o'+i*e'.size) e'.size).drop off).take ty.size from iF sW)
 refine dn (fp':=fun k=>if k=id then b::(p++q) else I6 k) (run b (o'+i*e'.size+off) _ hv BS (by simp [hlen];omega)) ⟨fun k hk=>ch.agree k hk, ?_, ?_,h.ev⟩
 . exact lJ ((q1.drop off).take ty.size) (by simp [Ty.n5];omega)
 . rw [Zh];exact qy
theorem Tr (hC:iT C c.P) (hE:∀ id x,E id=some x→s.v id=some x) {t:TypeId} {x:Operand} (ho:o.op= .load t x) {fr:Nat} (iX:∀ id,fr≤id→id<fr+64→¬ s.k id) {kd:Nat}
  (hr:(Out.of (C.ty t) fun t=>AX E kd t (fj s.t x) fr).eval=some r):pF c μ s o a w r:=by
 have hx:=h.cn x;replace hr:=aM hr;obtain ⟨ty,kN,hr⟩:=hr;have dB:=hC.ty t ty kN;have run:∀ (B o':Nat) (cs:List Value),a.eval x= .pointer (some ⟨B,o',none⟩)→aE w B o' ty.size=cs→cs.length=ty.size→(execOp a.eval o).run c.P w= .ok (.value (vU ty cs)) w:=by
  intro B o' cs hv BS hl;simp [execOp,ho,hv,Instr.loadAt,Instr.sureAddr,yf dB BS hl]
 unfold AX at hr;split at hr
 . rename_i id off e
   rw [e] at hx;simp only [an] at hx;obtain ⟨B,o',hm,hv⟩:=hx;split at hr
   . rename_i cs eI
     split at hr
     . rename_i hle
       rw [aX hr];obtain ⟨B2,o2,D,T,q1,q2,q3,q4,q5,q6,_⟩:=h.vs.rel id _ (hE _ _ eI);rw [hm] at q1;cases q1;have hl:=q5.length;have fH:aE w B (o'+off) ty.size=((aE w B o' cs.length).drop off).take ty.size:=iF hle;refine bz h (run B (o'+off) _ hv fH (by simp [hl];omega)) ?_;exact lJ ((q5.drop off).take ty.size) (by simp;omega)
     . cases hr
   . cases hr
 . rename_i t' x' off e
   rw [e] at hx;simp only [an] at hx;obtain ⟨b,o',hb,dI,hv⟩:=hx;replace hr:=aM hr;obtain ⟨y,hy,hr⟩:=hr;obtain ⟨Uw,ZS⟩:=n8 (Ty.iQ t' off ty);have run:∀ (B o':Nat) (cs:List Value),a.eval x= .pointer (some ⟨B,o',none⟩)→aE w B o' (t'.dg off ty).size=cs→cs.length=(t'.dg off ty).size→(execOp a.eval o).run c.P w= .ok (.value (vU (t'.dg off ty) cs)) w:=by
    intro B o' cs q1 q2 q3;rw [Uw] at q2 q3;have:=run B o' cs q1 q2 q3;unfold vU at this ⊢;rw [ZS];exact this
   clear Uw ZS;revert y hy hr run;generalize t'.dg off ty=ty;intro y hy hr run;rw [aX hr];obtain ⟨pre,wA,post,e1,e2,hm⟩:=Ty.qu t' dI hy;have hl:=Ty.ki ty hm;have BS:=Dp e1;rw [hl,e2] at BS;refine bz h (run b (o'+off) wA hv (by rw [fc (h.ev.S b hb)];exact BS) hl) ?_;exact lJ (Ty.nW ty hm) (Ty.n6 ty y)
 . rename_i id i off e
   rw [e] at hx;simp only [an] at hx;obtain ⟨b,o',len,cap,sz,hm,hi,hv⟩:=hx;replace hr:=aM hr;obtain ⟨vr,Gy,hr⟩:=hr;unfold aaC at hr;split at hr
   . rename_i e' xs j cs
     split at hr
     case isFalse=>cases hr
     rename_i hle;rcases cb hr with ⟨yJ,h2⟩|⟨_,h2⟩
     case inr=>cases h2
     have yJ:i=j:=by simpa using yJ
     subst yJ;rw [aX h2];obtain ⟨ad,cap2,b2,o2,D,T,p,q,q1,q2,q3,q4,q5,q6,q7,q8,q9,q10,q11,_⟩:=h.vs.rel id _ (hE _ _ Gy);rw [hm] at q1;cases q1;cases q2;have BS:aE w b (o'+i*e'.size+off) ty.size=((aE w b (o'+i*e'.size) e'.size).drop off).take ty.size:=iF (by omega);refine bz h (run b (o'+i*e'.size+off) _ hv BS (by have:=q9.length;simp;omega)) ?_;exact lJ ((q9.drop off).take ty.size) (by simp;omega)
   . exact OD h hE iX Gy run hm hi hv hr
   . exact OB h hE (iX fr (abD _) (by omega)) Gy run hm hi hv hr
 . cases hr
end
end
end Go.Proofs.YtohagdoklnkljaaGreat.Dm
