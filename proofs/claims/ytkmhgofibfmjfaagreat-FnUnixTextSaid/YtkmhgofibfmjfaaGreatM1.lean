/- The data machine (a part). -/
import Derived.Calls
import Derived.Laws.World
import Derived.Laws.Rows
import Derived.Laws.AppendOwn
import Derived.Laws.MakeOwn
import Derived.Laws.Slices
import Derived.Laws.StructEq
import Derived.Laws.Strings
import Derived.Laws.BytesArg
import Derived.WideLaws
import Derived.Laws.CopyRow
namespace Go.Proofs.YtkmhgofibfmjfaaGreat.Dm
abbrev Pi:=@List.length_eq_one_iff
abbrev PP:=@List.length_pos_iff
abbrev So:=@List.getElem?_eq_some_iff
abbrev ST:=@Option.map_eq_some_iff
abbrev UV:=@Array.getElem?_eq_some_iff
abbrev WP:=@Option.bind_eq_some_iff
abbrev abs (n:Int):Int:=IntKind.i64.wrap n
theorem aac {p:Prop} [Decidable p] (h:p:=by omega):decide p=true:=decide_eq_true h
theorem aae {c:Prop} {_:Decidable c} (h:¬c:=by omega) {α:Sort _} {t e:α}:ite c t e=e:=if_neg h
abbrev aay:=@List.length_cons
abbrev aaY:=@List.length_append
theorem aaZ {c:Prop} {_:Decidable c} (h:c:=by omega) {α:Sort _} {t e:α}:ite c t e=t:=if_pos h
abbrev aa6:=@Bool.and_eq_true
abbrev aa7:=@List.getElem?_eq_getElem
abbrev ac2:=@Option.some.inj
abbrev adu:=@Int.toNat_natCast
abbrev adC:=@List.length_nil
theorem adD {p:Prop} [Decidable p] (h:¬p:=by omega):decide p=false:=decide_eq_false h
abbrev adE:=@List.mem_append
abbrev adG:=@List.all_eq_true
abbrev adI:=@Option.some.injEq
abbrev adK:=@Nat.le_refl
abbrev adM:=@List.mem_cons
abbrev adN:=@Option.bind_some
abbrev adO:=@List.append_assoc
theorem adQ {n m k:Nat} (h:n≤m) (g:m≤k:=by omega):n≤k:=Nat.le_trans h g
abbrev adR:=@of_decide_eq_true
abbrev adS:=@decide_eq_true_eq
abbrev ad0:=@List.nil_append
abbrev ad1:=@List.nodup_append
abbrev ad3:=@Prod.mk.injEq
abbrev ad5:=@List.getElem?_drop
abbrev ad9:=@List.getElem_mem
abbrev aea:=@List.drop_drop
abbrev aeb:=@List.getElem?_take_of_lt
abbrev aec:=@List.length_drop
abbrev aed:=@cond_true
abbrev aeh:=@Nat.lt_of_lt_of_le
abbrev aek:=@Nat.mul_le_mul_right
abbrev ael:=@List.map_cons
abbrev aeq:=@List.getD_eq_getElem?_getD
abbrev aex:=@cond_false
abbrev aey:=@List.mem_singleton
abbrev aez:=@List.flatMap_cons
abbrev aeA:=@Bool.eq_iff_iff
abbrev aeB:=@List.all_cons
abbrev aeC:=@List.drop_eq_getElem_cons
abbrev aeD:=@Array.getElem?_toList
abbrev aeE:=@List.eq_nil_of_length_eq_zero
abbrev aeF:=@Bool.false_eq_true
abbrev aeG:=@Nat.add_mul
abbrev aeP:=@List.nodup_cons
abbrev aeS:=@Nat.zero_add
abbrev aeX:=@List.append_nil
abbrev ae0:=@List.length_take
abbrev ae4:=@decide_eq_true_iff
abbrev ae5:=@List.foldl_cons
abbrev ae8:=@List.ext_getElem?
abbrev afb:=@Nat.lt_of_le_of_lt
abbrev afe:=@List.findIdx?_eq_some_iff_getElem
abbrev afh:=@List.length_map
abbrev afk:=@Eq.trans
abbrev afp:=@List.map_congr_left
abbrev afq:=@Bool.not_eq_true'
abbrev aft:=@Int.eq_ofNat_of_zero_le
abbrev afw:=@Nat.lt_or_ge
abbrev afA:=@List.getElem?_eq_none
abbrev afC:=@List.length_set
abbrev afF:=@List.mem_of_getElem?
abbrev afH:=@beq_iff_eq
abbrev afI:=@Nat.zero_le
abbrev afJ:=@List.take_of_length_le
abbrev afK:=@Int.le_refl
abbrev afM:=@List.getElem_of_mem
abbrev afX:=@List.getElem?_replicate
abbrev af6:=@decide_eq_false_iff_not
abbrev af7:=@Bool.or_eq_true
abbrev agc:=@List.flatten_append
abbrev agd:=@Bool.true_and
abbrev agh:=@Option.getD_some
abbrev agm:=@if_true
abbrev agn:=@List.mem_append_right
abbrev ago:=@Nat.sub_add_cancel
abbrev agp:=@List.pairwise_cons
abbrev agq:=@List.findIdx?_eq_none_iff
abbrev agr:=@Nat.le_of_eq
abbrev ags:=@Option.map_some
abbrev agt:=@Nat.pow_le_pow_right
abbrev agB:=@Array.getD_eq_getD_getElem?
abbrev agR:=@List.map_map
abbrev ag7:=@List.prefix_rfl
abbrev ahb:=@and_true
abbrev ahc:=@List.getElem?_append_right
abbrev ahU:=@List.getElem?_map
abbrev ai9:=@List.mem_cons_of_mem
abbrev aja:=@List.getElem?_append_left
abbrev akx:=@List.mem_of_mem_drop
abbrev akU:=@List.map_id'
abbrev akV:=@List.filter_cons
abbrev akW:=@List.getElem?_take
abbrev akX:=@List.all_append
abbrev akY:=@List.map_append
abbrev akZ:=@of_decide_eq_false
abbrev alm:=@List.drop_left'
abbrev alo:=@Nat.le_succ
abbrev alr:=@List.map_nil
abbrev alA:=@List.drop_zero
abbrev alB:=@List.mem_flatten
abbrev alC:=@Nat.mod_eq_of_lt
abbrev alD:=@List.mem_map_of_mem
section
open Go
mutual
inductive Ty where
 |bool
 |int (k:IntKind)
 |str
 |hole
 |sl (e:Ty)
 |fz (e:Ty)
 |st (fs:aO)
inductive aO where
 |nil
 |cons (t:Ty) (ts:aO)
end
mutual
def Ty.D:Ty→Type
 | .bool=>Bool
 | .int _=>Int
 | .str=>List UInt8
 | .hole=>Unit
 | .sl e=>List e.D
 | .fz e=>List e.D
 | .st fs=>fs.D
def aO.D:aO→Type
 | .nil=>Unit
 | .cons t ts=>t.D×ts.D
end
mutual
def Ty.size:Ty→Nat
 | .bool=>1
 | .int _=>1
 | .str=>1
 | .hole=>1
 | .sl _=>1
 | .fz _=>1
 | .st fs=>fs.size
def aO.size:aO→Nat
 | .nil=>0
 | .cons t ts=>t.size+ts.size
end
mutual
def Ty.zero:(t:Ty)→t.D
 | .bool=>false
 | .int _=>(0:Int)
 | .str=>([]:List UInt8)
 | .hole=>()
 | .sl _=>[]
 | .fz _=>[]
 | .st fs=>fs.zero
def aO.zero:(ts:aO)→ts.D
 | .nil=>()
 | .cons t ts=>(t.zero,ts.zero)
end
mutual
def Ty.beq:Ty→Ty→Bool
 | .bool, .bool=>true
 | .int k, .int k'=>decide (k=k')
 | .str, .str=>true
 | .hole, .hole=>true
 | .sl e, .sl e'=>e.beq e'
 | .fz e, .fz e'=>e.beq e'
 | .st fs, .st fs'=>fs.beq fs'
 |_,_=>false
def aO.beq:aO→aO→Bool
 | .nil, .nil=>true
 | .cons t ts, .cons t' ts'=>t.beq t'&&ts.beq ts'
 |_,_=>false
end
mutual
theorem Ty.beq_eq:(t t':Ty)→t.beq t'=true→t=t'
 | .bool,t',h=>by grind [Ty.beq]
 | .int k,t',h=>by cases t'<;>simp_all [Ty.beq]
 | .str,t',h=>by grind [Ty.beq]
 | .hole,t',h=>by grind [Ty.beq]
 | .sl e,t',h=>by
   cases t'<;>simp [Ty.beq] at h;rw [Ty.beq_eq e _ h]
 | .fz e,t',h=>by
   cases t'<;>simp [Ty.beq] at h;rw [Ty.beq_eq e _ h]
 | .st fs,t',h=>by
   cases t'<;>simp [Ty.beq] at h;rw [aO.beq_eq fs _ h]
theorem aO.beq_eq:(t t':aO)→t.beq t'=true→t=t'
 | .nil,t',h=>by grind [aO.beq]
 | .cons t ts,t',h=>by
   cases t'<;>simp [aO.beq] at h;rw [Ty.beq_eq t _ h.1,aO.beq_eq ts _ h.2]
end
def Ty.cast (t t':Ty) (x:t.D):Option t'.D:=if h:t.beq t'=true then some (Ty.beq_eq t t' h ▸ x) else none
theorem Ty.dU {t t':Ty} {x:t.D} {y:t'.D} (h:Ty.cast t t' x=some y):∃ e:t=t',y=e ▸ x:=by grind [Ty.cast,Ty.beq_eq]
abbrev cj:Nat:=9223372036854775807
abbrev nth {α:Type} (l:List α) (i:Nat):Option α:=l[i]?
def aK (w:World) (b o n:Nat):List Value:=
 match w.heap[b]? with
 |some (.cells c _ _)=>(c.toList.drop o).take n
 |_=>[]
theorem fT {w w':World} {b:Nat} (h:w'.heap[b]? =w.heap[b]?) (o n:Nat):aK w' b o n=aK w b o n:=by
 simp [aK,h]
mutual
def Ty.aT (S:Nat→Prop) (w:World):(t:Ty)→List Value→t.D→Prop
 | .bool,cs,x=>cs=[.bool x]
 | .int k,cs,x=>cs=[.int k x]
 | .str,cs,x=>cs=[.string ⟨List.toArray x⟩]∧List.length x≤cj
 | .hole,cs,_=>∃ v:Value,cs=[v]∧v.oneCell'=true
 | .sl e,cs,xs=>∃ a cap,cs=[.slice a (List.length xs) cap]∧(List.length xs≤cap∧List.length xs≤cj)∧(xs=[]∨∃ b o,a=some ⟨b,o,none⟩∧S b∧
  ∀ (i:Nat) (y:e.D),nth (α:=e.D) xs i=some y→e.aT S w (aK w b (o+i*e.size) e.size) y)
 | .fz e,cs,xs=>∃ a cap,cs=[.slice a (List.length xs) cap]∧(List.length xs≤cap∧List.length xs≤cj)∧(xs=[]∨∃ b o,a=some ⟨b,o,none⟩∧S b∧
  ∀ (i:Nat) (y:e.D),nth (α:=e.D) xs i=some y→e.aT S w (aK w b (o+i*e.size) e.size) y)
 | .st fs,cs,x=>fs.aT S w cs x
def aO.aT (S:Nat→Prop) (w:World):(ts:aO)→List Value→ts.D→Prop
 | .nil,cs,_=>cs=[]
 | .cons t ts,cs,x=>∃ c1 c2,cs=c1++c2∧t.aT S w c1 x.1∧ts.aT S w c2 x.2
end
structure Fz where
 S:Nat→Prop
 w0:World
def Fz.le (z z':Fz):Prop:=∀ b,z.S b→z'.S b∧z'.w0.heap[b]? =z.w0.heap[b]?
theorem Fz.le_refl (z:Fz):z.le z:=λ_ h=>⟨h,rfl⟩
theorem Fz.le_trans {z z' z'':Fz} (h:z.le z') (h':z'.le z''):z.le z'':=λb hb=>⟨(h' b (h b hb).1).1,(h' b (h b hb).1).2.trans (h b hb).2⟩
variable {z:Fz}
mutual
def Ty.aC (z:Fz) (w:World):(t:Ty)→List Value→t.D→List Nat→Prop
 | .bool,cs,x,fp=>cs=[.bool x]∧fp=[]
 | .int k,cs,x,fp=>cs=[.int k x]∧fp=[]
 | .str,cs,x,fp=>cs=[.string ⟨List.toArray x⟩]∧fp=[]∧List.length x≤cj
 | .hole,cs,_,fp=>(∃ v:Value,cs=[v]∧v.oneCell'=true)∧fp=[]
 | .sl e,cs,xs,fp=>∃ a cap,cs=[.slice a (List.length xs) cap]∧(List.length xs≤cap∧List.length xs≤cj)∧((cap=0∧fp=[])∨∃ b o c E fps,a=some ⟨b,o,none⟩∧
  w.heap[b]? =some (.cells c E (0,0))∧o+cap*e.size≤c.size∧List.length fps=List.length xs∧fp=b::fps.flatten∧
  ∀ (i:Nat) (y:e.D) (f:List Nat),nth (α:=e.D) xs i=some y→nth fps i=some f→e.aC z w (aK w b (o+i*e.size) e.size) y f)
 | .fz e,cs,xs,fp=>(Ty.fz e).aT z.S z.w0 cs xs∧fp=[]
 | .st fs,cs,x,fp=>fs.aC z w cs x fp
def aO.aC (z:Fz) (w:World):(ts:aO)→List Value→ts.D→List Nat→Prop
 | .nil,cs,_,fp=>cs=[]∧fp=[]
 | .cons t ts,cs,x,fp=>∃ c1 c2 f1 f2,cs=c1++c2∧fp=f1++f2∧t.aC z w c1 x.1 f1∧ts.aC z w c2 x.2 f2
end
theorem kZ {S:Nat→Prop} {w:World} {e:Ty} {cs:List Value} {x:List e.D}:(Ty.fz e).aT S w cs x↔(Ty.sl e).aT S w cs x:=by simp only [Ty.aT];exact Iff.rfl
mutual
theorem Ty.lI {S:Nat→Prop} {w:World}:(t:Ty)→{cs:List Value}→{x:t.D}→t.aT S w cs x→cs.length=t.size
 | .bool,_,_,h=>by simp only [Ty.aT] at h;subst h;rfl
 | .int _,_,_,h=>by simp only [Ty.aT] at h;subst h;rfl
 | .str,_,_,h=>by simp only [Ty.aT] at h;rw [h.1];rfl
 | .hole,_,_,h=>by simp only [Ty.aT] at h;obtain ⟨v,rfl,_⟩:=h;rfl
 | .sl _,_,_,h=>by simp only [Ty.aT] at h;obtain ⟨a,cap,rfl,_⟩:=h;rfl
 | .fz _,_,_,h=>by simp only [Ty.aT] at h;obtain ⟨a,cap,rfl,_⟩:=h;rfl
 | .st fs,_,_,h=>by simp only [Ty.aT] at h;exact aO.lI fs h
theorem aO.lI {S:Nat→Prop} {w:World}:(t:aO)→{cs:List Value}→{x:t.D}→t.aT S w cs x→cs.length=t.size
 | .nil,_,_,h=>by simp only [aO.aT] at h;subst h;rfl
 | .cons t ts,_,_,h=>by
   simp only [aO.aT] at h;obtain ⟨c1,c2,rfl,h1,h2⟩:=h;simp [aO.size,Ty.lI t h1,aO.lI ts h2]
end
mutual
theorem Ty.fW {w:World}:(t:Ty)→{cs:List Value}→{x:t.D}→{fp:List Nat}→t.aC z w cs x fp→cs.length=t.size
 | .bool,_,_,_,h=>by simp only [Ty.aC] at h;rw [h.1];rfl
 | .int _,_,_,_,h=>by simp only [Ty.aC] at h;rw [h.1];rfl
 | .str,_,_,_,h=>by simp only [Ty.aC] at h;rw [h.1];rfl
 | .hole,_,_,_,h=>by simp only [Ty.aC] at h;obtain ⟨⟨v,rfl,_⟩,_⟩:=h;rfl
 | .sl _,_,_,_,h=>by simp only [Ty.aC] at h;obtain ⟨a,cap,rfl,_⟩:=h;rfl
 | .fz e,_,_,_,h=>by grind [Ty.aC,Ty.lI]
 | .st fs,_,_,_,h=>by simp only [Ty.aC] at h;exact aO.fW fs h
theorem aO.fW {w:World}:(t:aO)→{cs:List Value}→{x:t.D}→{fp:List Nat}→t.aC z w cs x fp→cs.length=t.size
 | .nil,_,_,_,h=>by simp only [aO.aC] at h;rw [h.1];rfl
 | .cons t ts,_,_,_,h=>by
   simp only [aO.aC] at h;obtain ⟨c1,c2,f1,f2,rfl,rfl,h1,h2⟩:=h;simp [aO.size,Ty.fW t h1,aO.fW ts h2]
end
/- The same blocks, the same reading. -/
mutual
theorem Ty.eR {S S':Nat→Prop} {w w':World} (hs:∀ b,S b→S' b∧w'.heap[b]? =w.heap[b]?):(t:Ty)→{cs:List Value}→{x:t.D}→t.aT S w cs x→t.aT S' w' cs x
 | .bool,_,_,h=>by grind [Ty.aT]
 | .int _,_,_,h=>by grind [Ty.aT]
 | .str,_,_,h=>by grind [Ty.aT]
 | .hole,_,_,h=>by grind [Ty.aT]
 | .sl e,_,_,h=>by
   simp only [Ty.aT] at h ⊢;obtain ⟨a,cap,rfl,hc,h⟩:=h;refine ⟨a,cap,rfl,hc,h.imp id ?_⟩
   rintro ⟨b,o,ha,hb,hi⟩
   refine ⟨b,o,ha,(hs b hb).1,λi y hl=> ?_⟩;rw [fT (hs b hb).2];exact Ty.eR hs e (hi i y hl)
 | .fz e,_,_,h=>by
   simp only [Ty.aT] at h ⊢;obtain ⟨a,cap,rfl,hc,h⟩:=h;refine ⟨a,cap,rfl,hc,h.imp id ?_⟩
   rintro ⟨b,o,ha,hb,hi⟩
   refine ⟨b,o,ha,(hs b hb).1,λi y hl=> ?_⟩;rw [fT (hs b hb).2];exact Ty.eR hs e (hi i y hl)
 | .st fs,_,_,h=>by simp only [Ty.aT] at h ⊢; exact aO.eR hs fs h
theorem aO.eR {S S':Nat→Prop} {w w':World} (hs:∀ b,S b→S' b∧w'.heap[b]? =w.heap[b]?):(t:aO)→{cs:List Value}→{x:t.D}→t.aT S w cs x→t.aT S' w' cs x
 | .nil,_,_,h=>by grind [aO.aT]
 | .cons t ts,_,_,h=>by
   simp only [aO.aT] at h ⊢; obtain ⟨c1,c2,rfl,h1,h2⟩:=h;exact ⟨c1,c2,rfl,Ty.eR hs t h1,aO.eR hs ts h2⟩
end
mutual
theorem Ty.ep {w w':World}:(t:Ty)→{cs:List Value}→{x:t.D}→{fp:List Nat}→t.aC z w cs x fp→(∀ b∈fp,w'.heap[b]? =w.heap[b]?)→t.aC z w' cs x fp
 | .bool,_,_,_,h,_=>by grind [Ty.aC]
 | .int _,_,_,_,h,_=>by grind [Ty.aC]
 | .str,_,_,_,h,_=>by grind [Ty.aC]
 | .hole,_,_,_,h,_=>by grind [Ty.aC]
 | .sl e,_,_,_,h,hs=>by
   simp only [Ty.aC] at h ⊢;obtain ⟨a,cap,rfl,hc,h⟩:=h;refine ⟨a,cap,rfl,hc,h.imp id ?_⟩
   rintro ⟨b,o,c,E,fps,ha,hb,ho,hl,rfl,hi⟩
   have cE:=hs b (by simp);refine ⟨b,o,c,E,fps,ha,cE.trans hb,ho,hl,rfl,λi y f hy hf=> ?_⟩;rw [fT cE];refine Ty.ep e (hi i y f hy hf) λb hm=>hs b ?_;simp only [adM,alB];exact .inr ⟨f,afF hf,hm⟩
 | .fz _,_,_,_,h,_=>by grind [Ty.aC]
 | .st fs,_,_,_,h,hs=>by simp only [Ty.aC] at h ⊢; exact aO.ep fs h hs
theorem aO.ep {w w':World}:(t:aO)→{cs:List Value}→{x:t.D}→{fp:List Nat}→t.aC z w cs x fp→(∀ b∈fp,w'.heap[b]? =w.heap[b]?)→t.aC z w' cs x fp
 | .nil,_,_,_,h,_=>by grind [aO.aC]
 | .cons t ts,_,_,_,h,hs=>by
   simp only [aO.aC] at h ⊢; obtain ⟨c1,c2,f1,f2,rfl,rfl,h1,h2⟩:=h;exact ⟨c1,c2,f1,f2,rfl,rfl,Ty.ep t h1 λb hb=>hs b (by simp [hb]),aO.ep ts h2 λb hb=>hs b (by simp [hb])⟩
end
/- What is one's own can be read. -/
mutual
theorem Ty.hO {S:Nat→Prop} {w:World} (hz:∀ b,z.S b→S b∧w.heap[b]? =z.w0.heap[b]?):(t:Ty)→{cs:List Value}→{x:t.D}→{fp:List Nat}→t.aC z w cs x fp→(∀ b∈fp,S b)→t.aT S w cs x
 | .bool,_,_,_,h,_=>by grind [Ty.aC,Ty.aT]
 | .int _,_,_,_,h,_=>by grind [Ty.aC,Ty.aT]
 | .str,_,_,_,h,_=>by grind [Ty.aC,Ty.aT]
 | .hole,_,_,_,h,_=>by grind [Ty.aC,Ty.aT]
 | .sl e,_,_,_,h,hs=>by
   simp only [Ty.aC,Ty.aT] at h ⊢;obtain ⟨a,cap,rfl,hc,h⟩:=h;refine ⟨a,cap,rfl,hc, ?_⟩;rcases h with ⟨h0,rfl⟩|⟨b,o,c,E,fps,ha,hb,ho,hl,rfl,hi⟩
   . exact .inl (aeE (by omega))
   . refine .inr ⟨b,o,ha,hs b (by simp),λi y hy=> ?_⟩
     have cf:i<fps.length:=by grind
     refine Ty.hO hz e (hi i y (fps[i]'cf) hy (aa7 _)) λb hm=>hs b ?_;grind [List.mem_flatten,List.getElem_mem]
 | .fz e,_,_,_,h,_=>by grind [Ty.aC,Ty.eR]
 | .st fs,_,_,_,h,hs=>by simp only [Ty.aC,Ty.aT] at h ⊢; exact aO.hO hz fs h hs
theorem aO.hO {S:Nat→Prop} {w:World} (hz:∀ b,z.S b→S b∧w.heap[b]? =z.w0.heap[b]?):(t:aO)→{cs:List Value}→{x:t.D}→{fp:List Nat}→t.aC z w cs x fp→(∀ b∈fp,S b)→t.aT S w cs x
 | .nil,_,_,_,h,_=>by grind [aO.aC,aO.aT]
 | .cons t ts,_,_,_,h,hs=>by
   simp only [aO.aC,aO.aT] at h ⊢; obtain ⟨c1,c2,f1,f2,rfl,rfl,h1,h2⟩:=h;exact ⟨c1,c2,rfl,Ty.hO hz t h1 λb hb=>hs b (by simp [hb]),aO.hO hz ts h2 λb hb=>hs b (by simp [hb])⟩
end
/- The blocks that it lies in are there. -/
mutual
theorem Ty.iW {w:World}:(t:Ty)→{cs:List Value}→{x:t.D}→{fp:List Nat}→t.aC z w cs x fp→∀ b∈fp,b<w.heap.size
 | .bool,_,_,_,h=>by simp only [Ty.aC] at h;rw [h.2];simp
 | .int _,_,_,_,h=>by simp only [Ty.aC] at h;rw [h.2];simp
 | .str,_,_,_,h=>by simp only [Ty.aC] at h;rw [h.2.1];simp
 | .hole,_,_,_,h=>by simp only [Ty.aC] at h;rw [h.2];simp
 | .sl e,_,_,_,h=>by
   simp only [Ty.aC] at h;obtain ⟨a,cap,rfl,hc,h⟩:=h;rcases h with ⟨h0,rfl⟩|⟨b,o,c,E,fps,ha,hb,ho,hl,rfl,hi⟩
   . simp
   . intro b' hm
     simp only [adM,alB] at hm;rcases hm with rfl|⟨f,hf,hm⟩
     . exact (UV.1 hb).1
     . obtain ⟨i,cf,rfl⟩:=afM hf
       exact Ty.iW e (hi i (@getElem (List e.D) Nat e.D _ _ _ i (hl ▸ cf)) _ (aa7 _) (aa7 _)) b' hm
 | .fz _,_,_,_,h=>by simp only [Ty.aC] at h;rw [h.2];simp
 | .st fs,_,_,_,h=>by simp only [Ty.aC] at h;exact aO.iW fs h
theorem aO.iW {w:World}:(t:aO)→{cs:List Value}→{x:t.D}→{fp:List Nat}→t.aC z w cs x fp→∀ b∈fp,b<w.heap.size
 | .nil,_,_,_,h=>by simp only [aO.aC] at h;rw [h.2];simp
 | .cons t ts,_,_,_,h=>by
   simp only [aO.aC] at h;obtain ⟨c1,c2,f1,f2,rfl,rfl,h1,h2⟩:=h;intro b hb;rcases adE.1 hb with h|h
   . exact Ty.iW t h1 b h
   . exact aO.iW ts h2 b h
end
mutual
theorem Ty.dI {z':Fz} {w:World} (hz:z.le z'):(t:Ty)→{cs:List Value}→{x:t.D}→{fp:List Nat}→t.aC z w cs x fp→t.aC z' w cs x fp
 | .bool,_,_,_,h=>by grind [Ty.aC]
 | .int _,_,_,_,h=>by grind [Ty.aC]
 | .str,_,_,_,h=>by grind [Ty.aC]
 | .hole,_,_,_,h=>by grind [Ty.aC]
 | .sl e,_,_,_,h=>by
   simp only [Ty.aC] at h ⊢;obtain ⟨a,cap,rfl,hc,h⟩:=h;refine ⟨a,cap,rfl,hc,h.imp id ?_⟩
   rintro ⟨b,o,c,E,fps,ha,hb,ho,hl,rfl,hi⟩
   exact ⟨b,o,c,E,fps,ha,hb,ho,hl,rfl,λi y f hy hf=>Ty.dI hz e (hi i y f hy hf)⟩
 | .fz e,_,_,_,h=>by simp only [Ty.aC] at h ⊢; exact ⟨Ty.eR hz (.fz e) h.1,h.2⟩
 | .st fs,_,_,_,h=>by simp only [Ty.aC] at h ⊢; exact aO.dI hz fs h
theorem aO.dI {z':Fz} {w:World} (hz:z.le z'):(t:aO)→{cs:List Value}→{x:t.D}→{fp:List Nat}→t.aC z w cs x fp→t.aC z' w cs x fp
 | .nil,_,_,_,h=>by grind [aO.aC]
 | .cons t ts,_,_,_,h=>by
   simp only [aO.aC] at h ⊢; obtain ⟨c1,c2,f1,f2,rfl,rfl,h1,h2⟩:=h;exact ⟨c1,c2,f1,f2,rfl,rfl,Ty.dI hz t h1,aO.dI hz ts h2⟩
end
mutual
def Ty.nS:Ty→Ty→Bool
 | .bool, .bool=>true
 | .int k, .int k'=>decide (k=k')
 | .str, .str=>true
 | .hole, .hole=>true
 | .sl e, .sl e'=>e.nS e'
 | .sl e, .fz e'=>e.nS e'
 | .fz e, .sl e'=>e.nS e'
 | .fz e, .fz e'=>e.nS e'
 | .st fs, .st fs'=>fs.nS fs'
 |_,_=>false
def aO.nS:aO→aO→Bool
 | .nil, .nil=>true
 | .cons t ts, .cons t' ts'=>t.nS t'&&ts.nS ts'
 |_,_=>false
end
mutual
theorem Ty.jo:(t t':Ty)→t.nS t'=true→t.D=t'.D
 | .bool,t',h=>by grind [Ty.nS]
 | .int k,t',h=>by cases t'<;>first|rfl|grind [Ty.nS]
 | .str,t',h=>by grind [Ty.nS]
 | .hole,t',h=>by grind [Ty.nS]
 | .sl e,t',h=>by
   cases t'<;>simp only [Ty.nS,aeF] at h
   . simp only [Ty.D,Ty.jo e _ h]
   . simp only [Ty.D,Ty.jo e _ h]
 | .fz e,t',h=>by
   cases t'<;>simp only [Ty.nS,aeF] at h
   . simp only [Ty.D,Ty.jo e _ h]
   . simp only [Ty.D,Ty.jo e _ h]
 | .st fs,t',h=>by
   cases t'<;>simp only [Ty.nS,aeF] at h;simp only [Ty.D,aO.jo fs _ h]
theorem aO.jo:(t t':aO)→t.nS t'=true→t.D=t'.D
 | .nil,t',h=>by grind [aO.nS]
 | .cons t ts,t',h=>by
   cases t'<;>simp only [aO.nS,aeF,aa6] at h;simp only [aO.D,Ty.jo t _ h.1,aO.jo ts _ h.2]
end
def Ty.D9 (t t':Ty) (x:t.D):Option t'.D:=if h:t.nS t'=true then some (_root_.cast (Ty.jo t t' h) x) else none
theorem Ty.qE {t t':Ty} {x:t.D} {y:t'.D} (h:Ty.D9 t t' x=some y):∃ e:t.nS t'=true,y=_root_.cast (Ty.jo t t' e) x:=by grind [Ty.D9]
mutual
theorem Ty.la:(t t':Ty)→t.nS t'=true→t'.size=t.size
 | .bool,t',h=>by grind [Ty.nS]
 | .int k,t',h=>by cases t'<;>first|rfl|grind [Ty.nS]
 | .str,t',h=>by grind [Ty.nS]
 | .hole,t',h=>by grind [Ty.nS]
 | .sl e,t',h=>by cases t'<;>first|rfl|grind [Ty.nS]
 | .fz e,t',h=>by cases t'<;>first|rfl|grind [Ty.nS]
 | .st fs,t',h=>by
   cases t'<;>simp only [Ty.nS,aeF] at h;simp only [Ty.size,aO.la fs _ h]
theorem aO.la:(t t':aO)→t.nS t'=true→t'.size=t.size
 | .nil,t',h=>by grind [aO.nS]
 | .cons t ts,t',h=>by
   cases t'<;>simp only [aO.nS,aeF,aa6] at h;simp only [aO.size,Ty.la t _ h.1,aO.la ts _ h.2]
end
theorem XN {α β:Type} (h:α=β) (h':List α=List β) (xs:List α) (i:Nat) (y:β) (e:nth (_root_.cast h' xs) i=some y):∃ x,nth xs i=some x∧y=_root_.cast h x:=by
 subst h;grind
theorem XO {α β:Type} (h:α=β) (h':List α=List β) (xs:List α):(_root_.cast h' xs).length=xs.length:=by subst h;rfl
theorem XP {α β α' β':Type} (h:α=α') (k:β=β') (h':(α×β)=(α'×β')) (x:α×β):(_root_.cast h' x).1=_root_.cast h x.1∧(_root_.cast h' x).2=_root_.cast k x.2:=by grind
theorem lY {S:Nat→Prop} {w:World} {e e':Ty} (hD:e.D=e'.D) (hs:e'.size=e.size) (ih:∀ cs x,e.aT S w cs x→e'.aT S w cs (_root_.cast hD x)) (h':List e.D=List e'.D) {cs:List Value} {xs:List e.D}
  (h:(Ty.sl e).aT S w cs xs):(Ty.sl e').aT S w cs (_root_.cast h' xs:List e'.D):=by
 simp only [Ty.aT] at h ⊢;have hl:=XO hD h' xs;obtain ⟨a,cap,rfl,hc,h⟩:=h;refine ⟨a,cap, ?_, ?_, ?_⟩
 . grind
 . grind
 . rcases h with rfl|⟨b,o,ha,hb,hi⟩
   . grind
   . refine .inr ⟨b,o,ha,hb,λi y hy=> ?_⟩
     obtain ⟨x,hx,rfl⟩:=XN hD h' xs i y hy;grind
mutual
theorem Ty.jq {S:Nat→Prop} {w:World}:(t t':Ty)→(h:t.nS t'=true)→∀ cs x,t.aT S w cs x→t'.aT S w cs (_root_.cast (Ty.jo t t' h) x)
 | .bool,t',h,cs,x,hr=>by grind [Ty.nS]
 | .int k,t',h,cs,x,hr=>by
   cases t'<;>simp only [Ty.nS,aeF,adS] at h;grind
 | .str,t',h,cs,x,hr=>by grind [Ty.nS]
 | .hole,t',h,cs,x,hr=>by grind [Ty.nS]
 | .sl e,t',h,cs,x,hr=>by
   cases t' with
   |sl e'=>exact lY (Ty.jo e e' h) (Ty.la e e' h) (Ty.jq e e' h) _ hr
   |fz e'=>exact kZ.2 (lY (Ty.jo e e' h) (Ty.la e e' h) (Ty.jq e e' h) _ hr)
   |_=>simp [Ty.nS] at h
 | .fz e,t',h,cs,x,hr=>by
   have hr:=kZ.1 hr;cases t' with
   |sl e'=>exact lY (Ty.jo e e' h) (Ty.la e e' h) (Ty.jq e e' h) _ hr
   |fz e'=>exact kZ.2 (lY (Ty.jo e e' h) (Ty.la e e' h) (Ty.jq e e' h) _ hr)
   |_=>simp [Ty.nS] at h
 | .st fs,t',h,cs,x,hr=>by
   cases t' with
   |st fs'=>
    simp only [Ty.aT] at hr ⊢;exact aO.jq fs fs' h cs x hr
   |_=>simp [Ty.nS] at h
theorem aO.jq {S:Nat→Prop} {w:World}:(t t':aO)→(h:t.nS t'=true)→∀ cs x,t.aT S w cs x→t'.aT S w cs (_root_.cast (aO.jo t t' h) x)
 | .nil,t',h,cs,x,hr=>by grind [aO.aT,aO.nS]
 | .cons t ts,t',h,cs,x,hr=>by
   cases t' with
   |nil=>simp [aO.nS] at h
   |cons t' ts'=>
    have h2:=h;simp only [aO.nS,aa6] at h2;simp only [aO.aT] at hr ⊢;obtain ⟨c1,c2,rfl,h3,h4⟩:=hr;have e:=XP (Ty.jo t t' h2.1) (aO.jo ts ts' h2.2) (aO.jo (.cons t ts) (.cons t' ts') h) x;exact ⟨c1,c2,rfl,e.1 ▸ Ty.jq t t' h2.1 c1 x.1 h3,e.2 ▸ aO.jq ts ts' h2.2 c2 x.2 h4⟩
end
mutual
def Ty.qa:Ty→Ty
 | .sl _=> .hole
 | .fz _=> .hole
 | .st fs=> .st fs.qa
 | .bool=> .bool
 | .int k=> .int k
 | .str=> .str
 | .hole=> .hole
def aO.qa:aO→aO
 | .nil=> .nil
 | .cons t ts=> .cons t.qa ts.qa
end
mutual
def Ty.erase:(t:Ty)→t.D→t.qa.D
 | .sl _,_=>()
 | .fz _,_=>()
 | .st fs,x=>fs.erase x
 | .bool,x=>x
 | .int _,x=>x
 | .str,x=>x
 | .hole,_=>()
def aO.erase:(t:aO)→t.D→t.qa.D
 | .nil,x=>x
 | .cons t ts,x=>(t.erase x.1,ts.erase x.2)
end
mutual
theorem Ty.sn:(t:Ty)→t.qa.size=t.size
 | .sl _=>rfl
 | .fz _=>rfl
 | .st fs=>by simp only [Ty.qa,Ty.size];exact aO.sn fs
 | .bool=>rfl
 | .int _=>rfl
 | .str=>rfl
 | .hole=>rfl
theorem aO.sn:(t:aO)→t.qa.size=t.size
 | .nil=>rfl
 | .cons t ts=>by simp only [aO.qa,aO.size,Ty.sn t,aO.sn ts]
end
mutual
theorem Ty.nB {S:Nat→Prop} {w:World}:(t:Ty)→∀ cs x,t.aT S w cs x→t.qa.aT S w cs (t.erase x)
 | .sl _,cs,x,hr=>by simp only [Ty.qa,Ty.aT] at hr ⊢; obtain ⟨a,cap,rfl,_⟩:=hr;exact ⟨_,rfl,rfl⟩
 | .fz _,cs,x,hr=>by simp only [Ty.qa,Ty.aT] at hr ⊢; obtain ⟨a,cap,rfl,_⟩:=hr;exact ⟨_,rfl,rfl⟩
 | .st fs,cs,x,hr=>by
   simp only [Ty.aT] at hr;simp only [Ty.qa,Ty.aT];exact aO.nB fs cs x hr
 | .bool,cs,x,hr=>hr
 | .int _,cs,x,hr=>hr
 | .str,cs,x,hr=>hr
 | .hole,cs,x,hr=>hr
theorem aO.nB {S:Nat→Prop} {w:World}:(t:aO)→∀ cs x,t.aT S w cs x→t.qa.aT S w cs (t.erase x)
 | .nil,cs,x,hr=>hr
 | .cons t ts,cs,x,hr=>by
   simp only [aO.aT] at hr;simp only [aO.qa,aO.aT];obtain ⟨c1,c2,rfl,h3,h4⟩:=hr;exact ⟨c1,c2,rfl,Ty.nB t c1 x.1 h3,aO.nB ts c2 x.2 h4⟩
end
end
section
open Go
mutual
def Ty.cL:(t:Ty)→t.D→Nat→(u:Ty)→Option u.D
 | .st fs,x,off,u=>if off=0∧(Ty.st fs).beq u=true then Ty.cast (.st fs) u x else fs.cL x off u
 |t,x,off,u=>if off=0 then Ty.cast t u x else none
def aO.cL:(ts:aO)→ts.D→Nat→(u:Ty)→Option u.D
 | .nil,_,_,_=>none
 | .cons t ts,x,off,u=>if off<t.size then t.cL x.1 off u else ts.cL x.2 (off - t.size) u
end
mutual
def Ty.cP:(t:Ty)→t.D→Nat→(u:Ty)→u.D→Option t.D
 | .st fs,x,off,u,y=>if off=0∧u.beq (Ty.st fs)=true then Ty.cast u (.st fs) y else fs.cP x off u y
 |t,_,off,u,y=>if off=0 then Ty.cast u t y else none
def aO.cP:(ts:aO)→ts.D→Nat→(u:Ty)→u.D→Option ts.D
 | .nil,_,_,_,_=>none
 | .cons t ts,x,off,u,y=>if off<t.size then (t.cP x.1 off u y).map λz=>(z,x.2) else (ts.cP x.2 (off - t.size) u y).map λz=>(x.1,z)
end
mutual
def Ty.dD:Ty→Nat→Ty→Ty
 | .fz e,off,u=>if off=0∧u.beq (.sl e)=true then .fz e else u
 | .st fs,off,u=>fs.dD off u
 |_,_,u=>u
def aO.dD:aO→Nat→Ty→Ty
 | .nil,_,u=>u
 | .cons t ts,off,u=>if off<t.size then t.dD off u else ts.dD (off - t.size) u
end
mutual
def Ty.so:Ty→Bool
 | .sl e=>e.so
 | .fz _=>false
 | .st fs=>fs.so
 |_=>true
def aO.so:aO→Bool
 | .nil=>true
 | .cons t ts=>t.so&&ts.so
end
mutual
def Ty.oQ:Ty→Bool
 | .sl _=>false
 | .fz _=>true
 | .st fs=>fs.oQ
 |_=>true
def aO.oQ:aO→Bool
 | .nil=>true
 | .cons t ts=>t.oQ&&ts.oQ
end
mutual
def Ty.Fc:Ty→Ty
 | .sl e=> .fz e
 | .st fs=> .st fs.Fc
 |t=>t
def aO.Fc:aO→aO
 | .nil=> .nil
 | .cons t ts=> .cons t.Fc ts.Fc
end
mutual
def Ty.flat:Ty→Bool
 | .sl _=>false
 | .fz _=>false
 | .st fs=>fs.flat
 |_=>true
def aO.flat:aO→Bool
 | .nil=>true
 | .cons t ts=>t.flat&&ts.flat
end
def aO.offset:aO→Nat→Option (Nat×Ty)
 | .nil,_=>none
 | .cons t _,0=>some (0,t)
 | .cons t ts,k+1=>(ts.offset k).map λx=>(t.size+x.1,x.2)
def Ty.field (t:Ty) (k:Nat):Option (Nat×Ty):=
 match t with
 | .st fs=>fs.offset k
 |_=>none
inductive aj where
 |dead
 |kC
 |undef
 |b (x:Bool)
 |i (k:IntKind) (x:Int)
 |s (x:List UInt8)
 |ro (e:Ty) (xs:List e.D) (tk:Option Nat)
 |oR
 |dn (id:Nat) (vw:Option (Nat×Nat))
 |vptr (id off:Nat)
 |kK (id i off:Nat)
 |Fe (t:Ty) (x:t.D) (off:Nat)
 |agg (vs:List aj)
 |MH (vs:List aj)
 |fn (f:Nat) (qF:List aj)
 |er (n:Bool)
 |kp (n:Nat)
inductive bV where
 |var (cs:List aj)
 |arr (e:Ty) (xs:List e.D)
 |Ea (e:Ty) (xs:List e.D) (x:e.D) (i off:Nat) (u:Ty) (id:Nat)
 |it (s:List UInt8) (p:Nat)
 |xN (e:Ty) (xs:List e.D) (i:Nat) (cs:List aj)
 |cut (e:Ty) (ys:List e.D) (k:Nat)
mutual
def aj.ids:aj→List Nat
 | .dn id _=>[id]
 | .vptr id _=>[id]
 | .kK id _ _=>[id]
 | .agg vs=>aj.bO vs
 | .MH vs=>aj.bO vs
 | .fn _ vs=>aj.bO vs
 |_=>[]
def aj.bO:List aj→List Nat
 |[]=>[]
 |v::vs=>v.ids++aj.bO vs
end
def bV.ids:bV→List Nat
 | .var cs=>aj.bO cs
 | .arr _ _=>[]
 | .Ea _ _ _ _ _ _ id=>[id]
 | .it _ _=>[]
 | .xN _ _ _ cs=>aj.bO cs
 | .cut _ _ _=>[]
def aj.bB:aj→Bool
 | .dead| .undef| .agg _| .MH _=>false
 |_=>true
def aj.cells:aj→List aj
 | .agg vs=>vs
 |v=>[v]
mutual
def Ty.kD:(t:Ty)→t.D→List aj
 | .bool,x=>[.b x]
 | .int k,x=>[.i k x]
 | .str,x=>[.s x]
 | .hole,_=>[.kC]
 | .sl e,x=>[.ro e x none]
 | .fz e,x=>[.ro e x none]
 | .st fs,x=>fs.kD x
def aO.kD:(ts:aO)→ts.D→List aj
 | .nil,_=>[]
 | .cons t ts,x=>t.kD x.1++ts.kD x.2
end
mutual
def Ty.kE:(t:Ty)→t.D→List aj
 | .bool,x=>[.b x]
 | .int k,x=>[.i k x]
 | .str,x=>[.s x]
 | .hole,_=>[.kC]
 | .sl _,_=>[.kC]
 | .fz e,x=>[.ro e x none]
 | .st fs,x=>fs.kE x
def aO.kE:(ts:aO)→ts.D→List aj
 | .nil,_=>[]
 | .cons t ts,x=>t.kE x.1++ts.kE x.2
end
def Ty.lb:Ty→Bool
 | .st _=>true
 |_=>false
def oq (t:Ty) (cs:List aj):aj:=
 match t.lb,cs with
 |true,cs=> .agg cs
 |false,[c]=>c
 |false,_=> .dead
inductive Out (ρ:Type):Type 1 where
 |ret (r:ρ)
 |fail
 |ite (c:Bool) (a b:Out ρ)
 |get {α:Type} (o:Option α) (k:α→Out ρ)
 |alt {α β:Type} (o:α ⊕ β) (k:α→Out ρ) (h:β→Out ρ)
def Out.bind {ρ σ:Type}:Out ρ→(ρ→Out σ)→Out σ
 | .ret r,f=>f r
 | .fail,_=> .fail
 | .ite c a b,f=> .ite c (a.bind f) (b.bind f)
 | .get o k,f=> .get o λx=>(k x).bind f
 | .alt o k h,f=> .alt o (λx=>(k x).bind f) λx=>(h x).bind f
def Out.map {ρ σ:Type} (f:ρ→σ) (o:Out ρ):Out σ:=o.bind λr=> .ret (f r)
def Out.eval {ρ:Type}:Out ρ→Option ρ
 | .ret r=>some r
 | .fail=>none
 | .ite c a b=>bif c then a.eval else b.eval
 | .get o k=>o.bind λx=>(k x).eval
 | .alt o k h=>match o with
   | .inl x=>(k x).eval
   | .inr x=>(h x).eval
def Out.ofOption {ρ:Type}:Option ρ→Out ρ
 |some r=> .ret r
 |none=> .fail
def Out.of {α ρ:Type} (o:Option α) (k:α→Out ρ):Out ρ:=
 match o with
 |some x=>k x
 |none=> .fail
theorem Out.pB {ρ σ:Type} (o:Out ρ) (f:ρ→Out σ):(o.bind f).eval=o.eval.bind λr=>(f r).eval:=by
 induction o with
 |ret r=>rfl
 |fail=>rfl
 |ite c a b iha ihb=>grind [Out.bind,Out.eval]
 |get o k ih=>grind [Out.bind,Out.eval]
 |alt o k h ih ih'=>grind [Out.bind,Out.eval]
abbrev Env:=Nat→Option bV
def acZ:List aj→Option (Bool×List aj)
 | .b x::r=>some (x,r)
 |_=>none
def ac0 (k:IntKind):List aj→Option (Int×List aj)
 | .i k' x::r=>if k=k' then some (x,r) else none
 |_=>none
def als:List aj→Option (Unit×List aj)
 |d::r=>if d.bB=true then some ((),r) else none
 |_=>none
def apk:List aj→Option (Unit×List aj)
 |d::r=>if d.bB=true∧d.ids=[] then some ((),r) else none
 |_=>none
def ac1:List aj→Option (List UInt8×List aj)
 | .s x::r=>some (x,r)
 |_=>none
def XQ (e:Ty):List aj→Option (List e.D×List aj)
 | .oR::r=>some ([],r)
 | .ro e' xs _::r=>(Ty.cast (.sl e') (.sl e) xs).map λy=>(y,r)
 |_=>none
def alu (E:Env) (e:Ty):List aj→Option (List e.D×List aj×List Nat)
 | .oR::r=>some ([],r,[])
 | .dn id none::r=>
   match E id with
   |some (.arr e' xs)=>(Ty.cast (.sl e') (.sl e) xs).map λy=>(y,r,[id])
   |_=>none
 |_=>none
mutual
def Ty.xO (E:Env):(t:Ty)→List aj→Option (t.D×List aj×List Nat)
 | .bool,cs=>(acZ cs).map λx=>(x.1,x.2,[])
 | .int k,cs=>(ac0 k cs).map λx=>(x.1,x.2,[])
 | .str,cs=>(ac1 cs).map λx=>(x.1,x.2,[])
 | .hole,cs=>(apk cs).map λx=>(x.1,x.2,[])
 | .sl e,cs=>alu E e cs
 | .fz e,cs=>(XQ e cs).map λx=>(x.1,x.2,[])
 | .st fs,cs=>fs.xO E cs
def aO.xO (E:Env):(ts:aO)→List aj→Option (ts.D×List aj×List Nat)
 | .nil,cs=>some ((),cs,[])
 | .cons t ts,cs=>(t.xO E cs).bind λx=>(ts.xO E x.2.1).map λy=>((x.1,y.1),y.2.1,x.2.2++y.2.2)
end
def nC:List Nat→Bool
 |[]=>true
 |a::l=> !l.contains a&&nC l
def jr (E:Env):bV→Option ((e:Ty)×List e.D)
 | .arr e xs=>some ⟨e,xs⟩
 | .Ea e xs x i off u id=>
   match E id with
   |some (.arr e' ys)=>(Ty.cast (.sl e') u ys).bind λy=>(e.cP x off u y).map λx'=>⟨e,xs.set i x'⟩
   |_=>none
 | .var _=>none
 | .it _ _=>none
 | .cut _ _ _=>none
 | .xN e xs i cs=>
   match e.xO E cs with
   |some (x,[],ids)=>if nC ids=true then some ⟨e,xs.set i x⟩ else none
   |_=>none
def bW:bV→List Nat
 | .Ea _ _ _ _ _ _ id=>[id]
 | .xN _ _ _ cs=>aj.bO cs
 |_=>[]
def AJ (e' e:Ty) (xs:List e'.D):Option (List e.D):=
 match Ty.D9 (.sl e') (.sl e) xs with
 |some y=>some y
 |none=>Ty.cast (.sl e'.qa) (.sl e) (List.map e'.erase xs)
def zS (E:Env) (e:Ty):aj→Option (List e.D)
 | .ro e' xs _=>AJ e' e xs
 | .oR=>some []
 | .dn id none=>(E id).bind λv=>(jr E v).bind λx=>AJ x.1 e x.2
 | .dn id (some (o,l))=>(E id).bind λv=>(jr E v).bind λx=>AJ x.1 e ((x.2.drop o).take l)
 |_=>none
def j7 (E:Env) (e:Ty):aj→Option (List e.D×List Nat)
 | .oR=>some ([],[])
 | .dn id none=>(E id).bind λv=>(jr E v).bind λx=>(Ty.cast (.sl x.1) (.sl e) x.2).map λy=>(y,id::bW v)
 | .dn id (some (o,l))=>(E id).bind λv=>(jr E v).bind λx=>(Ty.cast (.sl x.1) (.sl e) ((x.2.drop o).take l)).map λy=>(y,id::bW v)
 |_=>none
def alv (E:Env) (e:Ty):List aj→Option (List e.D×List aj×List Nat)
 |v::r=>(j7 E e v).map λx=>(x.1,r,x.2)
 |_=>none
mutual
def Ty.xP (E:Env):(t:Ty)→List aj→Option (t.D×List aj×List Nat)
 | .bool,cs=>(acZ cs).map λx=>(x.1,x.2,[])
 | .int k,cs=>(ac0 k cs).map λx=>(x.1,x.2,[])
 | .str,cs=>(ac1 cs).map λx=>(x.1,x.2,[])
 | .hole,cs=>(als cs).map λx=>(x.1,x.2,[])
 | .sl e,cs=>alv E e cs
 | .fz e,cs=>(XQ e cs).map λx=>(x.1,x.2,[])
 | .st fs,cs=>fs.xP E cs
def aO.xP (E:Env):(ts:aO)→List aj→Option (ts.D×List aj×List Nat)
 | .nil,cs=>some ((),cs,[])
 | .cons t ts,cs=>(t.xP E cs).bind λx=>(ts.xP E x.2.1).map λy=>((x.1,y.1),y.2.1,x.2.2++y.2.2)
end
def BM (E:Env) (t:Ty) (cs:List aj):Option (t.D×List Nat):=
 match t.xP E cs with
 |some (x,[],ids)=>if nC ids=true then some (x,ids) else none
 |_=>none
mutual
def Ty.bU:(t:Ty)→t.D→Nat→List aj×List (Nat×bV)×Nat
 | .bool,x,n=>([.b x],[],n)
 | .int k,x,n=>([.i k x],[],n)
 | .str,x,n=>([.s x],[],n)
 | .hole,_,n=>([.kC],[],n)
 | .sl e,x,n=>([.dn n none],[(n, .arr e x)],n+1)
 | .fz e,x,n=>([.ro e x none],[],n)
 | .st fs,x,n=>fs.bU x n
def aO.bU:(ts:aO)→ts.D→Nat→List aj×List (Nat×bV)×Nat
 | .nil,_,n=>([],[],n)
 | .cons t ts,x,n=>
   let a:=t.bU x.1 n
   let b:=ts.bU x.2 a.2.2
   (a.1++b.1,a.2.1++b.2.1,b.2.2)
end
abbrev pS:=List (Nat×Option bV)
abbrev jR:=aj×pS
def ERR:Nat:=1000000
structure Cx where
 ty:Nat→Option Ty
 eqv:Nat→Bool
 call:Nat→List aj→Env→Nat→Out jR
 frz:Nat→Bool:=λ_=>false
 opk:Nat→Nat:=λ_=>0
def ofValue:Value→aj
 | .bool x=> .b x
 | .int k n=> .i k n
 | .string s=>if s.data.toList.length≤cj then .s s.data.toList else .dead
 | .slice none 0 0=> .oR
 | .nilIface=> .er true
 |_=> .dead
abbrev bn:Nat:=68719476736
def sq:Op→List Operand
 | .range _ x| .next x _| .move x| .assign x| .box _ x| .load _ x| .nilCheck x| .unOp _ _ x| .convert _ _ x| .fieldAddr _ x _| .field _ x _| .extract x _=>[x]
 | .pick c a b=>[c,a,b]
 | .build _ ps| .buildSlice _ _ ps=>ps.toList.map (·.2)
 | .store _ a v| .binOp _ _ a v _| .makeSlice _ a v| .indexAddr _ a v| .index _ a v=>[a,v]
 | .slice _ x l h m=>[x]++l.toList++h.toList++m.toList
 | .makeFunc _ _ cs=>cs.toList
 | .call c=>c.operands.toList
 |_=>[]
def cV (v:aj):Out jR:= .ret (v,[])
def fP (cs:List aj) (off:Nat) (new:List aj):List aj:=cs.take off++new++cs.drop (off+new.length)
def XR (op:BinOp) (k:IntKind) (x y:Int):Out jR:=
 match op with
 | .add=>cV (.i k (k.wrap (x+y)))
 | .sub=>cV (.i k (k.wrap (x - y)))
 | .mul=>cV (.i k (k.wrap (x*y)))
 | .quo=> .ite (y==0) .fail (cV (.i k (k.wrap (x.tdiv y))))
 | .rem=> .ite (y==0) .fail (cV (.i k (x.tmod y)))
 | .and=>cV (.i k (k.wrap (BitVec.ofInt k.bits x &&& BitVec.ofInt k.bits y).toNat))
 | .or=>cV (.i k (k.wrap (BitVec.ofInt k.bits x ||| BitVec.ofInt k.bits y).toNat))
 | .xor=>cV (.i k (k.wrap (BitVec.ofInt k.bits x ^^^ BitVec.ofInt k.bits y).toNat))
 | .andNot=>cV (.i k (k.wrap (BitVec.ofInt k.bits x &&& ~~~(BitVec.ofInt k.bits y)).toNat))
 | .eql=>cV (.b (x==y))
 | .neq=>cV (.b (x != y))
 | .lss=>cV (.b (decide (x<y)))
 | .leq=>cV (.b (decide (x≤y)))
 | .gtr=>cV (.b (decide (x>y)))
 | .geq=>cV (.b (decide (x≥y)))
 |_=> .fail
def LJ (op:BinOp) (k:IntKind) (x y:Int):Out jR:=
 match op with
 | .shl=> .ite (decide (y<0)) .fail (cV (.i k (k.wrap (x*2 ^ (min y.toNat k.bits)))))
 | .shr=> .ite (decide (y<0)) .fail (cV (.i k (x.fdiv (2 ^ (min y.toNat k.bits)))))
 |_=> .fail
def XT (op:BinOp) (x y:List UInt8):Out jR:=
 match op with
 | .add=> .ite (decide (x.length+y.length≤bn)) (cV (.s (x++y))) .fail
 | .eql=>cV (.b (x==y))
 | .neq=>cV (.b (x != y))
 | .lss=>cV (.b (Op.bytesLess x y))
 | .leq=>cV (.b (Op.bytesLess x y||x==y))
 | .gtr=>cV (.b (!(Op.bytesLess x y||x==y)))
 | .geq=>cV (.b (!(Op.bytesLess x y)))
 |_=> .fail
def Jc:Ty→aj→aj→Option Bool
 | .bool, .b x, .b y=>some (x==y)
 | .int k, .i k1 x, .i k2 y=>if k1=k∧k2=k then some (x==y) else none
 | .str, .s x, .s y=>some (x==y)
 |_,_,_=>none
def aO.eqC:aO→List aj→List aj→Option Bool
 | .nil,[],[]=>some true
 | .cons t ts,x::r,y::q=>(Jc t x y).bind λb=>(ts.eqC r q).map λz=>b&&z
 |_,_,_=>none
def Ty.eqC:Ty→List aj→List aj→Option Bool
 | .st fs,x,y=>fs.eqC x y
 |_,_,_=>none
def Jd:BinOp→Bool
 | .shl| .shr=>true
 |_=>false
def Qk:Option Ty→Bool
 |some .bool=>true
 |_=>false
def alw (t:Option Ty) (op:BinOp) (x y:aj):Out jR:=
 match x,y with
 | .i k a, .i k' b=>if Jd op=true then LJ op k a b else if k=k' then XR op k a b else .fail
 | .s a, .s b=>XT op a b
 | .b a, .b b=>if Qk t=true then
   match op with
   | .eql=>cV (.b (a==b))
   | .neq=>cV (.b (!(a==b)))
   |_=> .fail else .fail
 |_,_=> .fail
def afx (op:BinOp) (z:Bool):Out jR:=
 match op with
 | .eql=>cV (.b z)
 | .neq=>cV (.b (!z))
 |_=> .fail
def unD (op:UnOp) (x:aj):Out jR:=
 match op,x with
 | .not, .b a=>cV (.b (!a))
 | .neg, .i k a=>cV (.i k (k.wrap (0 - a)))
 |_,_=> .fail
def Je (E:Env):aj→Option Nat
 | .ro _ xs _=>some xs.length
 | .oR=>some 0
 | .dn id none=>
   match E id with
   |some (.arr _ xs)=>some xs.length
   |some (.Ea _ xs _ _ _ _ _)=>some xs.length
   |some (.xN _ xs _ _)=>some xs.length
   |some (.cut _ ys k)=>some (k+ys.length)
   |_=>none
 | .dn _ (some (_,l))=>some l
 |_=>none
def alx (E:Env) (t:Ty) (x:aj):Option Nat:=
 match t,x with
 | .str, .s x=>some x.length
 | .sl _,x=>Je E x
 |_,_=>none
def sr (E:Env) (id:Nat):Option Nat:=
 match E id with
 |some (.arr e _)=>some e.size
 |some (.Ea e _ _ _ _ _ _)=>some e.size
 |some (.xN e _ _ _)=>some e.size
 |some (.cut e _ _)=>some e.size
 |_=>none
def NW (E:Env) (es:Nat) (x:aj) (n:Int):Out jR:=
 match x with
 | .ro e xs _=>if e.size=es then .ite (decide (0≤n)) (.get (nth xs n.toNat) λy=>cV (.Fe e y 0)) .fail else .fail
 | .dn id none=>
   .of (Je E (.dn id none)) λl=>if sr E id=some es then .ite (decide (0≤n∧n<(l:Int))) (cV (.kK id n.toNat 0)) .fail else .fail
 | .dn id (some (o,l))=>if sr E id=some es then .ite (decide (0≤n∧n<(l:Int))) (cV (.kK id (o+n.toNat) 0)) .fail else .fail
 |_=> .fail
def news (l:List (Nat×bV)):pS:=l.map λx=>(x.1,some x.2)
def XU (E:Env) (t:Ty) (id i off fr:Nat) (v:bV):Out jR:=
 .of (jr E v) λex=> .get (nth ex.2 i) λx=> .of (ex.1.cL x off (ex.1.dD off t)) λy=>
  match ex.1.dD off t,y with
  | .sl e',y=> .ret (.dn fr none,((bW v).map λk=>(k,none))++[(id,some (.Ea ex.1 ex.2 x i off (.sl e') fr)),(fr,some (.arr e' y))])
  |t,y=>cV (oq t (t.kE y))
def afy (E:Env) (k:Nat) (t:Ty) (id i off fr:Nat) (v:bV):Out jR:=
 match k,v with
 |0, .xN _ _ j cs=>if off+t.size≤cs.length then .ite (i==j) (cV (oq t ((cs.drop off).take t.size))) .fail else .fail
 |1,v=> .of (jr E v) λex=> .get (nth ex.2 i) λx=>
  if off+t.size≤ex.1.size∧(ex.1.bU x fr).2.2≤fr+64 then
   .ret (oq t (((ex.1.bU x fr).1.drop off).take t.size),((bW v).map λk=>(k,none))++([(id,some (.xN ex.1 ex.2 i (ex.1.bU x fr).1))]++news (ex.1.bU x fr).2.1))
  else .fail
 |_,v=>XU E t id i off fr v
def Eb (E:Env) (k:Nat) (t:Ty) (a:aj) (fr:Nat):Out jR:=
 match a with
 | .vptr id off=>
   match E id with
   |some (.var cs)=>if off+t.size≤cs.length then cV (oq t ((cs.drop off).take t.size)) else .fail
   |_=> .fail
 | .Fe t' x off=> .of (t'.cL x off (t'.dD off t)) λy=>cV (oq (t'.dD off t) ((t'.dD off t).kD y))
 | .kK id i off=> .of (E id) λv=>afy E k t id i off fr v
 |_=> .fail
def ac3 (E:Env):bV→Bool
 | .Ea _ _ _ _ _ _ id=>(E id).isNone
 |_=>false
def bV.dD (off:Nat) (t:Ty):bV→Ty
 | .arr e _=>e.dD off t
 | .Ea e _ _ _ _ _ _=>e.dD off t
 | .xN e _ _ _=>e.dD off t
 |_=>t
def XV (E:Env) (t:Ty) (id i off:Nat) (w:bV) (v:aj):Out jR:=
    .of (BM E t v.cells) λy=>if y.2.contains id=true∨v.cells.all aj.bB=false then .fail else
    if y.2.any (λk=>(bW w).contains k)=true∨ac3 E w=true then
     match w with
     | .Ea e xs _ j xQ u _=>if off=xQ∧t.beq u=true then
      .ite (i==j) (.get (nth xs i) λx=> .of (e.cP x off t y.1) λx'=> .ret (.undef,(y.2.map λk=>(k,none))++[(id,some (.arr e (xs.set i x')))])) .fail else .fail
     |_=> .fail
    else .of (jr E w) λex=> .get (nth ex.2 i) λx=> .of (ex.1.cP x off t y.1) λx'=>
     .ret (.undef,((bW w++y.2).map λk=>(k,none))++[(id,some (.arr ex.1 (ex.2.set i x')))])
def XW (E:Env) (k:Nat) (t:Ty) (id i off:Nat) (w:bV) (v:aj):Out jR:=
 match k,w with
 |0, .xN e xs j cs=>
  if off+t.size≤cs.length∧v.cells.length=t.size∧v.cells.all aj.bB=true then .ite (i==j) (.ret (.undef,[(id,some (.xN e xs j (fP cs off v.cells)))])) .fail else .fail
 |_,w=>XV E (w.dD off t) id i off w v
def Ec (E:Env) (k:Nat) (t:Ty) (a v:aj):Out jR:=
 match a with
 | .vptr id off=>
   match E id with
   |some (.var cs)=>
    if off+t.size≤cs.length∧v.cells.length=t.size∧v.cells.all aj.bB=true then .ret (.undef,[(id,some (.var (fP cs off v.cells)))]) else .fail
   |_=> .fail
 | .kK id i off=> .of (E id) λw=>XW E k t id i off w v
 |_=> .fail
def aly:aj→Option Bool
 | .b x=>some x
 |_=>none
def nD:aj→Option Int
 | .i _ x=>some x
 |_=>none
def XX (l:List UInt8) (lo hi:Option Int):Out jR:=
 let oW:=lo.getD 0
 match hi with
 |none=> .ite (decide (0≤oW∧oW≤(l.length:Int))) (cV (.s (l.drop oW.toNat))) .fail
 |some h=> .ite (decide (0≤oW∧oW≤h∧h≤(l.length:Int))) (cV (.s ((l.take h.toNat).drop oW.toNat))) .fail
def XY (E:Env) (es:Nat) (x:aj) (lo hi:Option Int):Out jR:=
 let oW:=lo.getD 0
 match x with
 | .ro e l _=>if e.size=es then
   match hi with
   |none=> .ite (decide (0≤oW∧oW≤(l.length:Int))) (cV (.ro e (l.drop oW.toNat) none)) .fail
   |some h=> .ite (decide (0≤oW∧oW≤h∧h≤(l.length:Int))) (cV (.ro e ((l.take h.toNat).drop oW.toNat) none)) .fail
   else .fail
 | .dn id vw=>
   .of (Je E (.dn id vw)) λn=>if sr E id=some es then
    .ite (decide (0≤oW∧oW≤hi.getD n∧hi.getD n≤(n:Int))) (cV (.dn id (some ((vw.map (·.1)).getD 0+oW.toNat,(hi.getD n).toNat - oW.toNat)))) .fail
    else .fail
 |_=> .fail
def Jf (E:Env) (t:Ty) (x:aj) (lo hi:Option Int):Out jR:=
 match t,x with
 | .str, .s x=>XX x lo hi
 | .sl e,x=>XY E e.size x lo hi
 |_,_=> .fail
def XZ (E:Env) (e:Ty):aj→Option (List e.D)
 | .oR=>some []
 | .ro e' xs _=>Ty.D9 (.sl e') (.sl e) xs
 | .dn id none=>
   match E id with
   |some (.arr e' xs)=>Ty.cast (.sl e') (.sl e) xs
   |_=>none
 | .dn id (some (o,l))=>
   match E id with
   |some (.arr e' xs)=>(Ty.cast (.sl e') (.sl e) xs).map λ(ys:List e.D)=>(ys.drop o).take l
   |_=>none
 |_=>none
def Jg (E:Env) (e:Ty):aj→Option (List Nat×Nat×Nat×Nat×Nat×List e.D)
 | .dn id (some (o,l))=>
   match E id with
   |some (.cut e' xs k)=>(Ty.cast (.sl e') (.sl e) xs).map λys=>([],id,o,l,k,ys)
   |some v=>(jr E v).bind λex=>(Ty.cast (.sl ex.1) (.sl e) ex.2).map λys=>(bW v,id,o,l,0,ys)
   |none=>none
 |_=>none
def Jh (E:Env) (e:Ty) (x y:aj) (fr:Nat):Out jR:=
 .of (j7 E e x) λa=>
  match e.flat,y with
  |true,y=> .of (zS E e y) λb=>if y.ids.any (a.2.contains ·)=true then .fail else
   .ite (decide (List.length a.1+List.length b≤bn)) (.ret (.dn fr none,(a.2.map λk=>(k,none))++[(fr,some (.arr e (a.1++b)))])) .fail
  |false,y=>if e.oQ=true then
    .of (XZ E e y) λb=>if y.ids.any (a.2.contains ·)=true then .fail else
     .ite (decide (List.length a.1+List.length b≤bn)) (.ret (.dn fr none,(a.2.map λk=>(k,none))++[(fr,some (.arr e (a.1++b)))])) .fail
   else
    match Jg E e y with
    |some p=>if (p.2.1::p.1).any (a.2.contains ·)=true then .fail else
     .ite (decide (p.2.2.2.2.1≤p.2.2.1∧List.length a.1+p.2.2.2.1≤bn)) (.ret (.dn fr none,((a.2++(p.2.1::p.1)).map λk=>(k,none))++[(fr,some (.arr e (a.1++(p.2.2.2.2.2.drop (p.2.2.1 - p.2.2.2.2.1)).take p.2.2.2.1))),(p.2.1,some (.cut e (p.2.2.2.2.2.drop (p.2.2.1 - p.2.2.2.2.1+p.2.2.2.1)) (p.2.2.1+p.2.2.2.1)))])) .fail
    |none=> .of (j7 E e y) λb=>if b.2.any (a.2.contains ·)=true then .fail else
     .ite (decide (List.length a.1+List.length b.1≤bn)) (.ret (.dn fr none,((a.2++b.2).map λk=>(k,none))++[(fr,some (.arr e (a.1++b.1)))])) .fail
def qG (t:Ty) (ev:Operand→aj):List (Nat×Operand)→List aj→Option (List aj)
 |[],cs=>some cs
 |(k,x)::r,cs=>
  match t.field k with
  |some (off,u)=>if (ev x).cells.length=u.size∧(ev x).cells.all aj.bB=true then qG t ev r (fP cs off (ev x).cells) else none
  |none=>none
def ld (E:Env) (e:Ty) (ev:Operand→aj):List (Nat×Operand)→List e.D→List Nat→Option (List e.D×List Nat)
 |[],xs,g=>some (xs,g)
 |(k,x)::r,xs,g=>if xs.length≤k∨(ev x).cells.all aj.bB=false then none else
  (BM E e (ev x).cells).bind λy=>if y.2.any (g.contains ·)=true then none else ld E e ev r (xs.set k y.1) (g++y.2)
def Ed:Ty→Option Ty
 | .sl e=>some e
 |_=>none
def Ql:Option Ty→Bool
 |some (.sl (.int .u8))=>true
 |_=>false
def X0 (C:Cx) (E:Env) (src dst:Nat) (x:aj):Out jR:=
 .of (C.ty dst) λt=>
  match t,x with
  | .int k, .i _ n=>if (C.ty src).isSome=true then cV (.i k (k.wrap n)) else .fail
  | .str, .s l=>if (C.ty src).isSome=true then cV (.s l) else .fail
  | .str,x=>if Ql (C.ty src)=true then .of (zS E (.int .u8) x) λ(l:List Int)=>cV (.s (l.map λn=>UInt8.ofNat n.toNat)) else .fail
  |_,_=> .fail
def X1 (C:Cx) (ty:Nat) (x:aj) (fr:Nat):Out jR:=
 match x with
 | .oR=>
   match (C.ty ty).bind Ed with
   |some e=> .ret (.dn fr none,[(fr,some (.arr e []))])
   |none=>cV .oR
 |x=>cV x
def GN:pS→Nat→Option bV
 |[],_=>none
 |(k,x)::r,id=>
  match GN r id with
  |some y=>some y
  |none=>if k=id∧(r.all λz=>z.1 != id)=true then x else none
def auJ (E:Env) (x:aj):Out jR:=
 match x with
 | .vptr id 0=>
   match E id with
   |some (.it s p)=> .ite (decide (p<s.length)) (.get (nth s p) λb=> .ite (decide (b.toNat<128)) (.ret (.MH [.b true, .i .i64 (p:Int), .i .i32 (b.toNat:Int)],[(id,some (.it s (p+1)))])) .fail) (cV (.MH [.b false]))
   |_=> .fail
 |_=> .fail
def alz (E:Env) (r:jR):Out jR:=
 match r with
 |(.kK id i off,[])=>
  match E id with
  |some (.arr e xs)=> .of (Ty.D9 (.sl e) (.sl e.Fc) xs) λ(ys:List e.Fc.D)=> .ret (.kK id i off,[(id,some (.arr e.Fc ys))])
  |_=> .fail
 |_=> .fail
def Ji (E:Env) (k:Nat) (t:Ty) (a v:aj):Out jR:=
 if k=6 then
  match v with
  | .dn id none=>
    match E id with
    |some (.arr e xs)=>(Ec (λj=>if j=id then none else E j) k t a (.ro e xs none)).bind λr=> .ret (r.1,(id,none)::r.2)
    |_=> .fail
  |_=> .fail
 else Ec E k t a v
def apl (E:Env) (k:Nat) (o:Out jR):Out jR:=if k=4 then o.bind (alz E) else o
def core0 (C:Cx) (op:Op) (ty:Nat) (ev:Operand→aj) (E:Env) (fr:Nat):Out jR:=
 match op with
 | .move x| .assign x=>X1 C ty (ev x) fr
 | .pick c a b=> .of (aly (ev c)) λx=> .ite x (cV (ev a)) (cV (ev b))
 | .alloc t=> .of (C.ty t) λt=>if (t.bU t.zero (fr+1)).2.2≤fr+64 then
   .ret (.vptr fr 0,news (t.bU t.zero (fr+1)).2.1++[(fr,some (.var (t.bU t.zero (fr+1)).1))]) else .fail
 | .box t x=> .of (C.ty t) λt=>if (ev x).cells.length=t.size∧(ev x).cells.all aj.bB=true then .ret (.vptr fr 0,[(fr,some (.var (ev x).cells))]) else .fail
 | .build t ps=> .of (C.ty t) λt=>if t.lb=true∧(t.bU t.zero fr).2.2≤fr+64 then
   .of (qG t ev ps.toList (t.bU t.zero fr).1) λcs=> .ret (.agg cs,news (t.bU t.zero fr).2.1) else .fail
 | .buildSlice t n ps=> .of (C.ty t) λt=> .of (Ed t) λe=>if n*e.size≤16777216 then
  .of (ld E e ev ps.toList (List.replicate n e.zero) []) λy=> .ret (.dn fr none,(y.2.map λk=>(k,none))++[(fr,some (.arr e y.1))]) else .fail
 | .load t a=> .of (C.ty t) λt=>Eb E (C.opk (fr / 64)) t (ev a) fr
 | .store t a v=> .of (C.ty t) λt=>Ji E (C.opk (fr / 64)) t (ev a) (ev v)
 | .nilCheck x=>
   match ev x with
   | .vptr id off=>cV (.vptr id off)
   | .kK id i off=>cV (.kK id i off)
   | .Fe t x off=>cV (.Fe t x off)
   |_=> .fail
 | .binOp op t x y _=>
   match ev x,ev y with
   | .agg a, .agg b=> .of (C.ty t) λty=>if C.eqv t=true∧t<ERR then
    .of (ty.eqC a b) λz=>afx op z else .fail
   |a,b=>alw (C.ty t) op a b
 | .unOp op _ x=>unD op (ev x)
 | .convert src d x=>X0 C E src d (ev x)
 | .fieldAddr t x k=> .of (C.ty t) λt=> .of (t.field k) λf=>
   match ev x with
   | .vptr id off=>cV (.vptr id (off+f.1))
   | .kK id i off=>cV (.kK id i (off+f.1))
   | .Fe t x off=>cV (.Fe t x (off+f.1))
   |_=> .fail
 | .field t x k=> .of (C.ty t) λt=> .of (t.field k) λf=>
   match ev x with
   | .agg cs=>if f.1+f.2.size≤cs.length then cV (oq f.2 ((cs.drop f.1).take f.2.size)) else .fail
   |_=> .fail
 | .indexAddr t x n=>apl E (C.opk (fr / 64)) (.of (C.ty t) λt=> .of (Ed t) λe=> .of (nD (ev n)) λn=>NW E e.size (ev x) n)
 | .index t x n=> .of (C.ty t) λt=> .of (nD (ev n)) λn=>
   match t,ev x with
   | .str, .s l=> .ite (decide (0≤n)) (.get (nth l n.toNat) λc=>cV (.i .u8 (c.toNat:Int))) .fail
   |_,_=> .fail
 | .extract x k=>
   match ev x with
   | .MH vs=> .of vs[k]? λv=>cV v
   |_=> .fail
 | .makeSlice t l c=> .of (C.ty t) λt=> .of (Ed t) λe=> .of (nD (ev l)) λn=> .of (nD (ev c)) λm=>
  .ite (decide (0≤n∧n≤m∧m≤(bn:Int))) (.ret (.dn fr none,[(fr,some (.arr e (List.replicate n.toNat e.zero)))])) .fail
 | .slice t x lo hi none=> .of (C.ty t) λt=>
   match lo.map λz=>nD (ev z),hi.map λz=>nD (ev z) with
   |some none,_=> .fail
   |_,some none=> .fail
   |l,h=>Jf E t (ev x) (l.bind id) (h.bind id)
 | .makeFunc (.func f) first cs=>if first.size=0 then cV (.fn f (cs.toList.map ev)) else .fail
 | .call { callee:= .builtin .len,args,argTypes }=>
   match args.toList,argTypes.toList with
   |[x],[t]=> .of (C.ty t) λt=> .of (alx E t (ev x)) λn=>cV (.i .i64 (n:Int))
   |_,_=> .fail
 | .call { callee:= .builtin .append,args,argTypes }=>
   match args.toList,argTypes.toList with
   |[x,y],[t,t']=>if t=t' then .of (C.ty t) λt=> .of (Ed t) λe=>Jh E e (ev x) (ev y) fr else .fail
   |_,_=> .fail
 | .call { callee:= .value (.func f),args, .. }=>C.call f (args.toList.map ev) E fr
 | .call { callee:= .value (.tmp f),args, .. }=>
   match ev (.tmp f) with
   | .fn g qF=>C.call g (args.toList.map ev++qF) E fr
   |_=> .fail
 |_=> .fail
def Ee (m i:Nat) (d:aj) (u:pS):Option (aj×pS):=
 match d with
 | .dn id none=>if m=0∨m.testBit i=true then
    match GN u id with
    |some (.arr e xs)=>some (.ro e xs none,u++[(id,none)])
    |_=>none
   else some (.dn id none,u)
 |d=>some (d,u)
def Qm (m:Nat):Nat→List aj→pS→Option (List aj×pS)
 |_,[],u=>some ([],u)
 |i,d::r,u=>(Ee m i d u).bind λq=>(Qm m (i+1) r q.2).map λp=>(q.1::p.1,p.2)
def X2 (m i:Nat) (d:aj) (u:pS):Option (aj×pS):=
 match d with
 | .agg ds=>(Qm m i ds u).map λq=>(.agg q.1,q.2)
 |d=>Ee m i d u
def Qn (m:Nat):Nat→List aj→pS→Option (List aj×pS)
 |_,[],u=>some ([],u)
 |i,d::r,u=>(X2 m i d u).bind λq=>(Qn m (i+d.cells.length) r q.2).map λp=>(q.1::p.1,p.2)
def apm (m:Nat) (d:aj) (u:pS):Option (aj×pS):=
 match d with
 | .MH ds=>(Qn m 0 ds u).map λq=>(.MH q.1,q.2)
 |d=>X2 m 0 d u
def apn (m:Nat) (r:jR):Out jR:= .of (apm m r.1 r.2) λq=> .ret q
def core (C:Cx) (op:Op) (ty:Nat) (ev:Operand→aj) (E:Env) (fr:Nat):Out jR:=
 if C.frz (fr / 64)=true then (core0 C op ty ev E fr).bind (apn (C.opk (fr / 64))) else core0 C op ty ev E fr
end
section
open Go
structure ed where
 t:List aj
 v:List (Nat×bV)
 w:List (Nat×bV):=[]
 k:List Nat
 kn:List (Nat×Bool)
structure mU where
 t:Nat→aj
 v:Nat→Option bV
 k:Nat→Prop
def bp:List (Nat×bV)→Nat→Option bV
 |[],_=>none
 |(k,x)::r,id=>if k=id then some x else bp r id
def zU:List (Nat×bV)→Nat→List (Nat×bV)
 |[],_=>[]
 |(k,x)::r,id=>if k=id then zU r id else (k,x)::zU r id
def X3:List (Nat×bV)→Nat→bV→List (Nat×bV)
 |[],id,y=>[(id,y)]
 |(k,x)::r,id,y=>if k=id then (k,y)::r else (k,x)::X3 r id y
def Fx (v:List (Nat×bV)):pS→List (Nat×bV)
 |[]=>v
 |(id,some x)::r=>Fx (X3 v id x) r
 |(id,none)::r=>Fx (zU v id) r
def ed.env (s:ed):Nat→Option bV:=bp (s.v++s.w)
def ed.f (s:ed):mU:={ t:=λj=>s.t.getD j .dead,v:=s.env,k:=λid=>id / 64∈s.k }
def ed.free (s:ed) (u:pS):Bool:=u.all λx=> !(s.w.map (·.1)).contains x.1
def gk (t:Nat→aj):Operand→aj
 | .tmp j=>t j
 | .const v=>ofValue v
 | .func f=> .fn f []
 | .global _=> .dead
def X4 (v:Env) (id:Nat):List Nat:=
 match v id with
 |some x=>x.ids
 |none=>[]
def cl (v:Env) (l:List Nat):List Nat:=l++l.flatMap (X4 v)
def tids (op:Op) (t:Nat→aj) (v:Env):List Nat:=cl v (cl v (cl v ((sq op).flatMap λx=>(gk t x).ids)))
def rz (T:List Nat) (v:Env):Env:=λid=>if T.contains id=true then v id else none
def makes (g:Nat) (u:pS):Bool:=u.any λx=>x.1 / 64==g
def X5 (T:List Nat) (g:Nat) (mk:Bool) (id:Nat):Bool:=T.contains id||(mk&&id / 64==g)
def afz (T:List Nat) (g:Nat) (mk:Bool) (x:Nat×Option bV):Bool:=
 X5 T g mk x.1&&(match x.2 with|some y=>y.ids.all (X5 T g mk)|none=>true)
def Qo (T:List Nat) (g:Nat) (r:jR):Bool:=
 r.1.ids.all (X5 T g (makes g r.2))&&r.2.all (afz T g (makes g r.2))
def GO (t:List aj) (dst:Option Nat):Bool:=
 match dst with
 |some d=>decide (d<t.length)
 |none=>true
def LK (t:List aj) (dst:Option Nat) (v:aj):List aj:=
 match dst with
 |some d=>t.set d v
 |none=>t
def Qp (kn:List (Nat×Bool)) (dst:Option Nat):List (Nat×Bool):=
 match dst with
 |some d=>kn.filter λx=>x.1 != d
 |none=>kn
def iX:List (Nat×Bool)→Nat→Option Bool
 |[],_=>none
 |(j,b)::r,d=>if j=d then some b else iX r d
def NX (kn:List (Nat×Bool)):Operand→Option Bool
 | .const (.bool b)=>some b
 | .tmp d=>iX kn d
 |_=>none
def opK (kn:List (Nat×Bool)):Op→Op
 | .pick c a b=>
   match NX kn c with
   |some true=> .move a
   |some false=> .move b
   |none=> .pick c a b
 |op=>op
def X6 (kn:List (Nat×Bool)) (dst:Option Nat):Op→List (Nat×Bool)
 | .move x| .assign x=>
   match dst,NX kn x with
   |some d,some b=>[(d,b)]
   |_,_=>[]
 | .unOp .not _ x=>
   match dst,NX kn x with
   |some d,some b=>[(d, !b)]
   |_,_=>[]
 |_=>[]
structure Log where
 i:Nat
 g:Nat
 mkd:Bool
 dst:Option Nat
 reads:List Nat
 T:List Nat
 R:List Nat
 U:List Nat
def tmpsOf:List Operand→List Nat
 |[]=>[]
 | .tmp j::r=>j::tmpsOf r
 |_::r=>tmpsOf r
def xR (ops:List Oper) (g:Option (Nat×Bool)):List Nat:=
 match g with
 |some (j,_)=>((ops[j]?).bind (·.dst)).toList
 |none=>[]
def X7 (T:List Nat) (t:Operand→aj):Op→List Nat
 | .move _=>[]
 | .assign _=>[]
 | .fieldAddr _ _ _=>[]
 | .nilCheck _=>[]
 | .field _ _ _=>[]
 | .extract _ _=>[]
 | .load _ x=>
   match t x with
   | .vptr id _=>T.filter (· ==id)
   |_=>T
 |_=>T
def Ef (C:Cx) (ops:List Oper) (g i:Nat) (o:Oper) (s:ed):Out (ed×Log):=
 let op:=opK s.kn o.op
 let T:=tids op (λj=>s.t.getD j .dead) s.env
 (core C op o.type (gk λj=>s.t.getD j .dead) (rz T s.env) (g*64)).bind λr=>
  if Qo T g r=true∧s.k.contains g=false∧GO s.t o.dst=true∧s.free r.2=true then
   .ret ({ t:=LK s.t o.dst r.1,v:=Fx s.v r.2,w:=s.w,k:=if makes g r.2=true then g::s.k else s.k,kn:=X6 s.kn o.dst op++Qp s.kn o.dst },
    { i,g,mkd:=makes g r.2,dst:=o.dst,reads:=tmpsOf (sq o.op)++xR ops o.guard,T,R:=X7 T (gk λj=>s.t.getD j .dead) op,U:=r.2.map (·.1) })
  else .fail
def Eg (ops:List Oper) (g i:Nat) (o:Oper) (s:ed):Out (ed×Log):=
 if GO s.t o.dst=true then
  .ret ({ s with t:=LK s.t o.dst .undef,kn:=Qp s.kn o.dst },{ i,g,mkd:=false,dst:=o.dst,reads:=xR ops o.guard,T:=[],R:=[],U:=[] })
 else .fail
def opL (C:Cx) (ops:List Oper) (g i:Nat) (o:Oper) (s:ed):Out (ed×Log):=
 match o.guard with
 |none=>Ef C ops g i o s
 |some (j,want)=>
  match (ops[j]?).bind (·.dst) with
  |none=> .fail
  |some d=>
   match iX s.kn d with
   |some b=>if b=want then Ef C ops g i o s else Eg ops g i o s
   |none=>
    match s.t.getD d .dead with
    | .b c=> .ite (c==want) (Ef C ops g i o { s with t:=s.t.set d (.b want),kn:=(d,want)::s.kn })
     (Eg ops g i o { s with t:=s.t.set d (.b !want),kn:=(d, !want)::s.kn })
    | .undef=>Eg ops g i o s
    |_=> .fail
def qH (C:Cx) (ops:List Oper) (base:Nat):List (Nat×Oper)→ed→List Log→Out (ed×List Log)
 |[],s,log=> .ret (s,log)
 |(i,o)::r,s,log=>(opL C ops (base+i) i o s).bind λx=>qH C ops base r x.1 (x.2::log)
def bits (l:List Nat) (after:List Edge):Nat:=
 after.foldl (λs e=>if Region.binds .any e then s ||| 2 ^ e.on ||| l.getD e.on 0 else s) 0
def ga:List Oper→List Nat→List Nat
 |[],acc=>acc
 |o::r,acc=>ga r (acc++[bits acc o.after.toList])
def X8 (a b:List Nat):Bool:=a.all λx=> !b.contains x
def indep (a b:Log):Bool:=
 X8 a.dst.toList (b.reads++b.dst.toList)&&X8 b.dst.toList a.reads&&X8 a.U (b.R++b.U)&&X8 b.U a.R&&
 (!a.mkd||b.T.all λid=>id / 64 != a.g)
def xS (B:List Nat):List Log→Bool
 |[]=>true
 |b::r=>r.all (λa=>(B.getD b.i 0).testBit a.i||indep a b)&&xS B r
def GP (n:Nat):List Oper→Bool
 |[]=>true
 |o::r=>o.after.toList.all (λe=> !Region.binds .any e||decide (e.on<n))&&GP (n+1) r
def region (C:Cx) (id:Nat) (ops:List Oper) (draw:Bool) (s:ed):Out ed:=
 (qH C ops (id*256+1) (ops.zipIdx.map λx=>(x.2,x.1)) s []).bind λx=>
  if draw=true∧(xS (ga ops []) x.2=false∨GP 0 ops=false) then .fail else .ret x.1
inductive Ex where
 |normal
 |ret
 |exit (id:Nat)
def xT (id:Nat) (r:Ex×ed):Ex×ed:=
 match r.1 with
 | .exit n=>if n=id then (.normal,r.2) else r
 |_=>r
inductive Slot where
 |dead
 |kC
 |b
 |i (k:IntKind)
 |s
 |ro (e:Ty) (tk:Option Nat)
 |aR (id:Nat)
 |srv (id:Nat)
 |vptr (id off:Nat)
 |kK (id off:Nat)
 |Fe (t:Ty) (off:Nat)
 |fn (f:Nat) (ids:List Nat)
 |kp (n:Nat)
 |keep
inductive dT where
 |var (cs:List Slot)
 |arr (e:Ty)
 |it
def Qq:Slot→Type→Type
 | .b,T=>Bool×T
 | .i _,T=>Int×T
 | .s,T=>List UInt8×T
 | .ro e _,T=>List e.D×T
 | .kK _ _,T=>Nat×T
 | .srv _,T=>(Nat×Nat)×T
 | .Fe t _,T=>t.D×T
 |_,T=>T
def GQ (T:Type):(x:Slot)→Qq x T→aj×T
 | .b,y=>(.b y.1,y.2)
 | .i k,y=>(.i k y.1,y.2)
 | .s,y=>(.s y.1,y.2)
 | .ro e tk,y=>(.ro e y.1 tk,y.2)
 | .kK id off,y=>(.kK id y.1 off,y.2)
 | .srv id,y=>(.dn id (some y.1),y.2)
 | .Fe t off,y=>(.Fe t y.1 off,y.2)
 | .dead,y=>(.dead,y)
 | .kC,y=>(.kC,y)
 | .aR id,y=>(.dn id none,y)
 | .vptr id off,y=>(.vptr id off,y)
 | .fn f ids,y=>(.fn f (ids.map λid=> .vptr id 0),y)
 | .kp n,y=>(.kp n,y)
 | .keep,y=>(.dead,y)
def mx:List Slot→Type
 |[]=>Unit
 |x::r=>Qq x (mx r)
def gI:(l:List Slot)→mx l→List aj
 |[],_=>[]
 |x::r,y=>(GQ (mx r) x y).1::gI r (GQ (mx r) x y).2
def qI:List (Nat×dT)→Type
 |[]=>Unit
 |(_, .var cs)::r=>mx cs×qI r
 |(_, .arr e)::r=>List e.D×qI r
 |(_, .it)::r=>(List UInt8×Nat)×qI r
def eM:(l:List (Nat×dT))→qI l→List (Nat×bV)
 |[],_=>[]
 |(id, .var cs)::r,x=>(id, .var (gI cs x.1))::eM r x.2
 |(id, .arr e)::r,x=>(id, .arr e x.1)::eM r x.2
 |(id, .it)::r,x=>(id, .it x.1.1 x.1.2)::eM r x.2
def Slot.isC:Slot→Bool
 | .dead=>false
 | .keep=>false
 |_=>true
structure Shape where
 t:List Slot
 v:List (Nat×dT)
abbrev Shape.D (S:Shape):Type:=mx S.t×qI S.v
def Slot.qJ:Slot→Bool
 | .keep=>true
 |_=>false
def fD:List Slot→Nat→Bool
 |[],_=>false
 |x::_,0=>x.qJ
 |_::r,j+1=>fD r j
def kq:List Slot→List aj→List aj→List aj
 |x::r,d::ds,e::es=>(bif x.qJ then d else e)::kq r ds es
 |_,_,es=>es
def Shape.enc (S:Shape) (ts:List aj) (W:List (Nat×bV)) (K:List Nat) (x:S.D):ed:=
 { t:=kq S.t ts (gI S.t x.1),v:=eM S.v x.2,w:=W,k:=0::(S.v.map (·.1 / 64)++K),kn:=[] }
def X9:List Nat→List aj→List (Nat×Nat)
 |a::r, .vptr b _::q=>(a,b)::X9 r q
 |_,_=>[]
def ss:List Slot→List aj→List (Nat×Nat)
 | .aR id::r, .dn eD none::q=>(id,eD)::ss r q
 | .srv id::r, .dn eD (some _)::q=>(id,eD)::ss r q
 | .vptr id _::r, .vptr eD _::q=>(id,eD)::ss r q
 | .kK id _::r, .kK eD _ _::q=>(id,eD)::ss r q
 | .fn _ ids::r, .fn _ qF::q=>X9 ids qF++ss r q
 |_::r,_::q=>ss r q
 |_,_=>[]
def fI:List (Nat×Nat)→Nat→Option Nat
 |[],_=>none
 |(a,b)::r,x=>if a=x then some b else fI r x
def Eh (v:List (Nat×bV)):List (Nat×dT)→List (Nat×Nat)→List (Nat×Nat)
 |[],m=>m
 |(id, .var cs)::r,m=>
  match (fI m id).bind (bp v) with
  |some (.var ds)=>Eh v r (m++ss cs ds)
  |_=>Eh v r m
 |(_, .arr _)::r,m=>Eh v r m
 |(_, .it)::r,m=>Eh v r m
def Ei (m:List (Nat×Nat)):List Nat→List aj→Bool
 |[],[]=>true
 |a::r, .vptr b 0::q=>decide (fI m a=some b)&&Ei m r q
 |_,_=>false
def afB (m:List (Nat×Nat)) (T:Type):(x:Slot)→aj→Option (T→Qq x T)
 | .dead,_=>some λy=>y
 | .kC,d=>if d.bB=true then some λy=>y else none
 | .b, .b x=>some λy=>(x,y)
 | .i k, .i k' x=>if k=k' then some λy=>(x,y) else none
 | .s, .s x=>some λy=>(x,y)
 | .ro e tk, .ro e' xs tk'=>if tk=none∨tk=tk' then (Ty.cast (.sl e') (.sl e) xs).map λx y=>(x,y) else none
 | .aR id, .dn eD none=>if fI m id=some eD then some λy=>y else none
 | .srv id, .dn eD (some v)=>if fI m id=some eD then some λy=>(v,y) else none
 | .vptr id off, .vptr eD xQ=>if fI m id=some eD∧off=xQ then some λy=>y else none
 | .kK id off, .kK eD x xQ=>if fI m id=some eD∧off=xQ then some λy=>(x,y) else none
 | .fn f ids, .fn f' qF=>if f=f'∧Ei m ids qF=true then some λy=>y else none
 | .Fe t off, .Fe t' x xQ=>if off=xQ then (Ty.cast t' t x).map λx y=>(x,y) else none
 | .kp n, .kp n'=>if n=n' then some λy=>y else none
 | .keep,_=>some λy=>y
 |_,_=>none
def vA (m:List (Nat×Nat)):(l:List Slot)→List aj→Option (mx l)
 |[],[]=>some ()
 |x::r,d::q=>(afB m (mx r) x d).bind λf=>(vA m r q).map f
 |_,_=>none
def NY (v:List (Nat×bV)) (e:Ty) (x:bV):Option (List e.D):=(jr (bp v) x).bind λy=>Ty.cast (.sl y.1) (.sl e) y.2
def ov (m:List (Nat×Nat)) (v:List (Nat×bV)):(l:List (Nat×dT))→Option (qI l)
 |[]=>some ()
 |(id, .var cs)::r=>
  match (fI m id).bind (bp v) with
  |some (.var ds)=>if cs.all Slot.isC=true then (vA m cs ds).bind λx=>(ov m v r).map λy=>(x,y) else none
  |_=>none
 |(id, .arr e)::r=>
  match (fI m id).bind (bp v) with
  |some x=>(NY v e x).bind λx=>(ov m v r).map λy=>(x,y)
  |none=>none
 |(id, .it)::r=>
  match (fI m id).bind (bp v) with
  |some (.it s p)=>(ov m v r).map λy=>((s,p),y)
  |_=>none
def oS (m:List (Nat×Nat)) (v:List (Nat×bV)):List (Nat×dT)→List Nat
 |[]=>[]
 |(id,_)::r=>
  match fI m id with
  |some k=>k::(((bp v k).map bW).getD []++oS m v r)
  |none=>oS m v r
def Shape.map (S:Shape) (s:ed):List (Nat×Nat):=Eh s.v S.v (ss S.t s.t)
def xU:List Slot→List aj→List Nat
 |x::r,d::ds=>(bif x.qJ then d.ids else [])++xU r ds
 |_,_=>[]
def Shape.dec (S:Shape) (W:List (Nat×bV)) (s:ed):Option S.D:=
 let m:=S.map s
 if nC (oS m s.v S.v)=true∧nC (S.v.map (·.1))=true∧m.all (λx=>(S.v.map (·.1)).contains x.1&&(decide (64≤x.1)||x.1==x.2))=true
   ∧(S.v.all λx=> !(W.map (·.1)).contains x.1)=true∧(W.all λx=>x.2.ids.all λid=> !(S.v.map (·.1)).contains id)=true∧((xU S.t s.t).all λid=> !(S.v.map (·.1)).contains id)=true∧(s.w.all λx=> !(s.v.map (·.1)).contains x.1)=true then
  (vA m S.t s.t).bind λx=>(ov m s.v S.v).map λy=>(x,y)
 else none
def Shape.rest (S:Shape) (s:ed):List (Nat×bV):=s.v.filter λx=> !(oS (S.map s) s.v S.v).contains x.1
abbrev aI:Nat:=18446744073709551616
structure au where
 head:Shape
 out:Shape
 ret:Option Shape
 fr:Bool:=false
inductive Round (α β γ:Type) where
 |again (x:α)
 |out (y:β)
 |ret (z:γ)
def iter {α β γ:Type} (f:α→Out (Round α β γ)):Nat→α→Option (β ⊕ γ)
 |0,_=>none
 |n+1,x=>
  match (f x).eval with
  |some (.again x')=>iter f n x'
  |some (.out y)=>some (.inl y)
  |some (.ret z)=>some (.inr z)
  |none=>none
def aP {α β:Type} (f:α→Out (Round α β Empty)) (n:Nat) (x:α):Option β:=
 (iter f n x).map λr=>match r with
  | .inl y=>y
  | .inr z=>nomatch z
def Ya:Option Shape→Type
 |some S=>S.D
 |none=>Empty
def Ej (id:Nat) (A:au) (r:Ex×ed):Out (Round A.head.D A.out.D (Ya A.ret)):=
 match r.1 with
 | .normal=> .of (A.head.dec r.2.w r.2) λx=> .ret (.again x)
 | .exit n=>if n=id then .of (A.out.dec r.2.w r.2) λy=> .ret (.out y) else .fail
 | .ret=>
   match A.ret,(inferInstance:Inhabited Unit) with
   |some S,_=> .of (S.dec r.2.w r.2) λz=> .ret (.ret z)
   |none,_=> .fail
def loose (S:Shape):List Nat:=(S.t.zipIdx.filter λx=> !x.1.qJ).map (·.2)
def Jj (h:List Slot) (n:Nat) (ds:List Nat) (l:List Slot):Bool:=decide (l.length=n)&&l.zipIdx.all λx=> !x.1.qJ||(fD h x.2&& !ds.contains x.2)
def Yb (l:List Slot):Bool:=l.all λx=> !x.qJ
def au.nE (A:au):List Shape:=A.head::A.out::A.ret.toList
def au.zV (A:au) (n:Nat) (ds:List Nat):Bool:=
 A.nE.all (λS=>Jj A.head.t n ds S.t)&&(A.fr||A.nE.all λS=>Yb S.t)
def au.rest (A:au) (s:ed):List (Nat×bV):=if A.fr=true then A.head.rest s else []
def au.known (A:au) (s:ed):List Nat:=if A.fr=true∨s.w.isEmpty=false then s.k else []
def au.fin (A:au) (s:ed) (S:Shape) (x:S.D):ed:={ S.enc s.t [] (A.known s) x with v:=eM S.v x.2++A.rest s,w:=s.w }
def LL (id:Nat) (A:au) (ds:List Nat) (f:ed→Out (Ex×ed)) (s:ed):Out (Ex×ed):=
 if A.zV s.t.length ds=true then
  .of (A.head.dec (A.rest s++s.w) s) λx=>
   match A.ret,(λx=>(f (A.head.enc s.t (A.rest s++s.w) (A.known s) x)).bind (Ej id A):A.head.D→Out (Round A.head.D A.out.D (Ya A.ret))) with
   |some S,g=> .get (iter g aI x) λr=> .alt r (λy=> .ret (.normal,A.fin s A.out y)) λz=> .ret (.ret,A.fin s S z)
   |none,g=> .get (aP g aI x) λy=> .ret (.normal,A.fin s A.out y)
 else .fail
def aps:Code→Option Code
 | .loop b=>some b
 |_=>none
def apt:Operand→List Nat
 | .tmp d=>[d]
 |_=>[]
def nF (A:Nat→Option au):Code→List Nat
 | .seq a b=>nF A a++nF A b
 | .cond c x y=>apt c++(nF A x++nF A y)
 | .block id (.loop b)=>
   match A id with
   |some a=>nF A b++(loose a.out++(match a.ret with|some S=>loose S|none=>[]))
   |none=>[]
 | .block _ c=>nF A c
 | .region _ ops _=>ops.toList.flatMap λo=>o.dst.toList
 |_=>[]
def dZ (C:Cx) (A:Nat→Option au):Code→ed→Out (Ex×ed)
 | .skip,s=> .ret (.normal,s)
 | .ret,s=> .ret (.ret,s)
 | .exit n,s=> .ret (.exit n,s)
 | .seq a b,s=>(dZ C A a s).bind λr=>
   match r.1 with
   | .normal=>dZ C A b r.2
   |_=> .ret r
 | .cond c x y,s=>
   match NX s.kn c with
   |some true=>dZ C A x s
   |some false=>dZ C A y s
   |none=>
    match c,gk (λj=>s.t.getD j .dead) c with
    | .tmp d, .b p=> .ite p (dZ C A x { s with t:=s.t.set d (.b true),kn:=(d,true)::s.kn }) (dZ C A y { s with t:=s.t.set d (.b false),kn:=(d,false)::s.kn })
    |_,_=> .fail
 | .block id (.loop b),s=>
   match A id with
   |some a=>LL id a (nF A b) (dZ C A b) s
   |none=> .fail
 | .block id c,s=>(dZ C A c s).map (xT id)
 | .region id ops draw,s=>(region C id ops.toList draw s).map λs'=>(.normal,s')
 |_,_=> .fail
end
section
open Go
variable {z:Fz}
inductive Loc where
 |at (B o:Nat)
 |tY (a:Option Addr) (len cap sz:Nat)
instance:Inhabited Loc:=⟨.at 0 0⟩
def apu:List (Nat×(Obj→Prop)):=[]
def Yc (S:Nat→Prop) (w:World):Prop:=∀ p∈apu,S p.1∧∃ o,w.heap[p.1]? =some o∧p.2 o
def Ie (S:Nat→Prop) (w:World):Prop:=(∀ b,S b→b<w.heap.size)∧Yc S w
theorem Yc.mono {S S':Nat→Prop} {w w':World} (h:Yc S w) (hS:∀ b,S b→S' b) (hw:∀ b,S b→w'.heap[b]? =w.heap[b]?):Yc S' w':=λp hp=>by
 obtain ⟨h1,o,h2,h3⟩:=h p hp;exact ⟨hS _ h1,o,by rw [hw _ h1];exact h2,h3⟩
structure Ctx where
 P:Program
 S:Nat→Prop
 w0:World
 M:Nat→Nat→Prop
 tok:Nat→Value
 loc:Nat→Loc
 hS:Ie S w0
def Ctx.fz (c:Ctx):Fz:=⟨c.S,c.w0⟩
def erV (v:Value) (n:Bool):Prop:=v.oneCell'=true∧if n=true then v= .nilIface else ∃ t p,v= .iface t p
mutual
def az (c:Ctx) (μ:Nat→Loc) (v:Value):aj→Prop
 | .dead=>True
 | .kC=>v.oneCell'=true
 | .undef=>v=undef
 | .b x=>v= .bool x
 | .i k x=>v= .int k x
 | .s x=>v= .string ⟨x.toArray⟩∧x.length≤cj
 | .ro e xs tk=>(Ty.sl e).aT c.S c.w0 [v] xs∧∀ k,tk=some k→v=c.tok k
 | .oR=>∃ a,v= .slice a 0 0
 | .dn id none=>∃ a len cap sz,μ id= .tY a len cap sz∧v= .slice a len cap
 | .dn id (some (o,l))=>∃ a len cap sz a',μ id= .tY a len cap sz∧o+l≤len∧len≤cap∧v= .slice a' l (cap - o)∧(cap - o=0∨∃ b o',a=some ⟨b,o',none⟩∧a'=some ⟨b,o'+o*sz,none⟩)
 | .vptr id off=>∃ B o,μ id= .at B o∧v= .pointer (some ⟨B,o+off,none⟩)
 | .kK id i off=>∃ b o len cap sz,μ id= .tY (some ⟨b,o,none⟩) len cap sz∧i<len∧v= .pointer (some ⟨b,o+i*sz+off,none⟩)
 | .Fe t x off=>∃ b o,c.S b∧t.aT c.S c.w0 (aK c.w0 b o t.size) x∧v= .pointer (some ⟨b,o+off,none⟩)
 | .agg ds=>∃ vs,v= .agg vs∧ak c μ vs.toList ds
 | .MH ds=>∃ vs,v= .tuple vs∧ak c μ vs.toList ds
 | .fn f ds=>∃ vs,v= .func (.func f) #[] vs∧ak c μ vs.toList ds
 | .er n=>erV v n
 | .kp n=>v=c.tok n∧v.oneCell'=true
def ak (c:Ctx) (μ:Nat→Loc) (vs:List Value):List aj→Prop
 |[]=>vs=[]
 |d::ds=>∃ v bg,vs=v::bg∧az c μ v d∧ak c μ bg ds
end
mutual
theorem az.mono {c:Ctx} {μ μ':Nat→Loc}:{v:Value}→(d:aj)→(∀ id∈d.ids,μ' id=μ id)→az c μ v d→az c μ' v d
 |_, .dead,_,h=>h
 |_, .kC,_,h=>h
 |_, .undef,_,h=>h
 |_, .b _,_,h=>h
 |_, .i _ _,_,h=>h
 |_, .s _,_,h=>h
 |_, .ro _ _ _,_,h=>h
 |_, .oR,_,h=>h
 |_, .dn id none,hm,h=>by simp only [az] at h ⊢; rwa [hm id (by simp [aj.ids])]
 |_, .dn id (some (o,l)),hm,h=>by simp only [az] at h ⊢; rwa [hm id (by simp [aj.ids])]
 |_, .vptr id off,hm,h=>by simp only [az] at h ⊢; rwa [hm id (by simp [aj.ids])]
 |_, .kK id i off,hm,h=>by simp only [az] at h ⊢; rwa [hm id (by simp [aj.ids])]
 |_, .Fe _ _ _,_,h=>h
 |_, .er _,_,h=>h
 |_, .kp _,_,h=>h
 |_, .agg ds,hm,h=>by simp only [az] at h ⊢; obtain ⟨vs,e,h⟩:=h;exact ⟨vs,e,ak.mono ds (by simpa [aj.ids] using hm) h⟩
 |_, .MH ds,hm,h=>by simp only [az] at h ⊢; obtain ⟨vs,e,h⟩:=h;exact ⟨vs,e,ak.mono ds (by simpa [aj.ids] using hm) h⟩
 |_, .fn f ds,hm,h=>by simp only [az] at h ⊢; obtain ⟨vs,e,h⟩:=h;exact ⟨vs,e,ak.mono ds (by simpa [aj.ids] using hm) h⟩
theorem ak.mono {c:Ctx} {μ μ':Nat→Loc}:{vs:List Value}→(ds:List aj)→(∀ id∈aj.bO ds,μ' id=μ id)→ak c μ vs ds→ak c μ' vs ds
 |_,[],_,h=>h
 |_,d::ds,hm,h=>by
  simp only [ak] at h ⊢; obtain ⟨v,bg,e,h1,h2⟩:=h;exact ⟨v,bg,e,az.mono d (λid hi=>hm id (by simp [aj.bO,hi])) h1,ak.mono ds (λid hi=>hm id (by simp [aj.bO,hi])) h2⟩
end
theorem ak.length {c:Ctx} {μ:Nat→Loc}:{vs:List Value}→{ds:List aj}→ak c μ vs ds→vs.length=ds.length
 |_,[],h=>by simp only [ak] at h;subst h;rfl
 |_,_::_,h=>by simp only [ak] at h;obtain ⟨v,bg,rfl,_,h⟩:=h;simp [ak.length h]
theorem ak.append {c:Ctx} {μ:Nat→Loc}:{vs us:List Value}→{ds es:List aj}→ak c μ vs ds→ak c μ us es→ak c μ (vs++us) (ds++es)
 |_,_,[],_,h,h'=>by simp only [ak] at h;subst h;exact h'
 |_,_,_::_,_,h,h'=>by
  simp only [ak] at h;obtain ⟨v,bg,rfl,h1,h⟩:=h;simp only [List.cons_append,ak];exact ⟨v,_,rfl,h1,ak.append h h'⟩
theorem ak.get {c:Ctx} {μ:Nat→Loc}:{vs:List Value}→{ds:List aj}→ak c μ vs ds→∀ {j:Nat} {d:aj},ds[j]? =some d→∃ v,vs[j]? =some v∧az c μ v d
 |_,[],_,_,_,hd=>by simp at hd
 |_,_::_,h,j,d,hd=>by
  simp only [ak] at h;obtain ⟨v,bg,rfl,h1,h⟩:=h;cases j with
  |zero=>simp at hd;subst hd;exact ⟨v,rfl,h1⟩
  |succ j=>simpa using ak.get h (j:=j) (d:=d) (by simpa using hd)
theorem ak.Ek {c:Ctx} {μ:Nat→Loc}:{vs:List Value}→{ds:List aj}→vs.length=ds.length→(∀ (j:Nat) (d:aj) (v:Value),ds[j]? =some d→vs[j]? =some v→az c μ v d)→ak c μ vs ds
 |vs,[],hl,_=>by simp only [ak];exact aeE (by simpa using hl)
 |[],_::_,hl,_=>by simp at hl
 |v::vs,d::ds,hl,h=>by
  simp only [ak];exact ⟨v,vs,rfl,h 0 d v rfl rfl,ak.Ek (by simpa using hl) λj d' v' h1 h2=>h (j+1) d' v' (by simpa using h1) (by simpa using h2)⟩
theorem ak.take {c:Ctx} {μ:Nat→Loc} {vs:List Value} {ds:List aj} (h:ak c μ vs ds) (n:Nat):ak c μ (vs.take n) (ds.take n):=by
 have hl:=h.length;refine ak.Ek (by simp [hl]) λj d v hd hv=> ?_;rw [akW] at hd hv;split at hd
 . rename_i hj;simp only [hj,agm] at hv;obtain ⟨u,hu,hr⟩:=h.get hd;rw [hu] at hv;cases hv;exact hr
 . simp at hd
theorem ak.drop {c:Ctx} {μ:Nat→Loc} {vs:List Value} {ds:List aj} (h:ak c μ vs ds) (n:Nat):ak c μ (vs.drop n) (ds.drop n):=by
 have hl:=h.length;refine ak.Ek (by simp [hl]) λj d v hd hv=> ?_;rw [ad5] at hd hv;obtain ⟨u,hu,hr⟩:=h.get hd;rw [hu] at hv;cases hv;exact hr
theorem su (a b:List aj):aj.bO (a++b)=aj.bO a++aj.bO b:=by
 induction a with
 |nil=>rfl
 |cons x xs ih=>simp [aj.bO,ih]
theorem hY {ds:List aj} {id:Nat}:id∈aj.bO ds↔∃ d∈ds,id∈d.ids:=by
 induction ds with
 |nil=>simp [aj.bO]
 |cons x xs ih=>simp [aj.bO,ih]
theorem az.jG {c:Ctx} {μ:Nat→Loc} {v:Value} {d:aj} (h:az c μ v d) (hc:d.bB=true):v.oneCell'=true:=by
 cases d with
 |dead=>simp [aj.bB] at hc
 |undef=>simp [aj.bB] at hc
 |agg _=>simp [aj.bB] at hc
 |MH _=>simp [aj.bB] at hc
 |kC=>exact h
 |b x=>simp only [az] at h;subst h;rfl
 |i k x=>simp only [az] at h;subst h;rfl
 |s x=>simp only [az] at h;rw [h.1];rfl
 |ro e xs tk=>simp only [az] at h;obtain ⟨h,_⟩:=h;simp only [Ty.aT] at h;obtain ⟨a,cap,e,_⟩:=h;cases e;rfl
 |oR=>simp only [az] at h;obtain ⟨a,rfl⟩:=h;rfl
 |dn id vw=>
  rcases vw with _|⟨o,l⟩
  . simp only [az] at h;obtain ⟨a,len,cap,sz,_,rfl⟩:=h;rfl
  . simp only [az] at h;obtain ⟨a,len,cap,sz,a',_,_,_,rfl,_⟩:=h;rfl
 |vptr id off=>simp only [az] at h;obtain ⟨B,o,_,rfl⟩:=h;rfl
 |kK id i off=>simp only [az] at h;obtain ⟨b,o,len,cap,sz,_,_,rfl⟩:=h;rfl
 |Fe t x off=>simp only [az] at h;obtain ⟨b,o,_,_,rfl⟩:=h;rfl
 |fn f ds=>simp only [az] at h;obtain ⟨vs,rfl,_⟩:=h;rfl
 |er n=>exact h.1
 |kp n=>exact h.2
theorem ib {v:Value} (h:v.oneCell'=true):v.cells= #[v]:=by cases v<;>simp_all [Value.oneCell',Value.cells]
theorem az.cells {c:Ctx} {μ:Nat→Loc} {v:Value} {d:aj} (h:az c μ v d) (hc:d.cells.all aj.bB=true):ak c μ v.cells.toList d.cells:=by
 by_cases ha:∃ ds,d= .agg ds
 . obtain ⟨ds,rfl⟩:=ha
   simp only [az] at h;obtain ⟨vs,rfl,h⟩:=h;exact h
 . have hd:d.cells=[d]:=by cases d<;>first|rfl|exact absurd ⟨_,rfl⟩ ha
   rw [hd] at hc ⊢;simp only [aeB,List.all_nil,Bool.and_true] at hc;rw [ib (h.jG hc)];simp only [ak];exact ⟨v,[],rfl,h,rfl⟩
def NZ (z:Fz) (w:World) (a:Option Addr) (cap:Nat) (e:Ty) (xs:List e.D) (i off:Nat) (u:Ty) (h:Loc) (fp:List Nat):Prop:=
 ∃ a' qK lJ e' b o C E,h= .tY a' qK lJ (Ty.size e')∧u= .sl e'∧a=some ⟨b,o,none⟩∧b∈fp∧w.heap[b]? =some (.cells C E (0,0))∧
 C[o+i*e.size+off]? =some (.slice a' qK lJ)∧
 ∀ (z':Fz) (w':World) (C':Array Value) (hd:Value) (ys:u.D) (fp':List Nat),z.le z'→w'.heap[b]? =some (.cells C' E (0,0))→C'.size=C.size→(∀ j,j≠o+i*e.size+off→C'[j]? =C[j]?)→
   C'[o+i*e.size+off]? =some hd→(∀ b'∈fp,b'≠b→w'.heap[b']? =w.heap[b']?)→u.aC z' w' [hd] ys fp'→
   ∃ x x' ac4,xs[i]? =some x∧e.cP x off u ys=some x'∧(Ty.sl e).aC z' w' [.slice a xs.length cap] (xs.set i x') ac4∧ac4.Perm (fp++fp')
def ac5 (z:Fz) (w:World) (a:Option Addr) (cap:Nat) (e:Ty) (xs:List e.D) (i b o:Nat) (C:Array Value) (E:TypeId) (p q:List Nat):Prop:=
 ∀ (z':Fz) (w':World) (x':e.D) (MF:List Nat) (C':Array Value),z.le z'→w'.heap[b]? =some (.cells C' E (0,0))→C'.size=C.size→
   (∀ j,j<o+i*e.size∨o+(i+1)*e.size≤j→C'[j]? =C[j]?)→(∀ b'∈p++q,w'.heap[b']? =w.heap[b']?)→b ∉ p++q→
   e.aC z' w' (aK w' b (o+i*e.size) e.size) x' MF→(Ty.sl e).aC z' w' [.slice a xs.length cap] (xs.set i x') (b::(p++MF++q))
theorem ac5.frame {z z1:Fz} {w w1:World} {a:Option Addr} {cap:Nat} {e:Ty} {xs:List e.D} {i b o:Nat} {C C1:Array Value} {E:TypeId} {p q:List Nat} (h:ac5 z w a cap e xs i b o C E p q) (hz:z.le z1)
  (hs:∀ b'∈p++q,w1.heap[b']? =w.heap[b']?) (hC:C1.size=C.size) (hj:∀ j,j<o+i*e.size∨o+(i+1)*e.size≤j→C1[j]? =C[j]?):ac5 z1 w1 a cap e xs i b o C1 E p q:=
 λz' w' x' MF C' q1 q2 q3 q4 q5 q6 q7=>h z' w' x' MF C' (Fz.le_trans hz q1) q2 (q3.trans hC) (λj NS=>(q4 j NS).trans (hj j NS)) (λb' cE=>(q5 b' cE).trans (hs b' cE)) q6 q7
def cR (c:Ctx) (μ:Nat→Loc) (w:World) (id:Nat) (fp:List Nat):bV→Prop
 | .var cs=>∃ B o C E,μ id= .at B o∧fp=[B]∧w.heap[B]? =some (.cells C E (0,0))∧o+cs.length≤C.size∧
  ak c μ (aK w B o cs.length) cs∧cs.all aj.bB=true∧(B<c.w0.heap.size→∀ j,j<cs.length→c.M B (o+j))
 | .arr e xs=>∃ a cap,μ id= .tY a xs.length cap e.size∧(Ty.sl e).aC c.fz w [.slice a xs.length cap] xs fp∧(∀ b∈fp,b<c.w0.heap.size→∀ j,c.M b j)
 | .Ea e xs x i off u eD=>∃ a cap,μ id= .tY a xs.length cap e.size∧NZ c.fz w a cap e xs i off u (μ eD) fp∧(∀ b∈fp,b<c.w0.heap.size→∀ j,c.M b j)∧xs.length≤cap∧(cap=0∨∃ b o,a=some ⟨b,o,none⟩)∧xs[i]? =some x
 | .xN e xs i cs=>∃ a cap b o C E p q,μ id= .tY a xs.length cap e.size∧a=some ⟨b,o,none⟩∧fp=b::(p++q)∧w.heap[b]? =some (.cells C E (0,0))∧o+cap*e.size≤C.size∧xs.length≤cap∧i<xs.length∧
  ac5 c.fz w a cap e xs i b o C E p q∧ak c μ (aK w b (o+i*e.size) e.size) cs∧cs.length=e.size∧cs.all aj.bB=true∧b ∉ p++q∧(∀ b∈fp,b<c.w0.heap.size→∀ j,c.M b j)
 | .cut e ys k=>∃ a cap a',μ id= .tY a (k+ys.length) cap e.size∧k+ys.length≤cap∧(0<cap→∃ b o,a=some ⟨b,o,none⟩)∧(cap - k=0∨∃ b o,a=some ⟨b,o,none⟩∧a'=some ⟨b,o+k*e.size,none⟩)∧
  (Ty.sl e).aC c.fz w [.slice a' ys.length (cap - k)] ys fp∧(∀ b∈fp,b<c.w0.heap.size→∀ j,c.M b j)
 | .it s p=>∃ B,μ id= .at B 0∧fp=[B]∧w.heap[B]? =some (.stringIter ⟨s.toArray⟩ p)∧s.length≤cj∧(B<c.w0.heap.size→c.M B 0)
structure dq (c:Ctx) (μ:Nat→Loc) (fp:Nat→List Nat) (v:Env) (w:World):Prop where
 rel:∀ id x,v id=some x→cR c μ w id (fp id) x
 nodup:∀ id x,v id=some x→(fp id).Nodup
 sep:∀ id eD,id≠eD→v id≠none→v eD≠none→∀ b∈fp id,b ∉ fp eD
 kL:∀ id,v id≠none→∀ b∈fp id,¬ c.S b
 lt:∀ id,v id≠none→∀ b∈fp id,b<w.heap.size
structure Ev (c:Ctx) (w:World):Prop where
 size:c.w0.heap.size≤w.heap.size
 os:w.os=c.w0.os
 output:w.output=c.w0.output
 S:∀ b,c.S b→w.heap[b]? =c.w0.heap[b]?
 Fy:∀ b,b<c.w0.heap.size→w.heap[b]? =c.w0.heap[b]? ∨(∃ C C' E,c.w0.heap[b]? =some (.cells C E (0,0))∧w.heap[b]? =some (.cells C' E (0,0))∧C'.size=C.size∧∀ j,¬ c.M b j→C'[j]? =C[j]?)∨(c.M b 0∧∃ s p p',c.w0.heap[b]? =some (.stringIter s p)∧w.heap[b]? =some (.stringIter s p'))
 frozen:∀ a,a.block<c.w0.heap.size→w.frozen? a=c.w0.frozen? a
theorem Ev.comp {c c1:Ctx} {w w':World} (h:Ev c w) (h':Ev c1 w') (hw:c1.w0=w) (hS:∀ b,c.S b→c1.S b) (hM:∀ b j,b<c.w0.heap.size→c1.M b j→c.M b j):Ev c w':=by
 subst hw;refine ⟨adQ h.size h'.size,h'.os.trans h.os,h'.output.trans h.output,λb hb=>(h'.S b (hS b hb)).trans (h.S b hb),λb hb=> ?_,λa ha=>(h'.frozen a (aeh ha h.size)).trans (h.frozen a ha)⟩;have cE:=aeh hb h.size;rcases h'.Fy b cE with e'|⟨D,D',T,a1,a2,a3,a4⟩|⟨m1,s1,p1,p2,a1,a2⟩
 . rw [e'];exact h.Fy b hb
 . rcases h.Fy b hb with e|⟨C,C',T',b1,b2,b3,b4⟩|⟨_,_,_,_,_,b2⟩
   . exact .inr (.inl ⟨D,D',T,by rw [← e,a1],a2,a3,λj hj=>a4 j λhm=>hj (hM b j hb hm)⟩)
   . rw [a1] at b2;cases b2
     exact .inr (.inl ⟨C,D',T,b1,a2,a3.trans b3,λj hj=>(a4 j λhm=>hj (hM b j hb hm)).trans (b4 j hj)⟩)
   . rw [a1] at b2;cases b2
 . rcases h.Fy b hb with e|⟨C,C',T',b1,b2,b3,b4⟩|⟨_,s2,p3,p4,b1,b2⟩
   . exact .inr (.inr ⟨hM b 0 hb m1,s1,p1,p2,by rw [← e,a1],a2⟩)
   . rw [a1] at b2;cases b2
   . rw [a1] at b2;cases b2
     exact .inr (.inr ⟨hM b 0 hb m1,_,_,_,b1,a2⟩)
structure Ext (c c':Ctx):Prop where
 P:c'.P=c.P
 tok:c'.tok=c.tok
 loc:c'.loc=c.loc
 S:∀ b,c.S b→c'.S b
 new:∀ b,c'.S b→c.S b∨c.w0.heap.size≤b∨∀ j,c.M b j
 ev:Ev c c'.w0
 M:∀ b j,b<c.w0.heap.size→c'.M b j→c.M b j
theorem Ev.start (c:Ctx):Ev c c.w0:=⟨adK _,rfl,rfl,λ_ _=>rfl,λ_ _=> .inl rfl,λ_ _=>rfl⟩
theorem Ext.refl (c:Ctx):Ext c c:=⟨rfl,rfl,rfl,λ_ h=>h,λ_ h=> .inl h,Ev.start c,λ_ _ _ h=>h⟩
theorem Ext.back {c c':Ctx} {w:World} (h:Ext c c') (ev:Ev c' w):Ev c w:=h.ev.comp ev rfl h.S h.M
theorem Ext.trans {a b c:Ctx} (h:Ext a b) (h':Ext b c):Ext a c where
 P:=h'.P.trans h.P
 tok:=h'.tok.trans h.tok
 loc:=h'.loc.trans h.loc
 S x hx:=h'.S x (h.S x hx)
 new x hx:=by
  rcases h'.new x hx with hx|hx|hx
  . exact h.new x hx
  . exact .inr (.inl (adQ h.ev.size hx))
  . rcases afw x a.w0.heap.size with cf|MI
    . exact .inr (.inr λj=>h.M x j cf (hx j))
    . exact .inr (.inl MI)
 ev:=h.back h'.ev
 M x j cf hm:=h.M x j cf (h'.M x j (aeh cf h.ev.size) hm)
mutual
theorem az.ext {c c':Ctx} (h:Ext c c') {μ:Nat→Loc}:{v:Value}→(d:aj)→az c μ v d→az c' μ v d
 |_, .dead,h1=>h1
 |_, .kC,h1=>h1
 |_, .undef,h1=>h1
 |_, .b _,h1=>h1
 |_, .i _ _,h1=>h1
 |_, .s _,h1=>h1
 |_, .er _,h1=>h1
 |_, .kp n,h1=>by simp only [az] at h1 ⊢; rw [h.tok];exact h1
 |_, .ro e xs tk,h1=>by
  simp only [az] at h1 ⊢;exact ⟨Ty.eR (λb hb=>⟨h.S b hb,h.ev.S b hb⟩) _ h1.1,λk hk=>by rw [h.tok];exact h1.2 k hk⟩
 |_, .oR,h1=>h1
 |_, .dn id none,h1=>h1
 |_, .dn id (some (o,l)),h1=>h1
 |_, .vptr id off,h1=>h1
 |_, .kK id i off,h1=>h1
 |_, .Fe t x off,h1=>by
  simp only [az] at h1 ⊢;obtain ⟨b,o,hb,h1,h2⟩:=h1;refine ⟨b,o,h.S b hb, ?_,h2⟩;rw [fT (h.ev.S b hb)];exact Ty.eR (λb hb=>⟨h.S b hb,h.ev.S b hb⟩) _ h1
 |_, .agg ds,h1=>by simp only [az] at h1 ⊢; obtain ⟨vs,e,h1⟩:=h1;exact ⟨vs,e,ak.ext h ds h1⟩
 |_, .MH ds,h1=>by simp only [az] at h1 ⊢; obtain ⟨vs,e,h1⟩:=h1;exact ⟨vs,e,ak.ext h ds h1⟩
 |_, .fn f ds,h1=>by simp only [az] at h1 ⊢; obtain ⟨vs,e,h1⟩:=h1;exact ⟨vs,e,ak.ext h ds h1⟩
theorem ak.ext {c c':Ctx} (h:Ext c c') {μ:Nat→Loc}:{vs:List Value}→(ds:List aj)→ak c μ vs ds→ak c' μ vs ds
 |_,[],h1=>h1
 |_,d::ds,h1=>by
  simp only [ak] at h1 ⊢; obtain ⟨v,bg,e,h1,h2⟩:=h1;exact ⟨v,bg,e,az.ext h d h1,ak.ext h ds h2⟩
end
def Ctx.next (c:Ctx) (w:World) (S':Nat→Prop) (vB:Ie S' w):Ctx where
 P:=c.P
 S:=S'
 w0:=w
 M:=λb j=>c.M b j∨c.w0.heap.size≤b
 tok:=c.tok
 loc:=c.loc
 hS:=vB
theorem Ext.next {c:Ctx} {w:World} {S':Nat→Prop} {vB:Ie S' w} (ev:Ev c w) (h:∀ b,c.S b→S' b) (h':∀ b,S' b→c.S b∨c.w0.heap.size≤b∨∀ j,c.M b j):Ext c (c.next w S' vB) where
 P:=rfl
 tok:=rfl
 loc:=rfl
 S:=h
 new:=h'
 ev:=ev
 M b j cf hm:=by
   rcases hm with hm|hm
   . exact hm
   . omega
theorem Ext.fz {c c':Ctx} (h:Ext c c'):c.fz.le c'.fz:=λb hb=>⟨h.S b hb,h.ev.S b hb⟩
theorem NZ.mono {z z':Fz} (hz:z.le z') {w:World} {a:Option Addr} {cap:Nat} {e:Ty} {xs:List e.D} {i off:Nat} {u:Ty} {h:Loc} {fp:List Nat} (hw:NZ z w a cap e xs i off u h fp):NZ z' w a cap e xs i off u h fp:=by
 obtain ⟨a',qK,lJ,e',b,o,C,E,h1,h2,h3,h4,h5,h6,h7⟩:=hw;exact ⟨a',qK,lJ,e',b,o,C,E,h1,h2,h3,h4,h5,h6,λz'' w'' C' hd ys fp' q=>h7 z'' w'' C' hd ys fp' (Fz.le_trans hz q)⟩
theorem cR.next {c:Ctx} {μ:Nat→Loc} {w w1:World} {S':Nat→Prop} {vB:Ie S' w1} (e:Ext c (c.next w1 S' vB)) {id:Nat} {f:List Nat} {x:bV} (h1:cR c μ w id f x):cR (c.next w1 S' vB) μ w id f x:=by
 have hM:∀ b j,(b<c.w0.heap.size→c.M b j)→(c.next w1 S' vB).M b j:=λb j hb=>by
  rcases afw b c.w0.heap.size with cf|MI
  . exact .inl (hb cf)
  . exact .inr MI
 cases x with
 |var cs=>
  obtain ⟨B,o,C,E,h1,h2,h3,h4,h5,h6,h7⟩:=h1;exact ⟨B,o,C,E,h1,h2,h3,h4,ak.ext e cs h5,h6,λ_ j hj=>hM B (o+j) λcf=>h7 cf j hj⟩
 |arr el xs=>
  obtain ⟨a,cap,h1,h2,h3⟩:=h1;exact ⟨a,cap,h1,Ty.dI e.fz _ h2,λb hb _ j=>hM b j λcf=>h3 b hb cf j⟩
 |Ea el xs x i off u eD=>
  obtain ⟨a,cap,h1,h2,h3,h4⟩:=h1;exact ⟨a,cap,h1,h2.mono e.fz,λb hb _ j=>hM b j λcf=>h3 b hb cf j,h4⟩
 |it s p=>
  obtain ⟨B,h1,h2,h3,h4,h5⟩:=h1;exact ⟨B,h1,h2,h3,h4,λ_=>hM B 0 h5⟩
 |cut el ys k=>
  obtain ⟨a,cap,a',h1,h2,h3,h4,h5,h6⟩:=h1;exact ⟨a,cap,a',h1,h2,h3,h4,Ty.dI e.fz _ h5,λb hb _ j=>hM b j λcf=>h6 b hb cf j⟩
 |xN el xs i cs=>
  obtain ⟨a,cap,b,o,C,E,p,q,h1,h2,h3,h4,h5,h6,h7,h8,h9,h10,h11,h13,h12⟩:=h1;exact ⟨a,cap,b,o,C,E,p,q,h1,h2,h3,h4,h5,h6,h7,h8.frame e.fz (λ_ _=>rfl) rfl λ_ _=>rfl,ak.ext e cs h9,h10,h11,h13,λb hb _ j=>hM b j λcf=>h12 b hb cf j⟩
theorem dq.next {c:Ctx} {μ:Nat→Loc} {fp:Nat→List Nat} {v:Env} {w w1:World} {S':Nat→Prop} {vB:Ie S' w1} (e:Ext c (c.next w1 S' vB)) (h:dq c μ fp v w) (hn:∀ id,v id≠none→∀ b∈fp id,¬ S' b):
  dq (c.next w1 S' vB) μ fp v w where
 rel id x hx:=(h.rel id x hx).next e
 nodup:=h.nodup
 sep:=h.sep
 kL:=hn
 lt:=h.lt
structure rj (s:mU):Prop where
 t:∀ j,∀ id∈(s.t j).ids,s.k id
 v:∀ id x,s.v id=some x→s.k id∧∀ eD∈x.ids,s.k eD
structure js (c:Ctx) (μ:Nat→Loc) (fp:Nat→List Nat) (s:mU) (n:Nat) (a:Act) (w:World):Prop where
 tm:∀ j,az c μ (a.tmps.getD j Go.undef) (s.t j)
 n:n≤a.tmps.size
 defers:a.defers=[]
 vs:dq c μ fp s.v w
 known:rj s
 ev:Ev c w
 fix:∀ id,id<64→s.k id∧μ id=c.loc id
theorem FA (w:World) (C:Array Value) (E:TypeId) (a:Addr):(w.alloc (.cells C E)).frozen? a=w.frozen? a:=by
 rcases Nat.lt_trichotomy a.block w.heap.size with h|h|h
 . simp only [World.frozen?]
   rw [heap_alloc_old w _ a.block h]
 . simp only [World.frozen?]
   have e2:w.heap[a.block]? =none:=by rw [h];simp
   have e1:(w.alloc (.cells C E)).heap[a.block]? =some (.cells C E (0,0)):=by rw [h];exact heap_alloc_new w _
   rw [e1,e2];simp
 . simp only [World.frozen?]
   have e2:w.heap[a.block]? =none:=by simp;omega
   have e1:(w.alloc (.cells C E)).heap[a.block]? =none:=by simp;omega
   rw [e1,e2]
theorem El {w:World} {b:Nat} {C C':Array Value} {E:TypeId} (hb:w.heap[b]? =some (.cells C E (0,0))) (a:Addr):(w.setRow b C').frozen? a=w.frozen? a:=by
 simp only [World.frozen?];by_cases h:a.block=b
 . rw [h,setRow_heap w b C C' E (0,0) hb,hb]
 . rw [setRow_other w b a.block C' h]
theorem Ev.alloc {c:Ctx} {w:World} (h:Ev c w) (C:Array Value) (E:TypeId):Ev c (w.alloc (.cells C E)) where
 size:=by simp;have:=h.size;omega
 os:=h.os
 output:=h.output
 S b hb:=by
   have:=c.hS.1 b hb;have:=h.size;rw [heap_alloc_old w _ b (by omega)];exact h.S b hb
 Fy b hb:=by
  have:=h.size;rw [heap_alloc_old w _ b (by omega)];exact h.Fy b hb
 frozen a ha:=(FA w C E a).trans (h.frozen a ha)
theorem Ev.drew {c:Ctx} {w:World} (h:Ev c w):Ev c w.drew:=⟨h.size,h.os,h.output,h.S,h.Fy,h.frozen⟩
theorem Ev.setRow {c:Ctx} {w:World} (h:Ev c w) {b:Nat} {C C':Array Value} {E:TypeId} (hb:w.heap[b]? =some (.cells C E (0,0))) (hs:¬ c.S b)
  (hz:C'.size=C.size) (hm:b<c.w0.heap.size→∀ j,¬ c.M b j→C'[j]? =C[j]?):Ev c (w.setRow b C') where
 size:=by simp;exact h.size
 os:=h.os
 output:=h.output
 S b' cE:=by
   have:b'≠b:=λe=>hs (e ▸ cE);rw [setRow_other w b b' C' this];exact h.S b' cE
 Fy b' cE:=by
  by_cases e:b'=b
  . subst e
    rw [setRow_heap w b' C C' E (0,0) hb];rcases h.Fy b' cE with h1|⟨C0,C1,E1,h0,h1,h2,h3⟩|⟨_,_,_,_,_,h1⟩
    . exact .inr (.inl ⟨C,C',E,by rw [← h1,hb],rfl,hz,hm cE⟩)
    . rw [hb] at h1;cases h1
      exact .inr (.inl ⟨C0,C',E,h0,rfl,hz.trans h2,λj hj=>(hm cE j hj).trans (h3 j hj)⟩)
    . rw [hb] at h1;cases h1
  . rw [setRow_other w b b' C' e];exact h.Fy b' cE
 frozen a ha:=(El hb a).trans (h.frozen a ha)
theorem cM {w:World} {b:Nat} {C:Array Value} {E:TypeId} {fr:Nat×Nat} (h:w.heap[b]? =some (.cells C E fr)) (o n:Nat):aK w b o n=(C.toList.drop o).take n:=by
 simp [aK,h]
theorem NZ.frame {w w':World} {a:Option Addr} {cap:Nat} {e:Ty} {xs:List e.D} {i off:Nat} {u:Ty} {h:Loc} {fp:List Nat}
  (hw:NZ z w a cap e xs i off u h fp) (hs:∀ b∈fp,w'.heap[b]? =w.heap[b]?):NZ z w' a cap e xs i off u h fp:=by
 obtain ⟨a',qK,lJ,e',b,o,C,E,h1,h2,h3,h4,h5,h6,h7⟩:=hw;exact ⟨a',qK,lJ,e',b,o,C,E,h1,h2,h3,h4,(hs b h4).trans h5,h6,λz'' w'' C' hd ys fp' q0 q1 q2 q3 q4 q5=>h7 z'' w'' C' hd ys fp' q0 q1 q2 q3 q4 λb' hb fE=>(q5 b' hb fE).trans (hs b' hb)⟩
theorem cR.frame {c:Ctx} {μ μ':Nat→Loc} {w w':World} {id:Nat} {fp:List Nat} {x:bV} (h:cR c μ w id fp x)
  (hs:∀ b∈fp,w'.heap[b]? =w.heap[b]?) (GR:μ' id=μ id) (hi:∀ eD∈x.ids,μ' eD=μ eD):cR c μ' w' id fp x:=by
 cases x with
 |var cs=>
  obtain ⟨B,o,C,E,h1,rfl,h2,h3,h4,h5,h6⟩:=h;refine ⟨B,o,C,E,GR.trans h1,rfl,(hs B (by simp)).trans h2,h3, ?_,h5,h6⟩;rw [fT (hs B (by simp))];exact ak.mono cs hi h4
 |arr e xs=>
  obtain ⟨a,cap,h1,h2,h3⟩:=h;exact ⟨a,cap,GR.trans h1,Ty.ep _ h2 hs,h3⟩
 |Ea e xs x i off u eD=>
  obtain ⟨a,cap,h1,h2,h3,h4⟩:=h;refine ⟨a,cap,GR.trans h1, ?_,h3,h4⟩;rw [hi eD (by simp [bV.ids])];exact h2.frame hs
 |it s p=>
  obtain ⟨B,h1,rfl,h2,h3,h4⟩:=h;exact ⟨B,GR.trans h1,rfl,(hs B (by simp)).trans h2,h3,h4⟩
 |cut e ys k=>
  obtain ⟨a,cap,a',h1,h2,h3,h4,h5,h6⟩:=h;exact ⟨a,cap,a',GR.trans h1,h2,h3,h4,Ty.ep _ h5 hs,h6⟩
 |xN e xs i cs=>
  obtain ⟨a,cap,b,o,C,E,p,q,h1,h2,rfl,h4,h5,h6,h7,h8,h9,h10,h11,h13,h12⟩:=h;refine ⟨a,cap,b,o,C,E,p,q,GR.trans h1,h2,rfl,(hs b (by simp)).trans h4,h5,h6,h7,h8.frame (Fz.le_refl _) (λb' cE=>hs b' (ai9 _ cE)) rfl (λ_ _=>rfl), ?_,h10,h11,h13,h12⟩;rw [fT (hs b (by simp))];exact ak.mono cs hi h9
theorem dq.frame {c:Ctx} {μ μ':Nat→Loc} {fp:Nat→List Nat} {v:Env} {w w':World} (h:dq c μ fp v w) (hz:w.heap.size≤w'.heap.size)
  (hs:∀ id,v id≠none→∀ b∈fp id,w'.heap[b]? =w.heap[b]?) (GR:∀ id x,v id=some x→μ' id=μ id∧∀ eD∈x.ids,μ' eD=μ eD):dq c μ' fp v w' where
 rel id x hx:=(h.rel id x hx).frame (hs id (by simp [hx])) (GR id x hx).1 (GR id x hx).2
 nodup:=h.nodup
 sep:=h.sep
 kL:=h.kL
 lt id hx b hb:=aeh (h.lt id hx b hb) hz
end
section
open Go
variable {z:Fz}
mutual
theorem Ty.beq_refl:(t:Ty)→t.beq t=true
 | .bool=>rfl
 | .int _=>by simp [Ty.beq]
 | .str=>rfl
 | .hole=>rfl
 | .sl e=>by simp only [Ty.beq];exact Ty.beq_refl e
 | .fz e=>by simp only [Ty.beq];exact Ty.beq_refl e
 | .st fs=>by simp only [Ty.beq];exact aO.beq_refl fs
theorem aO.beq_refl:(t:aO)→t.beq t=true
 | .nil=>rfl
 | .cons t ts=>by simp_all [aO.beq,Ty.beq_refl,aO.beq_refl]
end
theorem Ty.fv (t:Ty) (x:t.D):Ty.cast t t x=some x:=by simp_all [Ty.cast,Ty.beq_refl]
def apv (z:Fz) (w:World) (t:Ty) (cs:List Value) (x:t.D) (fp:List Nat) (off:Nat) (u:Ty) (y:u.D):Prop:=
 ∃ pre yv post f1 fm f2,cs=pre++yv++post∧pre.length=off∧fp=f1++fm++f2∧u.aC z w yv y fm∧
   ∀ (z':Fz) (w':World) (zW:List Value) (y':u.D) (RH:List Nat),z.le z'→(∀ b∈f1++f2,w'.heap[b]? =w.heap[b]?)→u.aC z' w' zW y' RH→
     ∃ x',t.cP x off u y'=some x'∧t.aC z' w' (pre++zW++post) x' (f1++RH++f2)
def apw (z:Fz) (w:World) (t:aO) (cs:List Value) (x:t.D) (fp:List Nat) (off:Nat) (u:Ty) (y:u.D):Prop:=
 ∃ pre yv post f1 fm f2,cs=pre++yv++post∧pre.length=off∧fp=f1++fm++f2∧u.aC z w yv y fm∧
   ∀ (z':Fz) (w':World) (zW:List Value) (y':u.D) (RH:List Nat),z.le z'→(∀ b∈f1++f2,w'.heap[b]? =w.heap[b]?)→u.aC z' w' zW y' RH→
     ∃ x',t.cP x off u y'=some x'∧t.aC z' w' (pre++zW++post) x' (f1++RH++f2)
theorem kr {w:World} {t:Ty} {cs:List Value} {x:t.D} {fp:List Nat} {u:Ty} {y:u.D} (h:t.aC z w cs x fp) (hc:Ty.cast t u x=some y)
  (KQ:∀ y',t.cP x 0 t y'=some y'):apv z w t cs x fp 0 u y:=by
 obtain ⟨rfl,rfl⟩:=Ty.dU hc;refine ⟨[],cs,[],[],fp,[],by simp,rfl,by simp,h,by grind⟩
mutual
theorem Ty.mV {w:World}:(t:Ty)→{cs:List Value}→{x:t.D}→{fp:List Nat}→{off:Nat}→{u:Ty}→{y:u.D}→t.aC z w cs x fp→t.cL x off u=some y→apv z w t cs x fp off u y
 | .bool,_,x,_,off,u,_,h,hg=>by grind [Ty.cL,kr,Ty.cP,Ty.fv]
 | .int _,_,x,_,off,u,_,h,hg=>by grind [Ty.cL,kr,Ty.cP,Ty.fv]
 | .str,_,x,_,off,u,_,h,hg=>by grind [Ty.cL,kr,Ty.cP,Ty.fv]
 | .hole,_,x,_,off,u,_,h,hg=>by grind [Ty.cL,kr,Ty.cP,Ty.fv]
 | .sl _,_,x,_,off,u,_,h,hg=>by grind [Ty.cL,kr,Ty.cP,Ty.fv]
 | .fz _,_,x,_,off,u,_,h,hg=>by grind [Ty.cL,kr,Ty.cP,Ty.fv]
 | .st fs,cs,x,fp,off,u,y,h,hg=>by
   simp only [Ty.cL] at hg;split at hg
   . rename_i h0
     obtain ⟨rfl,hb⟩:=h0;exact kr h hg λy'=>by simp [Ty.cP,Ty.beq_refl,Ty.fv]
   . rename_i h0
     have h':fs.aC z w cs x fp:=by grind [Ty.aC]
     obtain ⟨pre,yv,post,f1,fm,f2,h1,h2,h3,h4,h5⟩:=aO.mV fs h' hg;refine ⟨pre,yv,post,f1,fm,f2,h1,h2,h3,h4,λz' w' zW y' RH hz hs hr=> ?_⟩;obtain ⟨x',hx,LG⟩:=h5 z' w' zW y' RH hz hs hr;refine ⟨x', ?_,by grind [Ty.aC]⟩;have:¬ (off=0∧u.beq (.st fs)=true):=by grind [Ty.beq_eq,Ty.beq_refl]
     simp only [Ty.cP,this];exact hx
theorem aO.mV {w:World}:(t:aO)→{cs:List Value}→{x:t.D}→{fp:List Nat}→{off:Nat}→{u:Ty}→{y:u.D}→t.aC z w cs x fp→t.cL x off u=some y→apw z w t cs x fp off u y
 | .nil,_,_,_,_,_,_,_,hg=>by grind [aO.cL]
 | .cons t ts,_,x,_,off,u,y,h,hg=>by
   simp only [aO.aC] at h;obtain ⟨c1,c2,g1,g2,rfl,rfl,hr1,Sl⟩:=h;simp only [aO.cL] at hg;split at hg
   . rename_i cf
     obtain ⟨pre,yv,post,f1,fm,f2,rfl,h2,rfl,h4,h5⟩:=Ty.mV t hr1 hg;refine ⟨pre,yv,post++c2,f1,fm,f2++g2,by simp,h2,by simp,h4,λz' w' zW y' RH hz hs hr=> ?_⟩;obtain ⟨x',hx,LG⟩:=h5 z' w' zW y' RH hz (λb hb=>hs b (by simp at hb ⊢; rcases hb with h|h<;>simp [h])) hr;refine ⟨(x',x.2),by simp only [aO.cP,cf,agm,hx];rfl, ?_⟩;simp only [aO.aC];exact ⟨pre++zW++post,c2,f1++RH++f2,g2,by simp,by simp,LG,by grind [aO.dI,aO.ep]⟩
   . rename_i cf
     obtain ⟨pre,yv,post,f1,fm,f2,rfl,h2,rfl,h4,h5⟩:=aO.mV ts Sl hg;have hl:=Ty.fW t hr1;refine ⟨c1++pre,yv,post,g1++f1,fm,f2,by simp,by grind,by simp,h4,λz' w' zW y' RH hz hs hr=> ?_⟩;obtain ⟨x',hx,LG⟩:=h5 z' w' zW y' RH hz (λb hb=>hs b (by simp at hb ⊢; rcases hb with h|h<;>simp [h])) hr;refine ⟨(x.1,x'),by simp only [aO.cP,cf,if_false,hx];rfl, ?_⟩;simp only [aO.aC];exact ⟨c1,pre++zW++post,g1,f1++RH++f2,by simp,by simp,by grind [Ty.dI,Ty.ep],LG⟩
end
mutual
theorem Ty.j8:(t:Ty)→{x:t.D}→{off:Nat}→{u:Ty}→{y:u.D}→{x':t.D}→t.cP x off u y=some x'→∃ z,t.cL x off u=some z
 | .bool,x,off,u,y,x',h=>by
   simp only [Ty.cP] at h;split at h
   . rename_i h0;obtain ⟨rfl,_⟩:=Ty.dU h;grind [Ty.cL,Ty.fv]
   . simp at h
 | .int _,x,off,u,y,x',h=>by
   simp only [Ty.cP] at h;split at h
   . rename_i h0;obtain ⟨rfl,_⟩:=Ty.dU h;grind [Ty.cL,Ty.fv]
   . simp at h
 | .str,x,off,u,y,x',h=>by
   simp only [Ty.cP] at h;split at h
   . rename_i h0;obtain ⟨rfl,_⟩:=Ty.dU h;grind [Ty.cL,Ty.fv]
   . simp at h
 | .hole,x,off,u,y,x',h=>by
   simp only [Ty.cP] at h;split at h
   . rename_i h0;obtain ⟨rfl,_⟩:=Ty.dU h;grind [Ty.cL,Ty.fv]
   . simp at h
 | .sl _,x,off,u,y,x',h=>by
   simp only [Ty.cP] at h;split at h
   . rename_i h0;obtain ⟨rfl,_⟩:=Ty.dU h;grind [Ty.cL,Ty.fv]
   . simp at h
 | .fz _,x,off,u,y,x',h=>by
   simp only [Ty.cP] at h;split at h
   . rename_i h0;obtain ⟨rfl,_⟩:=Ty.dU h;grind [Ty.cL,Ty.fv]
   . simp at h
 | .st fs,x,off,u,y,x',h=>by
   by_cases h0:off=0∧u.beq (Ty.st fs)=true
   . have h:Ty.cast u (.st fs) y=some x':=(aaZ h0).symm.trans h
     obtain ⟨rfl,_⟩:=Ty.dU h;grind [Ty.cL,Ty.fv]
   . have h:fs.cP x off u y=some x':=(aae h0).symm.trans h
     obtain ⟨z,hz⟩:=aO.j8 fs h;have:¬ (off=0∧(Ty.st fs).beq u=true):=by grind [Ty.beq_eq,Ty.beq_refl]
     exact ⟨z,(aae this).trans hz⟩
theorem aO.j8:(t:aO)→{x:t.D}→{off:Nat}→{u:Ty}→{y:u.D}→{x':t.D}→t.cP x off u y=some x'→∃ z,t.cL x off u=some z
 | .nil,_,_,_,_,_,h=>by simp [aO.cP] at h
 | .cons t ts,x,off,u,y,x',h=>by
   simp only [aO.cP] at h;split at h
   . rename_i cf
     cases hx:t.cP x.1 off u y with
     |none=>rw [hx] at h;cases h
     |some z=>obtain ⟨q,hq⟩:=Ty.j8 t hx;exact ⟨q,by simp [aO.cL,cf,hq]⟩
   . rename_i cf
     cases hx:ts.cP x.2 (off - t.size) u y with
     |none=>rw [hx] at h;cases h
     |some z=>obtain ⟨q,hq⟩:=aO.j8 ts hx;exact ⟨q,by simp [aO.cL,cf,hq]⟩
end
/- The same for what is only read. -/
mutual
theorem Ty.sv {S:Nat→Prop} {w:World}:(t:Ty)→{cs:List Value}→{x:t.D}→{off:Nat}→{u:Ty}→{y:u.D}→t.aT S w cs x→t.cL x off u=some y→
  ∃ pre yv post,cs=pre++yv++post∧pre.length=off∧u.aT S w yv y
 | .bool,cs,x,off,u,_,h,hg=>by
   simp only [Ty.cL] at hg;split at hg
   . rename_i h0;obtain ⟨rfl,rfl⟩:=Ty.dU hg;exact ⟨[],cs,[],by simp,h0.symm,h⟩
   . simp at hg
 | .int _,cs,x,off,u,_,h,hg=>by
   simp only [Ty.cL] at hg;split at hg
   . rename_i h0;obtain ⟨rfl,rfl⟩:=Ty.dU hg;exact ⟨[],cs,[],by simp,h0.symm,h⟩
   . simp at hg
 | .str,cs,x,off,u,_,h,hg=>by
   simp only [Ty.cL] at hg;split at hg
   . rename_i h0;obtain ⟨rfl,rfl⟩:=Ty.dU hg;exact ⟨[],cs,[],by simp,h0.symm,h⟩
   . simp at hg
 | .hole,cs,x,off,u,_,h,hg=>by
   simp only [Ty.cL] at hg;split at hg
   . rename_i h0;obtain ⟨rfl,rfl⟩:=Ty.dU hg;exact ⟨[],cs,[],by simp,h0.symm,h⟩
   . simp at hg
 | .sl _,cs,x,off,u,_,h,hg=>by
   simp only [Ty.cL] at hg;split at hg
   . rename_i h0;obtain ⟨rfl,rfl⟩:=Ty.dU hg;exact ⟨[],cs,[],by simp,h0.symm,h⟩
   . simp at hg
 | .fz _,cs,x,off,u,_,h,hg=>by
   simp only [Ty.cL] at hg;split at hg
   . rename_i h0;obtain ⟨rfl,rfl⟩:=Ty.dU hg;exact ⟨[],cs,[],by simp,h0.symm,h⟩
   . simp at hg
 | .st fs,cs,x,off,u,y,h,hg=>by
   simp only [Ty.cL] at hg;split at hg
   . rename_i h0;obtain ⟨rfl,rfl⟩:=Ty.dU hg;exact ⟨[],cs,[],by simp,h0.1.symm,h⟩
   . have h':fs.aT S w cs x:=by simpa only [Ty.aT] using h
     exact aO.sv fs h' hg
theorem aO.sv {S:Nat→Prop} {w:World}:(t:aO)→{cs:List Value}→{x:t.D}→{off:Nat}→{u:Ty}→{y:u.D}→t.aT S w cs x→t.cL x off u=some y→
  ∃ pre yv post,cs=pre++yv++post∧pre.length=off∧u.aT S w yv y
 | .nil,_,_,_,_,_,_,hg=>by grind [aO.cL]
 | .cons t ts,_,x,off,u,y,h,hg=>by
   simp only [aO.aT] at h;obtain ⟨c1,c2,rfl,hr1,Sl⟩:=h;simp only [aO.cL] at hg;split at hg
   . obtain ⟨pre,yv,post,rfl,h2,h4⟩:=Ty.sv t hr1 hg
     grind
   . rename_i cf
     obtain ⟨pre,yv,post,rfl,h2,h4⟩:=aO.sv ts Sl hg;grind [Ty.lI]
end
mutual
theorem Ty.pC {c:Ctx} {μ:Nat→Loc}:(t:Ty)→{cs:List Value}→{x:t.D}→t.aT c.S c.w0 cs x→ak c μ cs (t.kD x)
 | .bool,cs,x,h=>by grind [Ty.aT,Ty.kD,ak,az]
 | .int _,cs,x,h=>by grind [Ty.aT,Ty.kD,ak,az]
 | .str,cs,x,h=>by grind [Ty.aT,Ty.kD,ak,az]
 | .hole,cs,x,h=>by simp only [Ty.aT] at h;obtain ⟨v,rfl,hv⟩:=h;simpa [Ty.kD,ak,az] using hv
 | .sl e,cs,x,h=>by
   have h':=h;simp only [Ty.aT] at h;obtain ⟨a,cap,rfl,_⟩:=h;simp only [Ty.kD,ak];exact ⟨_,[],rfl,by simp only [az];exact ⟨h',by simp⟩,rfl⟩
 | .fz e,cs,x,h=>by
   have h':=kZ.1 h;simp only [Ty.aT] at h;obtain ⟨a,cap,rfl,_⟩:=h;simp only [Ty.kD,ak];exact ⟨_,[],rfl,by simp only [az];exact ⟨h',by simp⟩,rfl⟩
 | .st fs,cs,x,h=>by simp only [Ty.kD];exact aO.pC fs (by simpa only [Ty.aT] using h)
theorem aO.pC {c:Ctx} {μ:Nat→Loc}:(t:aO)→{cs:List Value}→{x:t.D}→t.aT c.S c.w0 cs x→ak c μ cs (t.kD x)
 | .nil,cs,x,h=>by grind [aO.aT,aO.kD,ak]
 | .cons t ts,cs,x,h=>by
   simp only [aO.aT] at h;obtain ⟨c1,c2,rfl,h1,h2⟩:=h;simp only [aO.kD];exact (Ty.pC t h1).append (aO.pC ts h2)
end
mutual
theorem Ty.pD {c:Ctx} {μ:Nat→Loc} {w:World}:(t:Ty)→{cs:List Value}→{x:t.D}→{fp:List Nat}→t.aC c.fz w cs x fp→ak c μ cs (t.kE x)
 | .bool,cs,x,_,h=>by grind [Ty.aC,Ty.kE,ak,az]
 | .int _,cs,x,_,h=>by grind [Ty.aC,Ty.kE,ak,az]
 | .str,cs,x,_,h=>by grind [Ty.aC,Ty.kE,ak,az]
 | .hole,cs,x,_,h=>by simp only [Ty.aC] at h;obtain ⟨⟨v,rfl,hv⟩,_⟩:=h;simpa [Ty.kE,ak,az] using hv
 | .sl e,cs,x,_,h=>by
   simp only [Ty.aC] at h;obtain ⟨a,cap,rfl,_⟩:=h;simp only [Ty.kE,ak];exact ⟨_,[],rfl,by simp only [az];rfl,rfl⟩
 | .fz e,cs,x,_,h=>by
   have h:=(show _∧_ by simpa only [Ty.aC] using h).1;have h':=kZ.1 h;simp only [Ty.aT] at h;obtain ⟨a,cap,rfl,_⟩:=h;simp only [Ty.kE,ak];exact ⟨_,[],rfl,by simp only [az];exact ⟨h',by simp⟩,rfl⟩
 | .st fs,cs,x,_,h=>by simp only [Ty.kE];exact aO.pD fs (by simpa only [Ty.aC] using h)
theorem aO.pD {c:Ctx} {μ:Nat→Loc} {w:World}:(t:aO)→{cs:List Value}→{x:t.D}→{fp:List Nat}→t.aC c.fz w cs x fp→ak c μ cs (t.kE x)
 | .nil,cs,x,_,h=>by grind [aO.aC,aO.kE,ak]
 | .cons t ts,cs,x,_,h=>by
   simp only [aO.aC] at h;obtain ⟨c1,c2,f1,f2,rfl,rfl,h1,h2⟩:=h;simp only [aO.kE];exact (Ty.pD t h1).append (aO.pD ts h2)
end
theorem FB {α:Type} (l:List (List α)) (i:Nat) (h:i<l.length):l.flatten=(l.take i).flatten++l[i]++(l.drop (i+1)).flatten:=by grind [List.take_append_drop,List.flatten_append,List.drop_eq_getElem_cons,List.flatten_cons,List.append_assoc]
theorem LM {α:Type} (l:List (List α)) (o n:Nat):(((l.drop o).take n).flatten).Sublist l.flatten:=by
 have e:l.flatten=(l.take o).flatten++(((l.drop o).take n).flatten++((l.drop o).drop n).flatten):=by grind [List.flatten_append,List.take_append_drop]
 grind
theorem zX {w:World} {e:Ty} {a:Option Addr} {cap:Nat} {xs:List e.D} {fp:List Nat} (h:(Ty.sl e).aC z w [.slice a xs.length cap] xs fp) {i:Nat} {x:e.D} (hx:xs[i]? =some x):
  ∃ b o C E p fi q,a=some ⟨b,o,none⟩∧w.heap[b]? =some (.cells C E (0,0))∧o+cap*e.size≤C.size∧xs.length≤cap∧fp=b::(p++fi++q)∧
    e.aC z w (aK w b (o+i*e.size) e.size) x fi∧
    ∀ (z':Fz) (w':World) (x':e.D) (MF:List Nat) (C':Array Value),z.le z'→w'.heap[b]? =some (.cells C' E (0,0))→C'.size=C.size→
      (∀ j,j<o+i*e.size∨o+(i+1)*e.size≤j→C'[j]? =C[j]?)→(∀ b'∈p++q,w'.heap[b']? =w.heap[b']?)→b ∉ p++q→
      e.aC z' w' (aK w' b (o+i*e.size) e.size) x' MF→(Ty.sl e).aC z' w' [.slice a xs.length cap] (xs.set i x') (b::(p++MF++q)):=by
 have cf:i<xs.length:=(by grind)
 simp only [Ty.aC] at h;obtain ⟨a',lJ,he,hc,h⟩:=h;cases he;rcases h with ⟨h0,_⟩|⟨b,o,C,E,fps,ha,hb,ho,hl,hf,hi⟩
 . omega
 have hif:i<fps.length:=by omega
 have mr:fps=fps.take i++fps[i]::fps.drop (i+1):=by simp_all
 refine ⟨b,o,C,E,(fps.take i).flatten,fps[i],(fps.drop (i+1)).flatten,ha,hb,ho,hc.1, ?_,by grind, ?_⟩
 . grind
 intro z' w' x' MF C' hzz cE hz xV Yd hnb hr;simp only [Ty.aC];refine ⟨a,cap,by simp,by simpa using hc, .inr ⟨b,o,C',E,fps.set i MF,ha,cE,by omega,by simpa using hl, ?_, ?_⟩⟩
 . grind
 intro j y f hy hfj;by_cases hj:j=i
 . grind
 . have JJ:(xs.set i x')[j]? =some y:=hy
   have hf0:(fps.set i MF)[j]? =some f:=hfj;have yr:xs[j]? =some y:=by grind
   have MB:fps[j]? =some f:=by grind
   have hjl:j<fps.length:=(by grind)
   have LN:∀ b'∈f,b'∈(fps.take i).flatten++(fps.drop (i+1)).flatten:=by
    intro b' cE;have hfe:fps[j]=f:=(by grind)
    simp only [adE,alB];grind
   have Ye:aK w' b (o+j*e.size) e.size=aK w b (o+j*e.size) e.size:=by
    rw [cM cE,cM hb];apply ae8;intro k;by_cases hk:k<e.size
    . rw [aeb hk,aeb hk,ad5,ad5,aeD,aeD]
      apply xV;rcases afw j i with h|h
      . left
        have:(j+1)*e.size≤i*e.size:=aek _ h;grind
      . right
        have:(i+1)*e.size≤j*e.size:=aek _ (by omega);omega
    grind
   grind [Ty.dI,Ty.ep]
theorem RI {S:Nat→Prop} {w:World} {e:Ty} {v:Value} {xs:List e.D} (h:(Ty.sl e).aT S w [v] xs) {i:Nat} {x:e.D} (hx:xs[i]? =some x):
  ∃ b o cap,v= .slice (some ⟨b,o,none⟩) xs.length cap∧S b∧e.aT S w (aK w b (o+i*e.size) e.size) x:=by
 simp only [Ty.aT] at h;grind
theorem LO {S:Nat→Prop} {w:World} {e:Ty} {a:Option Addr} {n cap:Nat} {xs:List e.D} (h:(Ty.sl e).aT S w [.slice a n cap] xs) {o l:Nat} (hl:o+l≤n) {a':Option Addr}
  (ha:cap - o=0∨∃ b o',a=some ⟨b,o',none⟩∧a'=some ⟨b,o'+o*e.size,none⟩):(Ty.sl e).aT S w [.slice a' l (cap - o)] ((xs.drop o).take l):=by
 simp only [Ty.aT] at h ⊢;obtain ⟨a0,ac6,he,hc,h⟩:=h;cases he;have hlen:((xs.drop o).take l).length=l:=by simp;omega
 refine ⟨a',cap - o,by rw [hlen],by grind, ?_⟩;grind
theorem Yf {w:World} {e:Ty} {a:Option Addr} {n cap:Nat} {xs:List e.D} {fp:List Nat} (h:(Ty.sl e).aC z w [.slice a n cap] xs fp) {o l:Nat} (hl:o+l≤n) {a':Option Addr}
  (ha:cap - o=0∨∃ b o',a=some ⟨b,o',none⟩∧a'=some ⟨b,o'+o*e.size,none⟩):
  ∃ fp',(Ty.sl e).aC z w [.slice a' l (cap - o)] ((xs.drop o).take l) fp'∧(fp.Nodup→fp'.Nodup)∧∀ b∈fp',b∈fp:=by
 simp only [Ty.aC] at h;obtain ⟨a0,ac6,he,hc,h⟩:=h;cases he;have hlen:((xs.drop o).take l).length=l:=by simp;omega
 by_cases h0:cap - o=0
 . refine ⟨[], ?_,by simp,by simp⟩
   grind [Ty.aC]
 rcases ha with ha|⟨b',o',he,rfl⟩
 . omega
 rcases h with ⟨h1,_⟩|⟨b,o1,C,E,fps,ha,hb,ho,hlf,rfl,hi⟩
 . omega
 subst he;cases ha;refine ⟨b'::((fps.drop o).take l).flatten, ?_, ?_, ?_⟩
 . simp only [Ty.aC]
   refine ⟨_,cap - o,by rw [hlen],by grind, .inr ⟨b',o'+o*e.size,C,E,(fps.drop o).take l,rfl,hb, ?_,by simp;omega,by simp, ?_⟩⟩
   . rw [Nat.sub_mul]
     have:o*e.size≤cap*e.size:=aek _ (by omega);omega
   grind
 . grind [LM]
 . intro x hx
   simp only [adM,alB] at hx ⊢;grind
end
section
open Go
variable {z:Fz}
theorem lf {e e':Ty} {xs:List e'.D} {ys:List e.D} (h:Ty.cast (.sl e') (.sl e) xs=some ys):∃ he:e'=e,ys=he ▸ xs:=by
 unfold Ty.cast at h;grind
theorem sw (S:Nat→Prop) (w:World) (e:Ty) (a:Option Addr):(Ty.sl e).aT S w [.slice a 0 0] ([]:List e.D):=by
 simp only [Ty.aT];exact ⟨a,0,rfl,by grind, .inl rfl⟩
theorem xW (w:World) (e:Ty) (a:Option Addr):(Ty.sl e).aC z w [.slice a 0 0] ([]:List e.D) []:=by
 simp only [Ty.aC];exact ⟨a,0,rfl,⟨adK 0,afI _⟩, .inl ⟨rfl,trivial⟩⟩
section
variable {c:Ctx} {μ:Nat→Loc} {fp:Nat→List Nat} {v:Env} {w:World} {E:Env}
theorem dq.lK (h:dq c μ fp v w):∀ (ids:List Nat),ids.Nodup→(∀ id∈ids,v id≠none)→(ids.flatMap fp).Nodup
 |[],_,_=>by simp
 |id::ids,hn,hp=>by
  rw [aeP] at hn;rw [aez,ad1];obtain ⟨x,hx⟩:=Option.ne_none_iff_exists'.1 (hp id (by simp));refine ⟨h.nodup id x hx,h.lK ids hn.2 (by grind), ?_⟩;intro a ha b hb e;subst e;obtain ⟨i,hi,hm⟩:=List.mem_flatMap.1 hb;exact h.sep id i (by grind) (hp id (by simp)) (hp i (by simp [hi])) a ha hm
theorem Qr {ds:List aj} {r:Bool×List aj} (h:acZ ds=some r):ds= .b r.1::r.2:=by
 unfold acZ at h;grind
theorem Qs {k:IntKind} {ds:List aj} {r:Int×List aj} (h:ac0 k ds=some r):ds= .i k r.1::r.2:=by
 unfold ac0 at h;grind
theorem Yg {cs:List Value} {ds:List aj} {r:Unit×List aj} (hr:ak c μ cs ds) (h:als ds=some r):∃ x vs d,cs=x::vs∧ds=d::r.2∧d.bB=true∧az c μ x d∧ak c μ vs r.2:=by
 unfold als at h;split at h
 . rename_i d q
   split at h
   . rename_i hd
     cases h;simp only [ak] at hr;obtain ⟨x,vs,rfl,hx,hr⟩:=hr;exact ⟨x,vs,d,rfl,rfl,hd,hx,hr⟩
   . cases h
 . cases h
theorem Qt {ds:List aj} {r:List UInt8×List aj} (h:ac1 ds=some r):ds= .s r.1::r.2:=by
 unfold ac1 at h;grind
theorem LP {e:Ty} {cs:List Value} {ds:List aj} {r:List e.D×List aj} (hr:ak c μ cs ds) (h:XQ e ds=some r):
  ∃ x vs,cs=x::vs∧(Ty.sl e).aT c.S c.w0 [x] r.1∧ak c μ vs r.2:=by
 unfold XQ at h;split at h
 . cases h
   simp only [ak] at hr;obtain ⟨x,vs,rfl,hx,hr⟩:=hr;simp only [az] at hx;obtain ⟨a,rfl⟩:=hx;exact ⟨_,vs,rfl,sw c.S c.w0 e a,hr⟩
 . obtain ⟨y,hy,rfl⟩:=ST.1 h
   obtain ⟨he,JK⟩:=lf hy;clear hy h;subst he;simp only [ak] at hr;obtain ⟨x,vs,rfl,hx,hr⟩:=hr;simp only [az] at hx;grind
 . cases h
theorem Yh (h:∀ id x,v id=some x→cR c μ w id (fp id) x) (hE:∀ id x,E id=some x→v id=some x) {e:Ty} {cs:List Value} {ds:List aj} {r:List e.D×List aj×List Nat} (hr:ak c μ cs ds) (hf:alu E e ds=some r):
  ∃ x vs,cs=x::vs∧(Ty.sl e).aC c.fz w [x] r.1 (r.2.2.flatMap fp)∧ak c μ vs r.2.1∧aj.bO ds=r.2.2++aj.bO r.2.1∧(∀ k∈r.2.2,∃ e xs,E k=some (.arr e xs))∧(∀ b∈r.2.2.flatMap fp,b<c.w0.heap.size→∀ j,c.M b j):=by
 unfold alu at hf;split at hf
 . cases hf
   simp only [ak] at hr;obtain ⟨x,vs,rfl,hx,hr⟩:=hr;simp only [az] at hx;obtain ⟨a,rfl⟩:=hx;exact ⟨_,vs,rfl,xW w e a,hr,rfl,by simp,by simp⟩
 . rename_i id q
   split at hf
   . rename_i e' xs he
     obtain ⟨y,hy,rfl⟩:=ST.1 hf;obtain ⟨hee,JK⟩:=lf hy;clear hy hf;subst hee;simp only [ak] at hr;obtain ⟨x,vs,rfl,hx,hr⟩:=hr;simp only [az] at hx;obtain ⟨a,len,cap,sz,hm,rfl⟩:=hx;obtain ⟨a',lJ,pP,fc,Yi⟩:=h id _ (hE _ _ he);rw [pP] at hm;cases hm;exact ⟨_,vs,rfl,by grind,hr,rfl,by grind,by grind⟩
   . cases hf
 . cases hf
mutual
theorem Ty.pE (h:∀ id x,v id=some x→cR c μ w id (fp id) x) (hE:∀ id x,E id=some x→v id=some x):
  (t:Ty)→{cs:List Value}→{ds:List aj}→{r:t.D×List aj×List Nat}→ak c μ cs ds→t.xO E ds=some r→
   ∃ c1 c2,cs=c1++c2∧t.aC c.fz w c1 r.1 (r.2.2.flatMap fp)∧ak c μ c2 r.2.1∧aj.bO ds=r.2.2++aj.bO r.2.1∧(∀ k∈r.2.2,∃ e xs,E k=some (.arr e xs))∧(∀ b∈r.2.2.flatMap fp,b<c.w0.heap.size→∀ j,c.M b j)
 | .bool,cs,ds,r,hr,hf=>by
   obtain ⟨y,hy,rfl⟩:=ST.1 hf;rw [Qr hy] at hr ⊢;simp only [ak] at hr;obtain ⟨x,vs,rfl,hx,hr⟩:=hr;simp only [az] at hx;subst hx;exact ⟨[_],vs,rfl,by simp [Ty.aC],hr,rfl,by simp,by simp⟩
 | .int k,cs,ds,r,hr,hf=>by
   obtain ⟨y,hy,rfl⟩:=ST.1 hf;rw [Qs hy] at hr ⊢;simp only [ak] at hr;obtain ⟨x,vs,rfl,hx,hr⟩:=hr;simp only [az] at hx;subst hx;exact ⟨[_],vs,rfl,by simp [Ty.aC],hr,rfl,by simp,by simp⟩
 | .str,cs,ds,r,hr,hf=>by
   obtain ⟨y,hy,rfl⟩:=ST.1 hf;rw [Qt hy] at hr ⊢;simp only [ak] at hr;obtain ⟨x,vs,rfl,hx,hr⟩:=hr;simp only [az] at hx;exact ⟨[_],vs,rfl,by simp only [Ty.aC];exact ⟨by rw [hx.1],rfl,hx.2⟩,hr,rfl,by simp,by simp⟩
 | .hole,cs,ds,r,hr,hf=>by
   obtain ⟨y,hy,rfl⟩:=ST.1 hf;unfold apk at hy;split at hy
   . rename_i d q
     split at hy
     . rename_i hd
       cases hy;simp only [ak] at hr;obtain ⟨x,vs,rfl,hx,hr⟩:=hr;exact ⟨[x],vs,rfl,by simp only [Ty.aC];exact ⟨⟨x,rfl,hx.jG hd.1⟩,rfl⟩,hr,by grind [aj.bO],by simp,by simp⟩
     . cases hy
   . cases hy
 | .sl e,cs,ds,r,hr,hf=>by
   obtain ⟨x,vs,rfl,h1,h2,h3,h4,h5⟩:=Yh h hE hr hf;grind
 | .fz e,cs,ds,r,hr,hf=>by
   obtain ⟨y,hy,rfl⟩:=ST.1 hf;obtain ⟨x,vs,rfl,hx,LG⟩:=LP hr hy;refine ⟨[x],vs,rfl,by simp only [Ty.aC];exact ⟨kZ.2 hx,rfl⟩,LG, ?_,by simp,by simp⟩;unfold XQ at hy;split at hy
   . cases hy;rfl
   . obtain ⟨z,_,rfl⟩:=ST.1 hy;rfl
   . cases hy
 | .st fs,cs,ds,r,hr,hf=>by
   obtain ⟨c1,c2,h1,h2,h3⟩:=aO.pE h hE fs hr hf;grind [Ty.aC]
theorem aO.pE (h:∀ id x,v id=some x→cR c μ w id (fp id) x) (hE:∀ id x,E id=some x→v id=some x):
  (t:aO)→{cs:List Value}→{ds:List aj}→{r:t.D×List aj×List Nat}→ak c μ cs ds→t.xO E ds=some r→
   ∃ c1 c2,cs=c1++c2∧t.aC c.fz w c1 r.1 (r.2.2.flatMap fp)∧ak c μ c2 r.2.1∧aj.bO ds=r.2.2++aj.bO r.2.1∧(∀ k∈r.2.2,∃ e xs,E k=some (.arr e xs))∧(∀ b∈r.2.2.flatMap fp,b<c.w0.heap.size→∀ j,c.M b j)
 | .nil,cs,ds,r,hr,hf=>by
   simp only [aO.xO,adI] at hf;subst hf;exact ⟨[],cs,rfl,by simp [aO.aC],hr,rfl,by simp,by simp⟩
 | .cons t ts,cs,ds,r,hr,hf=>by
   unfold aO.xO at hf;obtain ⟨x,hx,hf⟩:=WP.1 hf;obtain ⟨y,hy,rfl⟩:=ST.1 hf;obtain ⟨c1,c2,rfl,h2,h3,h4,h5,h6⟩:=Ty.pE h hE t hr hx;obtain ⟨c3,c4,rfl,g2,g3,g4,g5,g6⟩:=aO.pE h hE ts h3 hy;refine ⟨c1++c3,c4,by simp, ?_,g3, ?_, ?_, ?_⟩
   . simp only [aO.aC,List.flatMap_append];exact ⟨c1,c3,_,_,rfl,rfl,h2,g2⟩
   . rw [h4,g4,adO]
   . intro k hk
     rcases adE.1 hk with hk|hk
     . exact h5 k hk
     . exact g5 k hk
   . intro b hb
     rw [List.flatMap_append,adE] at hb;rcases hb with hb|hb
     . exact h6 b hb
     . exact g6 b hb
end
theorem GS (b:Nat) (p fi q:List Nat):(b::(p++fi++q)).Perm ((b::(p++q))++fi):=by grind
theorem nG:∀ (l:List Nat),nC l=true→l.Nodup
 |[],_=>by simp
 |a::l,h=>by simp [nC] at h;rw [aeP];exact ⟨h.1,nG l h.2⟩
theorem Em (h:∀ id x,v id=some x→cR c μ w id (fp id) x) (hE:∀ id x,E id=some x→v id=some x) {id:Nat} {x:bV} (hx:E id=some x) {e:Ty} {xs:List e.D} (hu:jr E x=some ⟨e,xs⟩):
  ∃ a cap f,μ id= .tY a xs.length cap e.size∧(Ty.sl e).aC c.fz w [.slice a xs.length cap] xs f∧f.Perm ((id::bW x).flatMap fp)∧(id::bW x).Nodup∧
    (∀ k∈id::bW x,v k≠none∧E k≠none)∧(∀ b∈f,b<c.w0.heap.size→∀ j,c.M b j):=by
 have hv:=hE id x hx;cases x with
 |var cs=>grind [jr]
 |it _ _=>grind [jr]
 |cut _ _ _=>grind [jr]
 |xN e' xs' i cs=>
  obtain ⟨a,cap,b,o,C,E',p,q,h1,rfl,h3,h4,h5,h6,h7,h8,h9,h10,h11,h13,h12⟩:=h id _ hv;simp only [jr] at hu;split at hu
  case h_2=>cases hu
  rename_i x' ids ht;split at hu
  case isFalse=>cases hu
  rename_i hn;obtain ⟨rfl,hu⟩:=Sigma.mk.inj (ac2 hu);cases hu;obtain ⟨c1,c2,e1,r1,r2,r3,r4,r5⟩:=Ty.pE h hE e' h9 ht;simp only [ak] at r2;subst r2;simp only [aj.bO,aeX] at r3 e1;rw [← e1] at r1;have uf:=nG _ hn;clear hu;have fg:id ∉ ids:=by grind
  have fc:=h8 c.fz w x' (ids.flatMap fp) C (Fz.le_refl _) h4 rfl (λ_ _=>rfl) (λ_ _=>rfl) h13 r1;refine ⟨some ⟨b,o,none⟩,cap,b::(p++ids.flatMap fp++q),by simpa using h1,by grind, ?_, ?_, ?_, ?_⟩
  . grind [bW,GS]
  . grind [bW,List.nodup_cons]
  . intro k hk
    simp only [bW,r3,adM] at hk;grind
  grind
 |arr e' xs'=>
  simp only [jr] at hu;cases hu;obtain ⟨a,cap,h1,h2,h3⟩:=h id _ hv;exact ⟨a,cap,fp id,h1,h2,by simp [bW],by simp [bW],by grind [bW],h3⟩
 |Ea e' xs' x0 i off u eD=>
  simp only [jr] at hu;cases hy:E eD with
  |none=>grind
  |some y=>
   cases y with
   |var _=>grind
   |Ea _ _ _ _ _ _ _=>grind
   |it _ _=>grind
   |cut _ _ _=>grind
   |xN _ _ _ _=>grind
   |arr e2 ys=>
    simp only [hy] at hu;have hv':=hE eD _ hy;have fE:id≠eD:=by grind
    obtain ⟨a,cap,h1,⟨a',qK,lJ,e3,bb,ob,CC,EE,g1,rfl,_,_,g4,g5,g3⟩,h3,_,_,GU⟩:=h id _ hv;obtain ⟨a2,cap2,k1,k2,k3⟩:=h eD _ hv';rw [k1] at g1;cases hc:Ty.cast (.sl e2) (.sl e3) ys with
    |none=>grind
    |some y3=>
     rw [hc] at hu;obtain ⟨he,rfl⟩:=Ty.dU hc;cases he;cases g1;obtain ⟨x,x',ac4,q1,q2,q3,q4⟩:=g3 c.fz w CC _ ys (fp eD) (Fz.le_refl _) g4 rfl (λ_ _=>rfl) g5 (λ_ _ _=>rfl) k2;have hu:((e'.cP x0 off (.sl e2) ys).map λx'=>(⟨e',xs'.set i x'⟩:(e:Ty)×List e.D))=some ⟨e,xs⟩:=hu;rw [GU] at q1;cases q1;rw [q2] at hu;cases hu;refine ⟨a,cap,ac4,by simpa using h1,by simpa using q3,by grind [bW],by simp [bW,fE], ?_, ?_⟩
     . intro k hk
       simp only [bW,adM,List.not_mem_nil,or_false] at hk;grind
     grind
theorem jH (h:dq c μ fp v w) (hE:∀ id x,E id=some x→v id=some x) {id:Nat} {x:bV} (hx:E id=some x) {e:Ty} {xs:List e.D} (hu:jr E x=some ⟨e,xs⟩):
 ∃ a cap f,μ id= .tY a xs.length cap e.size∧(Ty.sl e).aC c.fz w [.slice a xs.length cap] xs f∧f.Perm ((id::bW x).flatMap fp)∧(id::bW x).Nodup∧
   (∀ k∈id::bW x,v k≠none∧E k≠none)∧(∀ b∈f,b<c.w0.heap.size→∀ j,c.M b j):=Em h.rel hE hx hu
theorem zY {S:Nat→Prop} {w:World} {e' e:Ty} {xs:List e'.D} {ys:List e.D} (h:AJ e' e xs=some ys) {cs:List Value} (hr:(Ty.sl e').aT S w cs xs):(Ty.sl e).aT S w cs ys:=by
 unfold AJ at h;split at h
 . rename_i y hy
   obtain rfl:=ac2 h;obtain ⟨hz,rfl⟩:=Ty.qE hy;exact Ty.jq _ _ hz _ _ hr
 . obtain ⟨he,JK⟩:=lf h
   clear h;subst he;rw [JK];simp only [Ty.aT] at hr ⊢;obtain ⟨a,cap,rfl,hc,hr⟩:=hr;refine ⟨a,cap,by simp,by simpa using hc, ?_⟩;rcases hr with rfl|⟨b,o,ha,hb,hi⟩
   . exact .inl rfl
   . refine .inr ⟨b,o,ha,hb,λi y hy=> ?_⟩
     have hy:(xs.map e'.erase)[i]? =some y:=hy;rw [ahU] at hy;obtain ⟨x,hx,rfl⟩:=ST.1 hy;grind [Ty.sn,Ty.nB]
theorem vC (h:dq c μ fp v w) (ev:Ev c w) (hE:∀ id x,E id=some x→v id=some x) {S':Nat→Prop} (hS:∀ b,c.S b→S' b) (hP:∀ id,E id≠none→∀ b∈fp id,S' b)
  {e:Ty} {d:aj} {x:Value} {xs:List e.D} (hx:az c μ x d) (hl:zS E e d=some xs):(Ty.sl e).aT S' w [x] xs:=by
 cases d with
 |ro e' ys tk=>
  simp only [az] at hx;exact zY (show AJ e' e ys=some xs from hl) (Ty.eR (λb hb=>⟨hS b hb,ev.S b hb⟩) _ hx.1)
 |oR=>
  obtain rfl:[]=xs:=ac2 hl;simp only [az] at hx;obtain ⟨a,rfl⟩:=hx;exact sw S' w e a
 |dn id vw=>
  rcases vw with _|⟨o,l⟩
  . have hl:(E id).bind (λv=>(jr E v).bind λx=>AJ x.1 e x.2)=some xs:=hl
    obtain ⟨y,hy,hl⟩:=WP.1 hl;obtain ⟨⟨e',ys⟩,hu,hl⟩:=WP.1 hl;obtain ⟨a,cap,f,h1,h2,h3,_,h5,_⟩:=jH h hE hy hu;have h4:(Ty.sl e').aT S' w [.slice a ys.length cap] ys:=by
     refine Ty.hO (λb hb=>⟨hS b hb,ev.S b hb⟩) _ h2 λb hb=> ?_;grind
    simp only [az] at hx;obtain ⟨a',len,lJ,sz,g1,rfl⟩:=hx;grind [zY]
  . have hl:(E id).bind (λv=>(jr E v).bind λx=>AJ x.1 e ((x.2.drop o).take l))=some xs:=hl
    obtain ⟨y,hy,hl⟩:=WP.1 hl;obtain ⟨⟨e',ys⟩,hu,hl⟩:=WP.1 hl;obtain ⟨a,cap,f,h1,h2,h3,_,h5,_⟩:=jH h hE hy hu;have h4:(Ty.sl e').aT S' w [.slice a ys.length cap] ys:=by
     refine Ty.hO (λb hb=>⟨hS b hb,ev.S b hb⟩) _ h2 λb hb=> ?_;grind
    simp only [az] at hx;obtain ⟨a',len,lJ,sz,a2,g1,g2,g3,rfl,g4⟩:=hx;grind [zY,LO]
 |_=>cases hl
theorem ac7 {e:Ty} {ds:List aj} {r:List e.D×List aj×List Nat} (h:alv E e ds=some r):∃ d,ds=d::r.2.1∧j7 E e d=some (r.1,r.2.2):=by
 unfold alv at h;split at h
 . rename_i d q
   obtain ⟨x,hx,rfl⟩:=ST.1 h;grind
 . cases h
structure my (c:Ctx) (fp:Nat→List Nat) (v E:Env) (ids:List Nat) (f:List Nat):Prop where
 mem:∀ b∈f,∃ id∈ids,b∈fp id
 nodup:f.Nodup
 there:∀ id∈ids,v id≠none∧E id≠none
 may:∀ b∈f,b<c.w0.heap.size→∀ j,c.M b j
theorem jI (h:dq c μ fp v w) (hE:∀ id x,E id=some x→v id=some x) {e:Ty} {d:aj} {x:Value} {r:List e.D×List Nat} (hx:az c μ x d) (hl:j7 E e d=some r):
  ∃ f,(Ty.sl e).aC c.fz w [x] r.1 f∧my c fp v E r.2 f:=by
 cases d with
 |oR=>
  obtain rfl:([],[])=r:=ac2 hl;simp only [az] at hx;obtain ⟨a,rfl⟩:=hx;exact ⟨[],xW w e a,⟨by simp,by simp,by simp,by simp⟩⟩
 |dn id vw=>
  rcases vw with _|⟨o,l⟩
  . have hl:(E id).bind (λv=>(jr E v).bind λx=>(Ty.cast (.sl x.1) (.sl e) x.2).map λy=>(y,id::bW v))=some r:=hl
    obtain ⟨y,hy,hl⟩:=WP.1 hl;obtain ⟨⟨e',ys⟩,hu,hl⟩:=WP.1 hl;obtain ⟨zs,hc,rfl⟩:=ST.1 hl;obtain ⟨he,JK⟩:=lf hc;clear hc hl;subst he;obtain ⟨a,cap,f,h1,h2,h3,h4,h5,h6⟩:=jH h hE hy hu;have hn:f.Nodup:=h3.nodup_iff.2 (h.lK _ h4 λk hk=>(h5 k hk).1);have hg:my c fp v E (id::bW y) f:=⟨by grind,hn,h5,h6⟩
    simp only [az] at hx;grind
  . have hl:(E id).bind (λv=>(jr E v).bind λx=>(Ty.cast (.sl x.1) (.sl e) ((x.2.drop o).take l)).map λy=>(y,id::bW v))=some r:=hl
    obtain ⟨y,hy,hl⟩:=WP.1 hl;obtain ⟨⟨e',ys⟩,hu,hl⟩:=WP.1 hl;obtain ⟨zs,hc,rfl⟩:=ST.1 hl;obtain ⟨he,JK⟩:=lf hc;clear hc hl;subst he;obtain ⟨a,cap,f,h1,h2,h3,h4,h5,h6⟩:=jH h hE hy hu;have hn:f.Nodup:=h3.nodup_iff.2 (h.lK _ h4 λk hk=>(h5 k hk).1);have hg:my c fp v E (id::bW y) f:=⟨by grind,hn,h5,h6⟩
    simp only [az] at hx;obtain ⟨a',len,lJ,sz,a2,g1,g2,g3,rfl,g4⟩:=hx;rw [h1] at g1;cases g1;obtain ⟨f',k1,k2,k3⟩:=Yf h2 g2 g4;exact ⟨f',JK ▸ k1,⟨by grind,k2 hn,h5,by grind⟩⟩
 |_=>cases hl
theorem my.append (h:dq c μ fp v w) {ids En f f':List Nat} (g:my c fp v E ids f) (g':my c fp v E En f') (hn:(ids++En).Nodup):my c fp v E (ids++En) (f++f') where
 mem b hb:=by
  rcases adE.1 hb with hb|hb
  . obtain ⟨i,hi,hm⟩:=g.mem b hb;grind
  . obtain ⟨i,hi,hm⟩:=g'.mem b hb;grind
 nodup:=by
  rw [ad1];refine ⟨g.nodup,g'.nodup,λa ha b hb e=> ?_⟩;subst e;obtain ⟨i,hi,hm⟩:=g.mem a ha;obtain ⟨j,hj,pP⟩:=g'.mem a hb;have:i≠j:=by grind
  exact h.sep i j this (g.there i hi).1 (g'.there j hj).1 a hm pP
 there i hi:=by
  rcases adE.1 hi with hi|hi
  . exact g.there i hi
  . exact g'.there i hi
 may b hb:=by
  rcases adE.1 hb with hb|hb
  . exact g.may b hb
  . exact g'.may b hb
mutual
theorem Ty.pF (h:dq c μ fp v w) (hE:∀ id x,E id=some x→v id=some x):
  (t:Ty)→{cs:List Value}→{ds:List aj}→{r:t.D×List aj×List Nat}→ak c μ cs ds→t.xP E ds=some r→r.2.2.Nodup→
   ∃ c1 c2 f,cs=c1++c2∧t.aC c.fz w c1 r.1 f∧ak c μ c2 r.2.1∧my c fp v E r.2.2 f
 | .bool,cs,ds,r,hr,hf,_=>by
   obtain ⟨y,hy,rfl⟩:=ST.1 hf;rw [Qr hy] at hr;simp only [ak] at hr;obtain ⟨x,vs,rfl,hx,hr⟩:=hr;simp only [az] at hx;subst hx;exact ⟨[_],vs,[],rfl,by simp [Ty.aC],hr,⟨by simp,by simp,by simp,by simp⟩⟩
 | .int k,cs,ds,r,hr,hf,_=>by
   obtain ⟨y,hy,rfl⟩:=ST.1 hf;rw [Qs hy] at hr;simp only [ak] at hr;obtain ⟨x,vs,rfl,hx,hr⟩:=hr;simp only [az] at hx;subst hx;exact ⟨[_],vs,[],rfl,by simp [Ty.aC],hr,⟨by simp,by simp,by simp,by simp⟩⟩
 | .str,cs,ds,r,hr,hf,_=>by
   obtain ⟨y,hy,rfl⟩:=ST.1 hf;rw [Qt hy] at hr;simp only [ak] at hr;obtain ⟨x,vs,rfl,hx,hr⟩:=hr;simp only [az] at hx;exact ⟨[_],vs,[],rfl,by simp_all [Ty.aC],hr,⟨by simp,by simp,by simp,by simp⟩⟩
 | .hole,cs,ds,r,hr,hf,_=>by
   obtain ⟨y,hy,rfl⟩:=ST.1 hf;obtain ⟨x,vs,d,rfl,_,hd,hx,hr⟩:=Yg hr hy;exact ⟨[x],vs,[],rfl,by simp only [Ty.aC];exact ⟨⟨x,rfl,hx.jG hd⟩,trivial⟩,hr,⟨by simp,by simp,by simp,by simp⟩⟩
 | .sl e,cs,ds,r,hr,hf,_=>by
   obtain ⟨d,e1,hy⟩:=ac7 hf;rw [e1] at hr;simp only [ak] at hr;obtain ⟨x,vs,rfl,hx,hr⟩:=hr;obtain ⟨f,h1,h2⟩:=jI h hE hx hy;grind
 | .fz e,cs,ds,r,hr,hf,_=>by
   obtain ⟨y,hy,rfl⟩:=ST.1 hf;obtain ⟨x,vs,rfl,hx,hr⟩:=LP hr hy;exact ⟨[x],vs,[],rfl,by simp only [Ty.aC];exact ⟨kZ.2 hx,trivial⟩,hr,⟨by simp,by simp,by simp,by simp⟩⟩
 | .st fs,cs,ds,r,hr,hf,hn=>by
   obtain ⟨c1,c2,f,h1,h2,h3,h4⟩:=aO.pF h hE fs hr hf hn;exact ⟨c1,c2,f,h1,by grind [Ty.aC],h3,h4⟩
theorem aO.pF (h:dq c μ fp v w) (hE:∀ id x,E id=some x→v id=some x):
  (t:aO)→{cs:List Value}→{ds:List aj}→{r:t.D×List aj×List Nat}→ak c μ cs ds→t.xP E ds=some r→r.2.2.Nodup→
   ∃ c1 c2 f,cs=c1++c2∧t.aC c.fz w c1 r.1 f∧ak c μ c2 r.2.1∧my c fp v E r.2.2 f
 | .nil,cs,ds,r,hr,hf,_=>by
   simp only [aO.xP,adI] at hf;subst hf;exact ⟨[],cs,[],rfl,by simp [aO.aC],hr,⟨by simp,by simp,by simp,by simp⟩⟩
 | .cons t ts,cs,ds,r,hr,hf,hn=>by
   unfold aO.xP at hf;obtain ⟨x,hx,hf⟩:=WP.1 hf;obtain ⟨y,hy,rfl⟩:=ST.1 hf;have qZ:(x.2.2++y.2.2).Nodup:=hn;obtain ⟨c1,c2,f1,rfl,h2,h3,h4⟩:=Ty.pF h hE t hr hx (ad1.1 qZ).1;obtain ⟨c3,c4,f2,rfl,h5,h6,h7⟩:=aO.pF h hE ts h3 hy (ad1.1 qZ).2.1;exact ⟨c1++c3,c4,f1++f2,by simp,by simp only [aO.aC];exact ⟨c1,c3,f1,f2,rfl,rfl,h2,h5⟩,h6,h4.append h h7 qZ⟩
end
theorem AK (h:dq c μ fp v w) (hE:∀ id x,E id=some x→v id=some x) {t:Ty} {cs:List Value} {ds:List aj} {r:t.D×List Nat} (hr:ak c μ cs ds) (hf:BM E t ds=some r):
  ∃ f,t.aC c.fz w cs r.1 f∧my c fp v E r.2 f:=by
 unfold BM at hf;split at hf
 . rename_i x ids hx
   split at hf
   . rename_i hn
     cases hf;obtain ⟨c1,c2,f,rfl,h2,h3,h4⟩:=Ty.pF h hE t hr hx (nG _ hn);grind [ak]
   . simp at hf
 . simp at hf
end
end
section
open Go
variable {z:Fz}
mutual
def Ty.zeroV:Ty→List Value
 | .bool=>[.bool false]
 | .int k=>[.int k 0]
 | .str=>[.string ⟨#[]⟩]
 | .hole=>[.slice none 0 0]
 | .sl _=>[.slice none 0 0]
 | .fz _=>[.slice none 0 0]
 | .st fs=>fs.zeroV
def aO.zeroV:aO→List Value
 | .nil=>[]
 | .cons t ts=>t.zeroV++ts.zeroV
end
def qL (P:Program) (t:Ty) (tid:TypeId):Prop:=
 ∃ i z,P.info? tid=some i∧i.size=t.size∧i.bytes≤1024∧i.zero=some z∧z.cells.toList=t.zeroV∧0<t.size
mutual
def Ty.Ok (P:Program):Ty→TypeId→Prop
 | .bool,tid=>qL P .bool tid∧P.underlying tid=some .bool
 | .int k,tid=>qL P (.int k) tid∧P.underlying tid=some (.int k)
 | .str,tid=>qL P .str tid∧P.underlying tid=some .string
 | .hole,tid=>qL P .hole tid∧∃ eid,P.underlying tid=some (.slice eid)
 | .sl e,tid=>qL P (.sl e) tid∧∃ eid,P.underlying tid=some (.slice eid)∧e.Ok P eid
 | .fz e,tid=>qL P (.fz e) tid∧∃ eid,P.underlying tid=some (.slice eid)∧e.Ok P eid
 | .st fs,tid=>qL P (.st fs) tid∧∃ fields,P.underlying tid=some (.struct fields)∧fs.FC P fields.toList 0
def aO.FC (P:Program):aO→List Field→Nat→Prop
 | .nil,fs,_=>fs=[]
 | .cons t ts,fs,off=>∃ f r,fs=f::r∧f.offset=off∧t.Ok P f.type∧ts.FC P r (off+t.size)
end
theorem Ty.Ok.base {P:Program} {t:Ty} {tid:TypeId} (h:t.Ok P tid):qL P t tid:=by
 cases t<;>simp only [Ty.Ok] at h<;>exact h.1
section
variable {P:Program} {w:World}
theorem Ty.Ok.mo {t:Ty} {tid:TypeId} (h:t.Ok P tid):(sizeOf tid).run P w= .ok t.size w:=by
 obtain ⟨i,z,h1,h2,_⟩:=h.base;simp [sizeOf,typeInfo,h1,h2]
theorem Ty.Ok.pG {t:Ty} {tid:TypeId} (h:t.Ok P tid):(isAgg tid).run P w= .ok t.lb w:=by
 cases t<;>simp only [Ty.Ok] at h
 . simp [isAgg,run_underlying h.2,Ty.lb]
 . simp [isAgg,run_underlying h.2,Ty.lb]
 . simp [isAgg,run_underlying h.2,Ty.lb]
 . obtain ⟨_,e,h⟩:=h;simp [isAgg,run_underlying h,Ty.lb]
 . obtain ⟨_,e,h,_⟩:=h;simp [isAgg,run_underlying h,Ty.lb]
 . obtain ⟨_,e,h,_⟩:=h;simp [isAgg,run_underlying h,Ty.lb]
 . obtain ⟨_,e,h,_⟩:=h;simp [isAgg,run_underlying h,Ty.lb]
theorem Ty.Ok.Yj {t:Ty} {tid:TypeId} (h:t.Ok P tid):∃ z,(zeroValue tid).run P w= .ok z w∧z.cells.toList=t.zeroV:=by
 obtain ⟨i,z,h1,h2,_,h4,h5,_⟩:=h.base;simp_all [zeroValue,typeInfo]
theorem Ty.Ok.pos {t:Ty} {tid:TypeId} (h:t.Ok P tid):0<t.size:=by
 obtain ⟨i,z,_,_,_,_,_,h⟩:=h.base;exact h
end
mutual
theorem Ty.fQ:(t:Ty)→t.zeroV.length=t.size
 | .bool=>rfl
 | .int _=>rfl
 | .str=>rfl
 | .hole=>rfl
 | .sl _=>rfl
 | .fz _=>rfl
 | .st fs=>by simp only [Ty.zeroV,Ty.size];exact aO.fQ fs
theorem aO.fQ:(t:aO)→t.zeroV.length=t.size
 | .nil=>rfl
 | .cons t ts=>by simp [aO.zeroV,aO.size,Ty.fQ t,aO.fQ ts]
end
mutual
theorem Ty.lL (w:World):(t:Ty)→t.aC z w t.zeroV t.zero []
 | .bool=>by simp [Ty.aC,Ty.zeroV,Ty.zero]
 | .int _=>by simp [Ty.aC,Ty.zeroV,Ty.zero]
 | .str=>by simp [Ty.aC,Ty.zeroV,Ty.zero]
 | .hole=>by simp only [Ty.aC];exact ⟨⟨_,rfl,rfl⟩,trivial⟩
 | .sl e=>xW w e none
 | .fz e=>by simp only [Ty.aC];exact ⟨kZ.2 (sw _ _ e none),trivial⟩
 | .st fs=>by simp only [Ty.aC,Ty.zeroV];exact aO.lL w fs
theorem aO.lL (w:World):(t:aO)→t.aC z w t.zeroV t.zero []
 | .nil=>by simp [aO.aC,aO.zeroV]
 | .cons t ts=>by
   simp only [aO.aC,aO.zeroV];exact ⟨t.zeroV,ts.zeroV,[],[],rfl,rfl,Ty.lL w t,aO.lL w ts⟩
end
theorem aO.FC.field {P:Program}:(ts:aO)→{fs:List Field}→{o:Nat}→ts.FC P fs o→{k:Nat}→{r:Nat×Ty}→ts.offset k=some r→
  ∃ f,fs[k]? =some f∧f.offset=o+r.1∧r.2.Ok P f.type∧r.1+r.2.size≤ts.size
 | .nil,_,_,_,k,r,hk=>by grind [aO.offset]
 | .cons t ts,fs,o,h,k,r,hk=>by
   simp only [aO.FC] at h;obtain ⟨f,q,rfl,h1,h2,h3⟩:=h;cases k with
   |zero=>
    simp only [aO.offset,adI] at hk;subst hk;exact ⟨f,rfl,by simpa using h1,h2,by simp [aO.size]⟩
   |succ k=>
    simp only [aO.offset] at hk;obtain ⟨r',LG,rfl⟩:=ST.1 hk;obtain ⟨f',e1,e2,e3,e4⟩:=aO.FC.field ts h3 LG;exact ⟨f',by simpa using e1,by simp [e2];omega,e3,by simp [aO.size];omega⟩
theorem Ty.Ok.field {P:Program} {t:Ty} {tid:TypeId} (h:t.Ok P tid) {k:Nat} {r:Nat×Ty} (hk:t.field k=some r):
  ∃ fields f,P.underlying tid=some (.struct fields)∧fields[k]? =some f∧f.offset=r.1∧r.2.Ok P f.type∧r.1+r.2.size≤t.size:=by
 cases t<;>simp [Ty.field] at hk;rename_i fs;simp only [Ty.Ok] at h;obtain ⟨_,fields,hu,hf⟩:=h;obtain ⟨f,e1,e2,e3,e4⟩:=aO.FC.field fs hf hk;exact ⟨fields,f,hu,by simpa using e1,by simpa using e2,e3,by simpa [Ty.size] using e4⟩
def cI (v:Env):pS→Env
 |[]=>v
 |(id,x)::r=>cI (λk=>if k=id then x else v k) r
theorem dV (v:Env) (a b:pS):cI v (a++b)=cI (cI v a) b:=by
 induction a generalizing v with
 |nil=>rfl
 |cons x a ih=>grind [id,cI]
theorem lM (v:Env) (l:List Nat) (k:Nat):cI v (l.map λid=>(id,none)) k=if k∈l then none else v k:=by
 induction l generalizing v with
 |nil=>simp [cI]
 |cons x l ih=>
  simp only [ael,cI,ih,adM];grind
theorem iw (v:Env) (l:List Nat) (id:Nat) (x:bV) (k:Nat):cI v ((l.map λi=>(i,none))++[(id,some x)]) k=if k=id then some x else if k∈l then none else v k:=by
 rw [dV];simp only [cI,lM]
theorem RJ (v:List (Nat×bV)) (id:Nat) (x:bV) (k:Nat):bp (X3 v id x) k=if k=id then some x else bp v k:=by
 induction v with
 |nil=>grind [X3,bp,id]
 |cons a v ih=>
  grind [X3,bp]
theorem LQ (v:List (Nat×bV)) (id k:Nat):bp (zU v id) k=if k=id then none else bp v k:=by
 induction v with
 |nil=>simp [zU,bp]
 |cons a v ih=>
  grind [zU,bp]
theorem zZ (u:pS):∀ (v:List (Nat×bV)),bp (Fx v u)=cI (bp v) u:=by
 induction u with
 |nil=>intro v;rfl
 |cons a u ih=>
  intro v;obtain ⟨id,x⟩:=a;cases x with
  |none=>simp only [Fx,cI,ih];congr 1;funext k;exact LQ v id k
  |some x=>simp only [Fx,cI,ih];congr 1;funext k;exact RJ v id x k
theorem dq.nH {c:Ctx} {μ μ':Nat→Loc} {fp:Nat→List Nat} {v:Env} {w w':World} (h:dq c μ fp v w) (rem:List Nat) (id0:Nat) (x0:bV) (f0:List Nat)
  (GR:∀ id x,v id=some x→id≠id0→id ∉ rem→μ' id=μ id∧∀ eD∈x.ids,μ' eD=μ eD)
  (Qu:∀ id,v id≠none→id≠id0→id ∉ rem→∀ b∈fp id,w'.heap[b]? =w.heap[b]?) (sx:w.heap.size≤w'.heap.size)
  (um:cR c μ' w' id0 f0 x0) (uf:f0.Nodup)
  (hf:∀ b∈f0,¬ c.S b∧b<w'.heap.size∧∀ id,v id≠none→id≠id0→id ∉ rem→b ∉ fp id):
  dq c μ' (λk=>if k=id0 then f0 else fp k) (cI v ((rem.map λi=>(i,none))++[(id0,some x0)])) w':=by
 have hold:∀ {k:Nat},k≠id0→cI v ((rem.map λi=>(i,none))++[(id0,some x0)]) k≠none→k ∉ rem∧v k≠none:=by
  intro k hk hn;rw [iw,aae hk] at hn;split at hn
  . exact absurd rfl hn
  . exact ⟨‹_›, hn⟩
 have xX:∀ {k:Nat},k≠id0→cI v ((rem.map λi=>(i,none))++[(id0,some x0)]) k≠none→∀ b∈fp k,b ∉ f0:=by grind
 constructor
 . intro k x hx
   by_cases hk:k=id0
   . subst hk
     rw [iw,aaZ rfl] at hx;grind
   . obtain ⟨hr,hv⟩:=hold hk (by rw [hx];simp)
     rw [iw,aae hk,aae hr] at hx;simp only [aae hk];exact (h.rel k x hx).frame (Qu k hv hk hr) (GR k x hx hk hr).1 (GR k x hx hk hr).2
 . intro k x hx
   by_cases hk:k=id0
   . grind
   . obtain ⟨hr,hv⟩:=hold hk (by rw [hx];simp)
     rw [iw,aae hk,aae hr] at hx;simp only [aae hk];exact h.nodup k x hx
 . intro k k' fE hv hv' b hb
   by_cases hk:k=id0
   . grind
   . simp only [aae hk] at hb
     by_cases rr:k'=id0
     . grind
     . simp only [aae rr]
       exact h.sep k k' fE (hold hk hv).2 (hold rr hv').2 b hb
 . intro k hv b hb
   by_cases hk:k=id0
   . grind
   . simp only [aae hk] at hb
     exact h.kL k (hold hk hv).2 b hb
 . intro k hv b hb
   by_cases hk:k=id0
   . grind
   . simp only [aae hk] at hb
     exact aeh (h.lt k (hold hk hv).2 b hb) sx
theorem dq.qM {c:Ctx} {μ μ':Nat→Loc} {fp:Nat→List Nat} {v:Env} {w w':World} (h:dq c μ fp v w) (ev:Ev c w) (rem:List Nat) (id0:Nat) (x0:bV) (f0:List Nat)
  (GR:∀ id x,v id=some x→id≠id0→id ∉ rem→μ' id=μ id∧∀ eD∈x.ids,μ' eD=μ eD)
  (Qu:∀ id,v id≠none→id≠id0→id ∉ rem→∀ b∈fp id,w'.heap[b]? =w.heap[b]?) (sx:w.heap.size≤w'.heap.size)
  (um:cR c μ' w' id0 f0 x0) (uf:f0.Nodup)
  (hf:∀ b∈f0,(w.heap.size≤b∧b<w'.heap.size)∨∃ id,(id=id0∨id∈rem)∧v id≠none∧b∈fp id):
  dq c μ' (λk=>if k=id0 then f0 else fp k) (cI v ((rem.map λi=>(i,none))++[(id0,some x0)])) w':=by
 refine h.nH rem id0 x0 f0 GR Qu sx um uf λb hb=> ?_;rcases hf b hb with ⟨h1,h2⟩|⟨id,h1,h2,h3⟩
 . exact ⟨λhs=>by have:=c.hS.1 b hs;have:=ev.size;omega,h2,by grind⟩
 . refine ⟨h.kL id h2 b h3,aeh (h.lt id h2 b h3) sx,λk hv hk hr cE=>h.sep k id ?_ hv h2 b cE h3⟩
   grind
theorem LR (c:Ctx) (μ:Nat→Loc) (v:Value):az c μ v (ofValue v):=by
 unfold ofValue;split
 . simp [az]
 . simp [az]
 . split
   . simp_all [az]
   . simp [az]
 . simp [az]
 . exact ⟨rfl,rfl⟩
 . simp [az]
theorem de {c:Ctx} {μ:Nat→Loc} {t:Nat→aj} {a:Act} (h:∀ j,az c μ (a.tmps.getD j Go.undef) (t j)) (x:Operand):az c μ (a.eval x) (gk t x):=by
 cases x with
 |tmp j=>exact h j
 |const v=>exact LR c μ v
 |func f=>simp [gk,Act.eval,az,ak]
 |global g=>simp [gk,az]
structure LS (c:Ctx) (μ:Nat→Loc) (s:mU) (r:jR) (v':Value) (w':World) (μ':Nat→Loc) (fp':Nat→List Nat):Prop where
 agree:∀ id,s.k id→μ' id=μ id
 val:az c μ' v' r.1
 vs:dq c μ' fp' (cI s.v r.2) w'
 ev:Ev c w'
def uI (c:Ctx) (μ:Nat→Loc) (s:mU) (o:Oper) (a:Act) (w:World) (r:jR):Prop:=
 ∀ (K:Act→World→Prop) (Q:Exit→Act→World→Prop),(∀ v' w' μ' fp',LS c μ s r v' w' μ' fp'→K (a.put o.dst v') w')→o.wp c.P a w K Q
theorem fw {c:Ctx} {μ μ':Nat→Loc} {fp':Nat→List Nat} {s:mU} {o:Oper} {a:Act} {w w':World} {r:jR} {v':Value}
  (hr:(execOp a.eval o).run c.P w= .ok (.value v') w') (hp:LS c μ s r v' w' μ' fp'):uI c μ s o a w r:=by
 intro K Q h;grind [Oper.wp,Oper.upon_value]
theorem xY {c:Ctx} {μ μ':Nat→Loc} {fp':Nat→List Nat} {s:mU} {o:Oper} {a:Act} {w w':World} {r:jR}
  (hr:(execOp a.eval o).run c.P w= .ok .skip w') (hp:LS c μ s r Go.undef w' μ' fp'):uI c μ s o a w r:=by
 intro K Q h;grind [Oper.wp,Oper.upon_skip]
theorem bJ {c:Ctx} {μ:Nat→Loc} {fp:Nat→List Nat} {s:mU} {n:Nat} {o:Oper} {a:Act} {w:World} {d:aj} {v':Value} (h:js c μ fp s n a w)
  (hr:(execOp a.eval o).run c.P w= .ok (.value v') w) (hv:az c μ v' d):uI c μ s o a w (d,[]):=
 fw hr ⟨λ_ _=>rfl,hv,h.vs,h.ev⟩
end
section
open Go
section
variable {c:Ctx} {μ:Nat→Loc} {fp:Nat→List Nat} {s:mU} {n:Nat} {o:Oper} {a:Act} {w:World} {r:jR}
theorem aZ {α ρ:Type} {o:Option α} {k:α→Out ρ} {r:ρ} (h:(Out.of o k).eval=some r):∃ x,o=some x∧(k x).eval=some r:=by
 cases o with
 |none=>cases h
 |some x=>exact ⟨x,rfl,h⟩
theorem bj {v:aj} (h:(cV v).eval=some r):r=(v,[]):=(ac2 h).symm
theorem cJ {ρ:Type} {p:Bool} {x y:Out ρ} {r:ρ} (h:(Out.ite p x y).eval=some r):(p=true∧x.eval=some r)∨(p=false∧y.eval=some r):=by
 cases p
 . exact .inr ⟨rfl,h⟩
 . exact .inl ⟨rfl,h⟩
theorem j9 {α ρ:Type} {o:Option α} {k:α→Out ρ} {r:ρ} (h:(Out.get o k).eval=some r):∃ x,o=some x∧(k x).eval=some r:=by
 cases o with
 |none=>cases h
 |some x=>exact ⟨x,rfl,h⟩
theorem GV {t:Ty} {d:aj} (h:t.lb=false):oq t [d]=d:=by simp [oq,h]
theorem N0 {P:Program} {op:BinOp} {k:IntKind} {x y:Int} (hs:Jd op=false) (h:(XR op k x y).eval=some r) (t:TypeId):
  ∃ v',(binOp op t (.int k x) (.int k y)).run P w= .ok v' w∧(∀ c μ,az c μ v' r.1)∧r.2=[]:=by
 cases op<;>simp only [Jd,Bool.true_eq_false] at hs
 case quo=>
  rcases cJ h with ⟨_,h⟩|⟨h0,h⟩
  . cases h
  . have h0:y≠0:=by simpa using h0
    rw [bj h];exact ⟨.int k (k.wrap (x.tdiv y)),by simp [binOp,Op.intDiv,h0],λ_ _=>by simp [az],rfl⟩
 case rem=>
  rcases cJ h with ⟨_,h⟩|⟨h0,h⟩
  . cases h
  . have h0:y≠0:=by simpa using h0
    rw [bj h];exact ⟨.int k (x.tmod y),by simp [binOp,Op.intDiv,h0],λ_ _=>by simp [az],rfl⟩
 all_goals
  rw [bj h];refine ⟨_,by simp [binOp,Op.intArith,Op.intBits,Op.intCmp];rfl,λ_ _=>by simp [az],rfl⟩
theorem Jk {P:Program} {op:BinOp} {k k':IntKind} {x y:Int} (h:(LJ op k x y).eval=some r) (t:TypeId):
  ∃ v',(binOp op t (.int k x) (.int k' y)).run P w= .ok v' w∧(∀ c μ,az c μ v' r.1)∧r.2=[]:=by
 cases op<;>try cases h
 all_goals
  rcases cJ h with ⟨_,h⟩|⟨h0,h⟩
  . cases h
  . have h0:¬ y<0:=by simpa using h0
    rw [bj h];refine ⟨_,by simp [binOp,Op.shift,h0];rfl,by grind [az],rfl⟩
theorem qN (x:List UInt8):(ByteArray.mk x.toArray).size=x.length:=by simp [ByteArray.size]
theorem xZ (x:List UInt8):(ByteArray.mk x.toArray).toList=x:=by simp_all
theorem Jl (x y:List UInt8):(ByteArray.mk x.toArray)++(ByteArray.mk y.toArray)=ByteArray.mk (x++y).toArray:=by
 apply ByteArray.ext;simp
theorem N1 {P:Program} {op:BinOp} {x y:List UInt8} (h:(XT op x y).eval=some r) (t:TypeId):
  ∃ v',(binOp op t (.string ⟨x.toArray⟩) (.string ⟨y.toArray⟩)).run P w= .ok v' w∧(∀ c μ,az c μ v' r.1)∧r.2=[]:=by
 cases op
 case add=>
  rcases cJ h with ⟨h0,h⟩|⟨_,h⟩
  . have h0:x.length+y.length≤bn:=adR h0
    rw [bj h];refine ⟨.string ⟨(x++y).toArray⟩, ?_,λ_ _=>by simp [az];grind,rfl⟩;have:¬ (((x.length+y.length:Nat):Int)>IntKind.i64.max):=by
     simp [IntKind.max,IntKind.signed,IntKind.bits];grind
    simp_all [binOp,Op.stringOp,qN,Jl]
  . cases h
 all_goals first
  |(cases h;done)
  |(rw [bj h]
    refine ⟨_,by simp only [binOp,Op.stringOp,xZ];rfl,λ_ _=>by simp [az,bne],rfl⟩)
variable (h:js c μ fp s n a w)
include h
theorem js.de (x:Operand):az c μ (a.eval x) (gk s.t x):=Dm.de h.tm x
theorem js.new {fr:Nat} (hk:¬ s.k fr) (rem:List Nat) (L:Loc) (x0:bV) (f0:List Nat) {w':World}
  (Qu:∀ id,s.v id≠none→id ∉ rem→∀ b∈fp id,w'.heap[b]? =w.heap[b]?) (sx:w.heap.size≤w'.heap.size)
  (um:cR c (λid=>if id=fr then L else μ id) w' fr f0 x0) (uf:f0.Nodup)
  (hf:∀ b∈f0,(w.heap.size≤b∧b<w'.heap.size)∨∃ id,id∈rem∧s.v id≠none∧b∈fp id):
  (∀ id,s.k id→(λid=>if id=fr then L else μ id) id=μ id)∧
  dq c (λid=>if id=fr then L else μ id) (λk=>if k=fr then f0 else fp k) (cI s.v ((rem.map λi=>(i,none))++[(fr,some x0)])) w':=by
 have ha:∀ id,s.k id→(λid=>if id=fr then L else μ id) id=μ id:=by grind
 refine ⟨ha,h.vs.qM h.ev rem fr x0 f0 ?_ ?_ sx um uf ?_⟩
 . intro id x hx _ _
   exact ⟨by grind,λeD hi=>ha eD ((h.known.v id x hx).2 eD hi)⟩
 . grind
 grind
theorem Qv {C:Cx} {x:Operand} (ho:o.op= .move x∨o.op= .assign x) {ty fr:Nat} (hk:¬ s.k fr) (hr:(X1 C ty (gk s.t x) fr).eval=some r):uI c μ s o a w r:=by
 have hx:=h.de x;have run:(execOp a.eval o).run c.P w= .ok (.value (a.eval x)) w:=by rcases ho with ho|ho<;>simp [execOp,ho]
 unfold X1 at hr;split at hr
 . rename_i e0
   split at hr
   . rename_i e he
     cases hr;rw [e0] at hx;simp only [az] at hx;obtain ⟨ad,hv⟩:=hx;obtain ⟨h1,h2⟩:=h.new hk [] (.tY ad 0 0 e.size) (.arr e []) [] (w':=w) (λ_ _ _ _ _=>rfl) (adK _)
      ⟨ad,0,by simp,xW w e ad,by simp⟩ (by simp) (by simp)
     rw [hv] at run;refine fw run ⟨h1, ?_,h2,h.ev⟩;simp only [az];exact ⟨ad,0,0,e.size,by simp,rfl⟩
   . cases hr
     grind [bJ]
 . cases hr
   grind [bJ]
theorem Yk {x y z:Operand} (ho:o.op= .pick x y z) (hr:(Out.of (aly (gk s.t x)) λp=> .ite p (cV (gk s.t y)) (cV (gk s.t z))).eval=some r):uI c μ s o a w r:=by
 obtain ⟨p,hp,hr⟩:=aZ hr;have hx:=h.de x;have e:gk s.t x= .b p:=by
  unfold aly at hp;grind
 rw [e] at hx;simp only [az] at hx;rcases cJ hr with ⟨rfl,hr⟩|⟨rfl,hr⟩
 . rw [bj hr]
   exact bJ h (v':=a.eval y) (by simp [execOp,ho,hx,asBool]) (h.de y)
 . rw [bj hr]
   exact bJ h (v':=a.eval z) (by simp [execOp,ho,hx,asBool]) (h.de z)
theorem Jm {x:Operand} (ho:o.op= .nilCheck x)
  (hr:(match gk s.t x with
   | .vptr id off=>cV (.vptr id off)
   | .kK id i off=>cV (.kK id i off)
   | .Fe t x off=>cV (.Fe t x off)
   |_=> .fail:Out jR).eval=some r):uI c μ s o a w r:=by
 have hx:=h.de x;split at hr
 . rename_i e;rw [e] at hx;rw [bj hr]
   have vn:=hx;simp only [az] at hx;obtain ⟨B,o',_,hv⟩:=hx;exact bJ h (by simp [execOp,ho,hv]) (hv ▸ vn)
 . rename_i e;rw [e] at hx;rw [bj hr]
   have vn:=hx;simp only [az] at hx;obtain ⟨b,o',len,cap,sz,_,_,hv⟩:=hx;exact bJ h (by simp [execOp,ho,hv]) (hv ▸ vn)
 . rename_i e;rw [e] at hx;rw [bj hr]
   have vn:=hx;simp only [az] at hx;obtain ⟨b,o',_,_,hv⟩:=hx;exact bJ h (by simp [execOp,ho,hv]) (hv ▸ vn)
 . cases hr
theorem Yl {op:UnOp} {t:TypeId} {x:Operand} (ho:o.op= .unOp op t x) (hr:(unD op (gk s.t x)).eval=some r):uI c μ s o a w r:=by
 have hx:=h.de x;unfold unD at hr;split at hr
 . rename_i e;rw [e] at hx;rw [bj hr]
   simp only [az] at hx;exact bJ h (by simp [execOp,ho,hx,Op.unary];rfl) (by simp [az])
 . rename_i e;rw [e] at hx;rw [bj hr]
   simp only [az] at hx;exact bJ h (by simp [execOp,ho,hx,Op.unary,Op.intArith];rfl) (by simp [az])
 . cases hr
theorem LU {x:Operand} {k:Nat} (ho:o.op= .extract x k)
  (hr:(match gk s.t x with
   | .MH vs=> .of vs[k]? λv=>cV v
   |_=> .fail:Out jR).eval=some r):uI c μ s o a w r:=by
 have hx:=h.de x;split at hr
 . rename_i vs e
   rw [e] at hx;simp only [az] at hx;obtain ⟨us,hv,hx⟩:=hx;obtain ⟨d,hd,hr⟩:=aZ hr;rw [bj hr];obtain ⟨u,hu,um⟩:=hx.get hd;have Rt:us[k]? =some u:=by simpa using hu
   exact bJ h (v':=u) (by simp_all [execOp,Instr.extract]) um
 . cases hr
theorem Jn {f:FuncId} {first cs:Array Operand} (ho:o.op= .makeFunc (.func f) first cs)
  (hr:(if first.size=0 then cV (.fn f (cs.toList.map (gk s.t))) else .fail).eval=some r):uI c μ s o a w r:=by
 split at hr
 . rename_i h0
   rw [bj hr];have:first= #[]:=by grind
   subst this;refine bJ h (v':= .func (.func f) #[] (cs.map a.eval)) (by simp [execOp,ho,Instr.makeFunc]) ?_;simp only [az];refine ⟨_,rfl, ?_⟩;rw [Array.toList_map];refine ak.Ek (by simp) λj d v hd hv=> ?_;rw [ahU] at hd hv;obtain ⟨x,hx,rfl⟩:=ST.1 hd;rw [hx] at hv;cases hv;exact h.de x
 . cases hr
theorem RK {t:TypeId} {x y:Operand} (ho:o.op= .index t x y) (ht:c.P.underlying t=some .string)
  (hr:(Out.of (nD (gk s.t y)) λk=>
   match gk s.t x with
   | .s l=> .ite (decide (0≤k)) (.get (nth l k.toNat) λc=>cV (.i .u8 (c.toNat:Int))) .fail
   |_=> .fail).eval=some r):uI c μ s o a w r:=by
 have hx:=h.de x;have hy:=h.de y;obtain ⟨k,hk,hr⟩:=aZ hr;have e:∃ kd,gk s.t y= .i kd k:=by
  unfold nD at hk;split at hk
  . rename_i e0;cases hk;exact ⟨_,e0⟩
  . cases hk
 obtain ⟨kd,e⟩:=e;rw [e] at hy;simp only [az] at hy;split at hr
 . rename_i l el
   rw [el] at hx;simp only [az] at hx;rcases cJ hr with ⟨h0,hr⟩|⟨_,hr⟩
   . have h0:0≤k:=adR h0
     obtain ⟨b,hb,hr⟩:=j9 hr;rw [bj hr];have cf:k.toNat<l.length:=(So.1 hb).1;have cE:(ByteArray.mk l.toArray)[k.toNat]? =some b:=by
      rw [ByteArray.getElem?_lt' _ _ (by rw [qN];exact cf)];have:=(So.1 hb).2;congr 1
     refine bJ h (v':= .int .u8 b.toNat) ?_ (by simp [az]);simp_all [execOp,Instr.index,asIntOf,run_underlying]
   . cases hr
 . cases hr
theorem RL {C:Cx} (hC:∀ tid t,C.ty tid=some t→t.Ok c.P tid) {t:TypeId} {x:Operand} {k:Nat} (ho:o.op= .field t x k)
  (hr:(Out.of (C.ty t) λt=> .of (t.field k) λf=>
  match gk s.t x with
  | .agg cs=>if f.1+f.2.size≤cs.length then cV (oq f.2 ((cs.drop f.1).take f.2.size)) else .fail
  |_=> .fail).eval=some r):uI c μ s o a w r:=by
 have hx:=h.de x;obtain ⟨ty,oT,hr⟩:=aZ hr;obtain ⟨f,hf,hr⟩:=aZ hr;obtain ⟨fields,fd,hu,h1,h2,h3,h4⟩:=(hC t ty oT).field hf;split at hr
 . rename_i cs e
   rw [e] at hx;simp only [az] at hx;obtain ⟨us,hv,hx⟩:=hx;split at hr
   . rename_i hle
     rw [bj hr];have hl:=hx.length;have gu:=(hx.drop f.1).take f.2.size;cases vP:f.2.lb with
     |true=>
      refine bJ h (v':= .agg (us.extract f.1 (f.1+f.2.size))) ?_ ?_
      . simp [execOp,ho,hv,Instr.field,run_underlying hu,h1,asAgg,part,h3.pG,vP,h3.mo,h2]
      . simp only [oq,vP,az]
        refine ⟨_,rfl, ?_⟩;rw [Array.toList_extract];simpa [List.extract_eq_take_drop,List.take_drop] using gu
     |false=>
      have hs1:f.2.size=1:=by cases hf2:f.2<;>rw [hf2] at vP<;>first|rfl|grind [Ty.lb]
      rw [hs1] at gu hle;have cf:f.1<us.size:=by grind
      have rv:f.1<cs.length:=by omega
      rw [aeC (by simpa using cf),aeC rv] at gu;simp only [List.take_succ_cons,List.take_zero,ak] at gu;obtain ⟨v,bg,e1,Zo,_⟩:=gu;cases e1;refine bJ h (v':=us[f.1]) ?_ ?_
      . simp [execOp,ho,hv,Instr.field,run_underlying hu,h1,asAgg,part,h3.pG,vP,h2,cf]
      grind [List.drop_eq_getElem_cons,GV]
   . cases hr
 . cases hr
end
end
section
open Go
def N2 (P:Program) (tid:TypeId):Prop:=
 P.stoodInHeld tid=false∧P.eqGuardType P.depth tid=false∧∃ fields,P.underlying tid=some (.struct fields)∧∀ f∈fields.toList,f.name≠ "_"
def apx (P:Program) (tid:TypeId):Prop:=(tid<ERR→N2 P tid)∧∀ k,tid=k+ERR→P.underlying k=some (.interface (P.methodsAt k))
structure kM (C:Cx) (P:Program):Prop where
 ty:∀ tid t,C.ty tid=some t→t.Ok P tid
 eqv:∀ tid,C.eqv tid=true→apx P tid
section
variable {c:Ctx} {μ:Nat→Loc} {fp:Nat→List Nat} {s:mU} {n:Nat} {o:Oper} {a:Act} {w:World} {r:jR}
theorem LV {P:Program} {tid:TypeId} {t:Ty} (h:t.Ok P tid) (ht:t.lb=false) {xs:Array Value} {off:Nat} {v:Value} (hv:xs[off]? =some v):
  (part tid xs off).run P w= .ok v w:=by
 simp [part,h.pG,ht,hv]
theorem N3 {P:Program} {t:Ty} {tid:TypeId} {x y:aj} {b:Bool} {v u:Value} (ht:t.Ok P tid) (he:Jc t x y=some b) (hv:az c μ v x) (hu:az c μ u y):
  t.size=1∧t.lb=false∧∀ d,(Op.equalIn (d+1) tid v u).run P w= .ok b w:=by
 unfold Jc at he;split at he
 . cases he
   simp only [az] at hv hu;subst hv hu;simp only [Ty.Ok] at ht;exact ⟨rfl,rfl,by grind [run_equalIn_bool']⟩
 . split at he
   . rename_i hk;obtain ⟨rfl,rfl⟩:=hk;cases he
     simp only [az] at hv hu;subst hv hu;simp only [Ty.Ok] at ht;exact ⟨rfl,rfl,by grind [run_equalIn_int]⟩
   . cases he
 . cases he
   simp only [az] at hv hu;obtain ⟨rfl,_⟩:=hv;obtain ⟨rfl,_⟩:=hu;simp only [Ty.Ok] at ht;refine ⟨rfl,rfl,λd=> ?_⟩;grind [run_equalIn_string,xZ]
 . cases he
theorem x6 {P:Program} {x y:Array Value}:(ts:aO)→∀ {fs:List Field} {off:Nat} {dx dy:List aj} {z:Bool},ts.FC P fs off→(∀ f∈fs,f.name≠ "_")→
  ak c μ (x.toList.drop off) dx→ak c μ (y.toList.drop off) dy→ts.eqC dx dy=some z→∀ (d:Nat),(Op.eqFields (d+1) x y fs).run P w= .ok z w
 | .nil,fs,off,dx,dy,z,hf,_,hx,hy,he,d=>by
   simp only [aO.FC] at hf;subst hf;unfold aO.eqC at he;split at he
   . cases he;rfl
   . rename_i e;cases e
   . cases he
 | .cons t ts,fs,off,dx,dy,z,hf,hn,hx,hy,he,d=>by
   simp only [aO.FC] at hf;obtain ⟨f,q,rfl,h1,h2,h3⟩:=hf;have apy:f.name≠ "_" :=hn f (by simp);cases dx with
   |nil=>cases dy<;>cases he
   |cons d0 dx'=>
   cases dy with
   |nil=>cases he
   |cons e0 dy'=>
    obtain ⟨b,hb,he⟩:=WP.1 (show ((Jc t d0 e0).bind λb=>(ts.eqC dx' dy').map λz=>b&&z)=some z from he);obtain ⟨z',hz,rfl⟩:=ST.1 he;simp only [ak] at hx hy;obtain ⟨v,vs,ex,hv,hx⟩:=hx;obtain ⟨u,us,ey,hu,hy⟩:=hy;obtain ⟨GW,vP,heq⟩:=N3 (w:=w) h2 hb hv hu;have hxo:x[off]? =some v:=by
     have:=congrArg (λl=>l[0]?) ex;simpa [ad5] using this
    have hyo:y[off]? =some u:=by
     have:=congrArg (λl=>l[0]?) ey;simpa [ad5] using this
    have vn:ak c μ (x.toList.drop (off+1)) dx':=by
     have:x.toList.drop (off+1)=vs:=by rw [← aea,ex];rfl
     rw [this];exact hx
    have yr:ak c μ (y.toList.drop (off+1)) dy':=by
     have:y.toList.drop (off+1)=us:=by rw [← aea,ey];rfl
     rw [this];exact hy
    rw [GW] at h3;have ih:=x6 ts h3 (λf hf=>hn f (by simp [hf])) vn yr hz d;have p1:=LV (w:=w) (xs:=x) (off:=f.offset) h2 vP (by rw [h1];exact hxo);have p2:=LV (w:=w) (xs:=y) (off:=f.offset) h2 vP (by rw [h1];exact hyo);simp only [Op.eqFields,apy,ne_eq,not_false_eq_true,agm,Sem.run_bind,p1,p2,Result.andThen_ok,heq d,Sem.run_ite,Sem.run_pure,ih];cases b<;>simp
variable (h:js c μ fp s n a w)
include h
theorem RM {C:Cx} (hC:kM C c.P) {op:BinOp} {t yt:TypeId} {x y:Operand} (ho:o.op= .binOp op t x y yt)
  (hr:(match gk s.t x,gk s.t y with
  | .agg a, .agg b=> .of (C.ty t) λty=>if C.eqv t=true∧t<ERR then
   .of (ty.eqC a b) λz=>afx op z else .fail
  |a,b=>alw (C.ty t) op a b:Out jR).eval=some r):uI c μ s o a w r:=by
 have hx:=h.de x;have hy:=h.de y;split at hr
 . rename_i da db ea eb
   rw [ea] at hx;rw [eb] at hy;simp only [az] at hx hy;obtain ⟨vx,e1,hx⟩:=hx;obtain ⟨vy,e2,hy⟩:=hy;obtain ⟨ty,oT,hr⟩:=aZ hr;split at hr
   . rename_i hq
     obtain ⟨g1,g2,fields,hu,hnm⟩:=(hC.eqv t hq.1).1 hq.2;obtain ⟨z,hz,hr⟩:=aZ hr;have eK:=hC.ty t ty oT;have lh:(Op.equalIn 10000 t (.agg vx) (.agg vy)).run c.P w= .ok z w:=by
      have hfo:c.P.fieldsOf t=fields:=by simp [Program.fieldsOf,hu]
      rw [run_equalIn_struct w 9999 t vx vy (by rw [hfo];exact hu) g1,hfo];cases ty<;>simp only [Ty.eqC] at hz<;>try (cases hz;done)
      simp only [Ty.Ok] at eK;obtain ⟨_,aqS,Rt,hf⟩:=eK;rw [hu] at Rt;cases Rt;exact x6 _ hf hnm (by simpa using hx) (by simpa using hy) hz 9998
     cases op<;>try (cases hr;done)
     . rw [bj hr]
       refine bJ h (v':= .bool z) ?_ (by simp [az]);simp [execOp,ho,e1,e2,run_eqGuard_agg w _ t _ _ _ _ g2,run_eql_struct,lh]
     . rw [bj hr]
       refine bJ h (v':= .bool (!z)) ?_ (by simp [az]);simp [execOp,ho,e1,e2,run_eqGuard_agg w _ t _ _ _ _ g2,run_neq_struct,lh]
   . cases hr
 . unfold alw at hr
   split at hr
   . rename_i k1 x1 k2 x2 e1 e2
     rw [e1] at hx;rw [e2] at hy;simp only [az] at hx hy;have hg:(eqGuard op t x y (.int k1 x1) (.int k2 x2)).run c.P w= .ok () w:=by cases op<;>simp [eqGuard]
     split at hr
     . obtain ⟨v',h1,h2,h3⟩:=Jk (w:=w) (P:=c.P) hr t (k':=k2)
       refine fw (μ':=μ) (fp':=fp) (v':=v') (w':=w) (by simp [execOp,ho,hx,hy,hg,h1]) ⟨λ_ _=>rfl,h2 c μ,by rw [h3];exact h.vs,h.ev⟩
     . rename_i hs
       split at hr
       . rename_i hk;subst hk
         obtain ⟨v',h1,h2,h3⟩:=N0 (w:=w) (P:=c.P) (by simpa using hs) hr t;refine fw (μ':=μ) (fp':=fp) (v':=v') (w':=w) (by simp [execOp,ho,hx,hy,hg,h1]) ⟨λ_ _=>rfl,h2 c μ,by rw [h3];exact h.vs,h.ev⟩
       . cases hr
   . rename_i x1 x2 e1 e2
     rw [e1] at hx;rw [e2] at hy;simp only [az] at hx hy;have hg:(eqGuard op t x y (.string ⟨x1.toArray⟩) (.string ⟨x2.toArray⟩)).run c.P w= .ok () w:=by cases op<;>simp [eqGuard]
     obtain ⟨v',h1,h2,h3⟩:=N1 (w:=w) (P:=c.P) hr t;refine fw (μ':=μ) (fp':=fp) (v':=v') (w':=w) (by simp_all [execOp]) ⟨λ_ _=>rfl,h2 c μ,by rw [h3];exact h.vs,h.ev⟩
   . rename_i x1 x2 e1 e2
     rw [e1] at hx;rw [e2] at hy;simp only [az] at hx hy;have hg:(eqGuard op t x y (.bool x1) (.bool x2)).run c.P w= .ok () w:=by simp_all [eqGuard]
     split at hr
     . rename_i hb
       have hu:c.P.underlying t=some .bool:=by
        unfold Qk at hb;split at hb
        . rename_i e;have:=hC.ty t _ e;grind [Ty.Ok]
        . cases hb
       cases op<;>try (cases hr;done)
       . rw [bj hr]
         exact bJ h (v':= .bool (x1==x2)) (by simp_all [execOp,run_eql_bool]) (by simp [az])
       . rw [bj hr]
         exact bJ h (v':= .bool (!(x1==x2))) (by simp_all [execOp,run_neq_bool]) (by simp [az])
     . cases hr
   . cases hr
end
end
section
open Go
variable {z:Fz}
section
variable {c:Ctx} {μ:Nat→Loc} {fp:Nat→List Nat} {s:mU} {n:Nat} {o:Oper} {a:Act} {w:World} {r:jR} {C:Cx} {E:Env}
theorem BN {t e:Ty} (h:Ed t=some e):t= .sl e:=by
 cases t<;>simp [Ed] at h;rw [h]
theorem BO {d:aj} {k:Int} (h:nD d=some k):∃ kd,d= .i kd k:=by
 cases d<;>simp [nD] at h;simp_all
theorem Ty.Ok.sl {P:Program} {e:Ty} {tid:TypeId} (h:(Ty.sl e).Ok P tid):∃ eid,P.underlying tid=some (.slice eid)∧e.Ok P eid:=by grind [Ty.Ok]
theorem Ty.Ok.desc {P:Program} {t:Ty} {tid:TypeId} (h:t.Ok P tid):∃ d,P.underlying tid=some d:=by
 cases t<;>simp only [Ty.Ok] at h
 . grind
 . grind
 . grind
 . grind
 . grind
 . grind
 grind
theorem qO (hv:dq c μ fp s.v w) (hE:∀ id x,E id=some x→s.v id=some x) {id es:Nat} (h:sr E id=some es):
  ∃ a len cap,μ id= .tY a len cap es∧len≤cap∧(0<cap→∃ b o,a=some ⟨b,o,none⟩)∧Je E (.dn id none)=some len:=by
 unfold sr at h;split at h
 . rename_i e xs hx
   cases h;obtain ⟨a,cap,h1,h2,_⟩:=hv.rel id _ (hE _ _ hx);grind [Ty.aC,Je]
 . rename_i e xs i off u eD hx
   cases h;obtain ⟨a,cap,h1,_,_,h3,h4⟩:=hv.rel id _ (hE _ _ hx);grind [Je]
 . rename_i e xs i cs hx
   cases h;obtain ⟨a,cap,b,o,_,_,_,_,h1,h2,_,_,_,h6,_⟩:=hv.rel id _ (hE _ _ hx);grind [Je]
 . rename_i e ys k hx
   cases h;obtain ⟨a,cap,a',h1,h2,h3,_⟩:=hv.rel id _ (hE _ _ hx);grind [Je]
 . cases h
theorem Ym {S:Nat→Prop} {w:World} {e:Ty} {v:List Value} {l:List e.D} (h:(Ty.sl e).aT S w v l):List.length l≤cj:=by grind [Ty.aT]
theorem LW {P:Program} {src dst:TypeId} {k kd:IntKind} {m:Int} {d:TypeDesc} (h1:P.underlying src=some d) (h2:P.underlying dst=some (.int k)):
 (convert src dst (.int kd m)).run P w= .ok (.int k (k.wrap m)) w:=by simp_all [convert,run_underlying,Conv.intToInt]
theorem RN {S:Nat→Prop} {k:IntKind} {v:Value} {l:List Int} (h:(Ty.sl (.int k)).aT S w [v] l):
  ∃ ad cap,v= .slice ad l.length cap∧l.length≤cap∧(l=[]∨∃ b o,ad=some ⟨b,o,none⟩∧S b∧∀ i,i<l.length→w.cell? ⟨b,o+i,none⟩=some (.int k (l.getD i 0))):=by
 simp only [Ty.aT] at h;obtain ⟨ad,cap,e1,hc,h⟩:=h;refine ⟨ad,cap,(List.cons.inj e1).1,hc.1, ?_⟩;rcases h with h|⟨b,o,ha,hb,hi⟩
 . exact .inl h
 . refine .inr ⟨b,o,ha,hb,λi cf=> ?_⟩
   have h4:aK w b (o+i) 1=[.int k (l.getD i 0)]:=by
    have:=hi i (l.getD i 0) (by show l[i]? =some (l.getD i 0);grind);simp_all [Ty.size,Nat.mul_one]
   unfold aK at h4;split at h4
   . rename_i C' E' fr cE
     have h3:C'[o+i]? =some (.int k (l.getD i 0)):=by
      have:=congrArg (λq=>q[0]?) h4;simpa [akW,ad5] using this
     grind [World.cell?]
   . cases h4
theorem FD {P:Program} {src dst eid:TypeId} {v:Value} {l:List Int} {S:Nat→Prop} (h1:P.underlying src=some (.slice eid)) (h2:P.underlying eid=some (.int .u8)) (h3:P.underlying dst=some .string)
  (fc:(Ty.sl (.int .u8)).aT S w [v] l):(convert src dst v).run P w= .ok (.string ⟨(l.map λn:Int=>UInt8.ofNat n.toNat).toArray⟩) w:=by
 obtain ⟨ad,cap,rfl,hc,fc⟩:=RN fc;rcases fc with rfl|⟨b,o',rfl,_,hi⟩
 . cases ad with
   |none=>exact run_convert_bytes_nil w src eid h1 h2 _ _ dst h3
   |some ad=>
    rw [run_convert_bytes_string w src dst eid _ _ _ h1 h2 h3];exact run_bytesToString w ad 0 cap [] (by simp [loadCells,loadCellsFrom])
 . exact run_convert_bytes_arg w src eid h1 h2 b o' l.length cap l rfl hi dst h3
variable (h:js c μ fp s n a w)
include h
theorem LX (hC:kM C c.P) (hE:∀ id x,E id=some x→s.v id=some x) {src dst:TypeId} {x:Operand} (ho:o.op= .convert src dst x)
  (hr:(X0 C E src dst (gk s.t x)).eval=some r):uI c μ s o a w r:=by
 have hx:=h.de x;unfold X0 at hr;obtain ⟨t,ht,hr⟩:=aZ hr;have eK:=hC.ty dst t ht;split at hr
 . rename_i k kd m e
   rw [e] at hx;simp only [az] at hx;simp only [Ty.Ok] at eK;split at hr
   . rename_i hs
     obtain ⟨ts,hs⟩:=Option.isSome_iff_exists.1 hs;obtain ⟨ds,hds⟩:=(hC.ty src ts hs).desc;rw [bj hr];exact bJ h (v':= .int k (k.wrap m)) (by simp_all [execOp,LW]) (by simp [az])
   . cases hr
 . rename_i l e
   rw [e] at hx;simp only [az] at hx;simp only [Ty.Ok] at eK;split at hr
   . rename_i hs
     obtain ⟨ts,hs⟩:=Option.isSome_iff_exists.1 hs;obtain ⟨ds,hds⟩:=(hC.ty src ts hs).desc;rw [bj hr];exact bJ h (v':= .string ⟨l.toArray⟩) (by simp [execOp,ho,hx.1,convert,run_underlying hds,run_underlying eK.2]) (by grind [az])
   . cases hr
 . simp only [Ty.Ok] at eK
   split at hr
   . rename_i hb
     obtain ⟨l,hl,hr⟩:=aZ hr;rw [bj hr];have A9:∃ eid,c.P.underlying src=some (.slice eid)∧c.P.underlying eid=some (.int .u8):=by
      unfold Ql at hb;split at hb
      . rename_i e
        obtain ⟨eid,h1,h2⟩:=(hC.ty src _ e).sl;grind [Ty.Ok]
      . cases hb
     obtain ⟨eid,h1,h2⟩:=A9;have fc:=vC h.vs h.ev hE (S':=λ_=>True) (λ_ _=>trivial) (λ_ _ _ _=>trivial) hx hl;refine bJ h (v':= .string ⟨(List.map (λn:Int=>UInt8.ofNat n.toNat) l).toArray⟩) ?_ (by simp only [az];exact ⟨trivial,adQ (agr (afh _)) (Ym fc)⟩);have key:=FD h1 h2 eK.2 fc;simp_all [execOp]
   . cases hr
 . cases hr
theorem FE (hC:kM C c.P) {t:TypeId} {x:Operand} {k:Nat} (ho:o.op= .fieldAddr t x k)
  (hr:(Out.of (C.ty t) λt=> .of (t.field k) λf=>
  match gk s.t x with
  | .vptr id off=>cV (.vptr id (off+f.1))
  | .kK id i off=>cV (.kK id i (off+f.1))
  | .Fe t x off=>cV (.Fe t x (off+f.1))
  |_=> .fail:Out jR).eval=some r):uI c μ s o a w r:=by
 have hx:=h.de x;obtain ⟨ty,oT,hr⟩:=aZ hr;obtain ⟨f,hf,hr⟩:=aZ hr;obtain ⟨fields,fd,hu,h1,h2,h3,h4⟩:=(hC.ty t ty oT).field hf;have qb:=h3.pos;have run:∀ B o',(Instr.fieldAt t (.pointer (some ⟨B,o',none⟩)) k).run c.P w= .ok (.pointer (some ⟨B,o'+f.1,none⟩)) w:=by
  intro B o';have:f.2.size≠0:=by omega
  simp [Instr.fieldAt,run_underlying hu,h1,Instr.sureAddr,fieldPlace,h3.mo,this,h2,Addr.add]
  try (split<;>simp_all)
 split at hr
 . rename_i id off e
   rw [e] at hx;rw [bj hr];simp only [az] at hx;obtain ⟨B,o',hm,hv⟩:=hx;refine bJ h (v':= .pointer (some ⟨B,o'+off+f.1,none⟩)) (by simp_all [execOp]) ?_;grind [az,Nat.add_assoc]
 . rename_i id i off e
   rw [e] at hx;rw [bj hr];simp only [az] at hx;obtain ⟨b,o',len,cap,sz,hm,hi,hv⟩:=hx;refine bJ h (v':= .pointer (some ⟨b,o'+i*sz+off+f.1,none⟩)) (by simp_all [execOp]) ?_;grind [az,Nat.add_assoc]
 . rename_i t' x' off e
   rw [e] at hx;rw [bj hr];simp only [az] at hx;obtain ⟨b,o',hb,hm,hv⟩:=hx;refine bJ h (v':= .pointer (some ⟨b,o'+off+f.1,none⟩)) (by simp_all [execOp]) ?_;grind [az,Nat.add_assoc]
 . cases hr
theorem uJ (hC:kM C c.P) (hE:∀ id x,E id=some x→s.v id=some x) {t:TypeId} {x y:Operand} (ho:o.op= .indexAddr t x y)
  (hr:(Out.of (C.ty t) λt=> .of (Ed t) λe=> .of (nD (gk s.t y)) λn=>NW E e.size (gk s.t x) n).eval=some r):uI c μ s o a w r:=by
 have hx:=h.de x;have hy:=h.de y;obtain ⟨ty,oT,hr⟩:=aZ hr;obtain ⟨e,he,hr⟩:=aZ hr;obtain ⟨m,hm,hr⟩:=aZ hr;have oT:C.ty t=some (.sl e):=BN he ▸ oT;obtain ⟨eid,hu,eK⟩:=(hC.ty t _ oT).sl;obtain ⟨kd,ey⟩:=BO hm;rw [ey] at hy;simp only [az] at hy;have run:∀ (b o' len cap:Nat),0≤m→m<len→(Instr.indexAt t (.slice (some ⟨b,o',none⟩) len cap) (.int kd m)).run c.P w= .ok (.pointer (some ⟨b,o'+m.toNat*e.size,none⟩)) w:=by
  intro b o' len cap h0 h1;simp [Instr.indexAt,asIntOf,run_underlying hu,h0,h1,eK.mo,Addr.add]
  try (split<;>simp_all)
 unfold NW at hr;split at hr
 . rename_i e' xs tk ex
   rw [ex] at hx;simp only [az] at hx;split at hr
   . rename_i GW
     rcases cJ hr with ⟨h0,hr⟩|⟨_,hr⟩
     . have h0:0≤m:=adR h0
       obtain ⟨z,hz,hr⟩:=j9 hr;rw [bj hr];have cf:m.toNat<xs.length:=(So.1 hz).1;obtain ⟨b,o',cap,hv,hb,fc⟩:=RI hx.1 hz;refine bJ h (v':= .pointer (some ⟨b,o'+m.toNat*e.size,none⟩)) (by simp [execOp,ho,hv,hy,run b o' xs.length cap h0 (by omega)]) ?_;simp only [az];exact ⟨b,o'+m.toNat*e.size,hb,by rw [← GW];exact fc,rfl⟩
     . cases hr
   . cases hr
 . rename_i id ex
   rw [ex] at hx;simp only [az] at hx;obtain ⟨ad,len,cap,sz,pP,hv⟩:=hx;obtain ⟨l,hl,hr⟩:=aZ hr;split at hr
   . rename_i GW
     obtain ⟨ad',qK,lJ,g1,g2,g3,g4⟩:=qO h.vs hE GW;rw [pP] at g1;cases g1;rw [g4] at hl;cases hl;rcases cJ hr with ⟨h0,hr⟩|⟨_,hr⟩
     . have h0:0≤m∧m<(len:Int):=adR h0
       rw [bj hr];obtain ⟨b,o',rfl⟩:=g3 (by omega);refine bJ h (v':= .pointer (some ⟨b,o'+m.toNat*e.size,none⟩)) (by simp [execOp,ho,hv,hy,run b o' len cap h0.1 h0.2]) ?_;simp only [az];exact ⟨b,o',len,cap,e.size,pP,by omega,rfl⟩
     . cases hr
   . cases hr
 . rename_i id off l ex
   rw [ex] at hx;simp only [az] at hx;obtain ⟨ad,len,cap,sz,ad2,pP,hle,hlc,hv,had⟩:=hx;split at hr
   . rename_i GW
     obtain ⟨ad',qK,lJ,g1,g2,g3,g4⟩:=qO h.vs hE GW;rw [pP] at g1;cases g1;rcases cJ hr with ⟨h0,hr⟩|⟨_,hr⟩
     . have h0:0≤m∧m<(l:Int):=adR h0
       rw [bj hr];rcases had with had|⟨b,o',rfl,rfl⟩
       . omega
       refine bJ h (v':= .pointer (some ⟨b,o'+off*e.size+m.toNat*e.size,none⟩)) (by simp_all [execOp]) ?_;simp only [az];grind
     . cases hr
   . cases hr
 . cases hr
theorem ac8 (hC:kM C c.P) (hE:∀ id x,E id=some x→s.v id=some x) {cl:Call} (hcl:cl.callee= .builtin .len) {t:TypeId} {x:Operand} (ha:cl.args.toList=[x]) (Y5:cl.argTypes.toList=[t]) (ho:o.op= .call cl)
  (hr:(Out.of (C.ty t) λt=> .of (alx E t (gk s.t x)) λn=>cV (.i .i64 (n:Int))).eval=some r):uI c μ s o a w r:=by
 have hx:=h.de x;obtain ⟨ty,oT,hr⟩:=aZ hr;obtain ⟨m,hm,hr⟩:=aZ hr;rw [bj hr];have eK:=hC.ty t ty oT;have QR:cl.args= #[x]:=by grind
 have apB:cl.argTypes= #[t]:=by grind
 have key:∀ v,(Builtin.len_ #[t] o.type #[a.eval x]).run c.P w= .ok v w→(execOp a.eval o).run c.P w= .ok (.value v) w:=by simp_all [execOp,resolve,invoke,builtin]
 refine bJ h (v':= .int .i64 m) (key _ ?_) (by simp [az]);unfold alx at hm;split at hm
 . rename_i l e
   cases hm;rw [e] at hx;simp only [az] at hx;simp only [Ty.Ok] at eK;simp [Builtin.len_,hx,run_underlying eK.2,qN,goInt]
 . rename_i e
   obtain ⟨eid,hu,FF⟩:=eK.sl;have hv:∃ ad cap,a.eval x= .slice ad m cap:=by
    unfold Je at hm;split at hm
    . grind [az,Ty.aT]
    . grind [az]
    . rename_i ex;rw [ex] at hx
      simp only [az] at hx;obtain ⟨ad,len,cap,sz,g1,hv⟩:=hx;split at hm
      . rename_i hEx;cases hm
        obtain ⟨a2,cap2,q1,_⟩:=h.vs.rel _ _ (hE _ _ hEx);grind
      . rename_i hEx;cases hm
        obtain ⟨a2,cap2,q1,_⟩:=h.vs.rel _ _ (hE _ _ hEx);grind
      . rename_i hEx;cases hm
        obtain ⟨a2,cap2,_,_,_,_,_,_,q1,_⟩:=h.vs.rel _ _ (hE _ _ hEx);grind
      . rename_i hEx;cases hm
        obtain ⟨a2,cap2,_,q1,_⟩:=h.vs.rel _ _ (hE _ _ hEx);grind
      . cases hm
    . grind [az]
    . cases hm
   obtain ⟨ad,cap,hv⟩:=hv;simp [Builtin.len_,hv,run_underlying hu,goInt]
 . cases hm
end
end
section
open Go
section
variable {c:Ctx} {μ:Nat→Loc} {fp:Nat→List Nat} {s:mU} {n:Nat} {o:Oper} {a:Act} {w:World} {r:jR} {C:Cx} {E:Env}
theorem FG (x:List UInt8) (l h:Nat):(ByteArray.mk x.toArray).extract l h=ByteArray.mk ((x.take h).drop l).toArray:=by
 apply ByteArray.ext;simp [List.extract_eq_take_drop,List.drop_take]
theorem GX {P:Program} {kd:IntKind} {i:Int} {y:Nat} {code:BoundsCode} (h0:0≤i) (h1:i≤y):(Instr.sliceBound (.int kd i) y code).run P w= .ok i.toNat w:=
 by grind [run_sliceBound]
theorem Eo {P:Program} {isS:Bool} {len cap:Nat} {lo hi:Option Value} {oW dh:Option Int} (OH:∀ v,lo=some v→∃ k i,v= .int k i∧oW=some i) (hhi:∀ v,hi=some v→∃ k i,v= .int k i∧dh=some i)
  (nlo:lo=none→oW=none) (nhi:hi=none→dh=none) (hlc:len≤cap)
  (h:0≤oW.getD 0∧oW.getD 0≤dh.getD len∧dh.getD len≤(len:Int)):
  (Instr.sliceBounds isS len cap lo hi none).run P w= .ok ((oW.getD 0).toNat,(dh.getD len).toNat,cap) w:=by
 have e2:∀ (code:BoundsCode),(match hi,(none:Option Value) with
   |some v,some _=>Instr.sliceBound v cap .slice3B
   |some v,none=>Instr.sliceBound v cap code
   |none,none=>pure len
   |none,some _=>stuck "Slice: max without high").run P w= .ok (dh.getD len).toNat w:=by
  intro code;cases hi with
  |none=>simp [nhi rfl]
  |some v=>
   obtain ⟨k,i,rfl,e⟩:=hhi v rfl;grind [GX]
 have e3:(match lo with
   |some v=>Instr.sliceBound v (dh.getD len).toNat .sliceB
   |none=>pure 0).run P w= .ok (oW.getD 0).toNat w:=by
  cases lo with
  |none=>simp [nlo rfl]
  |some v=>
   obtain ⟨k,i,rfl,e⟩:=OH v rfl;grind [GX]
 unfold Instr.sliceBounds;simp only [Sem.run_bind,Sem.run_pure,Result.andThen_ok];cases isS
 . have:=e2 .sliceAlen
   cases hi<;>cases lo<;>simp_all
 . have:=e2 .sliceAcap
   cases hi<;>cases lo<;>simp_all
variable (h:js c μ fp s n a w)
include h
theorem js.bound {z:Option Operand} {l:Option (Option Int)} (hl:z.map (λq=>nD (gk s.t q))=l) (hn:l≠some none):
  (∀ v,z.map a.eval=some v→∃ k i,v= .int k i∧l.bind id=some i)∧(z.map a.eval=none→l.bind id=none):=by
 cases z with
 |none=>subst hl;simp
 |some q=>
  simp only [ags] at hl ⊢;subst hl;cases hg:nD (gk s.t q) with
  |none=>grind
  |some i=>
   obtain ⟨kd,e⟩:=BO hg;have:=h.de q;grind [az]
theorem RO (hC:kM C c.P) (hE:∀ id x,E id=some x→s.v id=some x) {t:TypeId} {x:Operand} {lo hi:Option Operand} (ho:o.op= .slice t x lo hi none)
  (hr:(Out.of (C.ty t) λt=>
  match lo.map λz=>nD (gk s.t z),hi.map λz=>nD (gk s.t z) with
  |some none,_=> .fail
  |_,some none=> .fail
  |l,h=>Jf E t (gk s.t x) (l.bind id) (h.bind id)).eval=some r):uI c μ s o a w r:=by
 have hx:=h.de x;obtain ⟨ty,oT,hr⟩:=aZ hr;have eK:=hC.ty t ty oT;generalize hl:lo.map (λz=>nD (gk s.t z))=l at hr;generalize hh:hi.map (λz=>nD (gk s.t z))=hv at hr;have hnl:l≠some none:=by rintro rfl;cases hr
 have hnh:hv≠some none:=by rintro rfl;split at hr<;>first|cases hr|simp_all
 obtain ⟨bl,nl⟩:=h.bound hl hnl;obtain ⟨bh,nh⟩:=h.bound hh hnh;have hr:(Jf E ty (gk s.t x) (l.bind id) (hv.bind id)).eval=some r:=by
  split at hr
  . cases hr
  . cases hr
  . exact hr
 generalize l.bind id=oW at bl nl hr;generalize hv.bind id=dh at bh nh hr;unfold Jf at hr;split at hr
 . rename_i x' e _
   rw [e] at hx;simp only [az] at hx;simp only [Ty.Ok] at eK;have run:0≤oW.getD 0∧oW.getD 0≤dh.getD x'.length∧dh.getD x'.length≤(x'.length:Int)→
     (execOp a.eval o).run c.P w= .ok (.value (.string ⟨((x'.take (dh.getD x'.length).toNat).drop (oW.getD 0).toNat).toArray⟩)) w:=by
    intro hb;have:=Eo (w:=w) (P:=c.P) (isS:=false) (len:=x'.length) (cap:=x'.length) bl bh nl nh (adK _) hb;simp [execOp,ho,hx,Instr.sliceAt,Instr.slice,run_underlying eK.2,qN,this,FG]
   unfold XX at hr;split at hr
   . rcases cJ hr with ⟨h0,hr⟩|⟨_,hr⟩
     . have h0:=adR h0
       rw [bj hr];refine bJ h (run ⟨h0.1,by simpa using h0.2,by simp⟩) ?_;have:=hx.2;simp [az];omega
     . cases hr
   . rcases cJ hr with ⟨h0,hr⟩|⟨_,hr⟩
     . have h0:=adR h0
       rw [bj hr];refine bJ h (run ⟨h0.1,by simpa using h0.2.1,by simpa using h0.2.2⟩) ?_;have:=hx.2;simp [az];omega
     . cases hr
 . rename_i e _
   obtain ⟨eid,hu,FF⟩:=eK.sl;have run:∀ (ad:Option Addr) (len cap:Nat),a.eval x= .slice ad len cap→len≤cap→0≤oW.getD 0∧oW.getD 0≤dh.getD len∧dh.getD len≤(len:Int)→
     (execOp a.eval o).run c.P w= .ok (.value (.slice (if cap=(oW.getD 0).toNat then ad else ad.map (·.add ((oW.getD 0).toNat*e.size))) ((dh.getD len).toNat - (oW.getD 0).toNat) (cap - (oW.getD 0).toNat))) w:=by
    intro ad len cap hv hlc hb;have:=Eo (w:=w) (P:=c.P) (isS:=true) (len:=len) (cap:=cap) bl bh nl nh hlc hb;simp [execOp,ho,hv,Instr.sliceAt,Instr.slice,run_underlying hu,this,FF.mo]
   unfold XY at hr;split at hr
   . rename_i e' xs tk ex
     rw [ex] at hx;simp only [az] at hx;obtain ⟨fc,_⟩:=hx;split at hr
     . rename_i GW
       have hv:∃ ad cap,a.eval x= .slice ad xs.length cap∧xs.length≤cap∧(xs=[]∨∃ b o',ad=some ⟨b,o',none⟩):=by
        simp only [Ty.aT] at fc;obtain ⟨ad,cap,e1,hc,h3⟩:=fc;refine ⟨ad,cap,(List.cons.inj e1).1,hc.1, ?_⟩;rcases h3 with h3|⟨b,o',h3,_⟩
        . exact .inl h3
        . exact .inr ⟨b,o',h3⟩
       obtain ⟨ad,cap,hv,hc,had⟩:=hv
       -- what comes of it, in one form
       have fin:0≤oW.getD 0∧oW.getD 0≤dh.getD xs.length∧dh.getD xs.length≤(xs.length:Int)→
         uI c μ s o a w (.ro e' ((xs.drop (oW.getD 0).toNat).take ((dh.getD xs.length).toNat - (oW.getD 0).toNat)) none,[]):=by
        intro hb;refine bJ h (run ad xs.length cap hv hc hb) ?_;simp only [az];refine ⟨?_,by simp⟩;rw [hv] at fc;by_cases GU:xs=[]
        . subst GU
          simp only [adC] at hb ⊢;have e1:(dh.getD (0:Nat)).toNat - (oW.getD 0).toNat=0:=by omega
          rw [e1];simp only [List.take_zero];simp only [Ty.aT];exact ⟨_,_,rfl,⟨afI _,afI _⟩, .inl rfl⟩
        . obtain ⟨b,o',rfl⟩:=had.resolve_left GU
          refine LO fc (by omega) ?_;by_cases hcc:cap=(oW.getD 0).toNat
          . left;omega
          . right;refine ⟨b,o',rfl, ?_⟩
            rw [aae hcc];simp only [ags,Addr.add,GW];split<;>simp_all
       split at hr
       . rcases cJ hr with ⟨h0,hr⟩|⟨_,hr⟩
         . have h0:=adR h0
           rw [bj hr];have:=fin ⟨h0.1,by simpa using h0.2,by simp⟩;simpa [afJ] using this
         . cases hr
       . rcases cJ hr with ⟨h0,hr⟩|⟨_,hr⟩
         . have h0:=adR h0
           rw [bj hr];have:=fin ⟨h0.1,by simpa using h0.2.1,by simpa using h0.2.2⟩;simpa [List.drop_take] using this
         . cases hr
     . cases hr
   . rename_i id vw ex
     rw [ex] at hx;obtain ⟨m,hm,hr⟩:=aZ hr;split at hr
     . rename_i GW
       rcases cJ hr with ⟨h0,hr⟩|⟨_,hr⟩
       . have h0:=adR h0
         rw [bj hr];obtain ⟨ad,len,cap,g1,g2,g3,g4⟩:=qO h.vs hE GW;rcases vw with _|⟨off,l1⟩
         . simp only [az] at hx
           obtain ⟨ad',qK,lJ,sz,q1,hv⟩:=hx;rw [g1] at q1;cases q1;obtain rfl:len=m:=ac2 (g4.symm.trans hm);refine bJ h (run ad len cap hv g2 h0) ?_;simp only [az,Option.map_none,Option.getD_none,aeS];refine ⟨ad,len,cap,e.size,_,g1,by omega,g2,rfl, ?_⟩;by_cases hcc:cap=(oW.getD 0).toNat
           . left;omega
           . right
             obtain ⟨b,o',rfl⟩:=g3 (by omega);refine ⟨b,o',rfl, ?_⟩;rw [aae hcc];simp only [ags,Addr.add];split<;>simp_all
         . simp only [az] at hx
           obtain ⟨ad',qK,lJ,sz,ad2,q1,q2,q3,hv,q4⟩:=hx;rw [g1] at q1;cases q1;obtain rfl:l1=m:=ac2 hm;refine bJ h (run ad2 l1 (cap - off) hv (by omega) h0) ?_;simp only [az,ags,agh];refine ⟨ad,len,cap,e.size,_,g1,by omega,g2,by rw [Nat.sub_sub], ?_⟩;by_cases hcc:cap - off=(oW.getD 0).toNat
           . left;omega
           . right
             rcases q4 with q4|⟨b,o',rfl,rfl⟩
             . omega
             refine ⟨b,o',rfl, ?_⟩;rw [aae hcc];simp only [ags,Addr.add];split
             . rename_i hz;simp only [adI,Addr.mk.injEq,true_and,ahb];grind
             grind
       . cases hr
     . cases hr
   . cases hr
 . cases hr
end
end
section
open Go
variable {z:Fz}
theorem kF (a b:List (Nat×bV)):news (a++b)=news a++news b:=by simp [news]
mutual
theorem Ty.lk:(t:Ty)→(x:t.D)→(n:Nat)→n≤(t.bU x n).2.2
 | .bool,_,n=>adK n
 | .int _,_,n=>adK n
 | .str,_,n=>adK n
 | .hole,_,n=>adK n
 | .sl _,_,n=>alo n
 | .fz _,_,n=>adK n
 | .st fs,x,n=>aO.lk fs x n
theorem aO.lk:(t:aO)→(x:t.D)→(n:Nat)→n≤(t.bU x n).2.2
 | .nil,_,n=>adK n
 | .cons t ts,x,n=>adQ (Ty.lk t x.1 n) (aO.lk ts x.2 _)
end
mutual
theorem Ty.pH:(t:Ty)→(x:t.D)→(n:Nat)→∀ id∈aj.bO (t.bU x n).1,n≤id∧id<(t.bU x n).2.2
 | .bool,_,n=>by intro id h;cases h
 | .int _,_,n=>by intro id h;cases h
 | .str,_,n=>by intro id h;cases h
 | .hole,_,n=>by intro id h;cases h
 | .sl e,x,n=>by
   intro id h;have h:id∈[n]:=h;simp at h;subst h;exact ⟨adK _,Nat.lt_succ_self _⟩
 | .fz _,_,n=>by intro id h;cases h
 | .st fs,x,n=>aO.pH fs x n
theorem aO.pH:(t:aO)→(x:t.D)→(n:Nat)→∀ id∈aj.bO (t.bU x n).1,n≤id∧id<(t.bU x n).2.2
 | .nil,_,n=>by intro id h;cases h
 | .cons t ts,x,n=>by
   intro id h;have h:id∈aj.bO ((t.bU x.1 n).1++(ts.bU x.2 (t.bU x.1 n).2.2).1):=h;rw [su,adE] at h;have l1:=Ty.lk t x.1 n;have l2:=aO.lk ts x.2 (t.bU x.1 n).2.2;show n≤id∧id<(ts.bU x.2 (t.bU x.1 n).2.2).2.2;rcases h with h|h
   . have:=Ty.pH t x.1 n id h;omega
   . have:=aO.pH ts x.2 _ id h;omega
end
structure Qw (c:Ctx) (K K':Nat→Prop) (μ μ':Nat→Loc) (fp fp':Nat→List Nat) (v v':Env) (w:World) (f:List Nat):Prop where
 agree:∀ id,K id→μ' id=μ id
 rel:dq c μ' fp' v' w
 known:∀ id x,v' id=some x→K' id∧∀ eD∈x.ids,K' eD
 ac9:∀ id,v' id≠none→(v id≠none∧fp' id=fp id)∨∀ b∈fp' id,b∈f
mutual
theorem Ty.pI {c:Ctx} {w:World}:(t:Ty)→∀ {cs:List Value} {x:t.D} {f:List Nat} {n:Nat} {K:Nat→Prop} {μ:Nat→Loc} {fp:Nat→List Nat} {v:Env},
  dq c μ fp v w→(∀ id x,v id=some x→K id∧∀ eD∈x.ids,K eD)→t.aC c.fz w cs x f→f.Nodup→(∀ b∈f,¬ c.S b∧b<w.heap.size∧(b<c.w0.heap.size→∀ j,c.M b j))→
  (∀ id,v id≠none→∀ b∈fp id,b ∉ f)→(∀ id,n≤id→id<(t.bU x n).2.2→¬ K id)→
  ∃ μ' fp',ak c μ' cs (t.bU x n).1∧Qw c K (λid=>K id∨(n≤id∧id<(t.bU x n).2.2)) μ μ' fp fp' v (cI v (news (t.bU x n).2.1)) w f
 | .bool,cs,x,f,n,K,μ,fp,v,hv,hK,hr,_,_,_,_=>by
   simp only [Ty.aC] at hr;obtain ⟨rfl,rfl⟩:=hr;exact ⟨μ,fp,by simp [Ty.bU,ak,az],⟨λ_ _=>rfl,hv,λid x hx=>⟨.inl (hK id x hx).1,λi hi=> .inl ((hK id x hx).2 i hi)⟩,λid hn=> .inl ⟨hn,rfl⟩⟩⟩
 | .int k,cs,x,f,n,K,μ,fp,v,hv,hK,hr,_,_,_,_=>by
   simp only [Ty.aC] at hr;obtain ⟨rfl,rfl⟩:=hr;exact ⟨μ,fp,by simp [Ty.bU,ak,az],⟨λ_ _=>rfl,hv,λid x hx=>⟨.inl (hK id x hx).1,λi hi=> .inl ((hK id x hx).2 i hi)⟩,λid hn=> .inl ⟨hn,rfl⟩⟩⟩
 | .str,cs,x,f,n,K,μ,fp,v,hv,hK,hr,_,_,_,_=>by
   simp only [Ty.aC] at hr;obtain ⟨rfl,rfl,hx⟩:=hr;exact ⟨μ,fp,by grind [Ty.bU,ak,az],⟨λ_ _=>rfl,hv,λid x hx=>⟨.inl (hK id x hx).1,λi hi=> .inl ((hK id x hx).2 i hi)⟩,λid hn=> .inl ⟨hn,rfl⟩⟩⟩
 | .hole,cs,x,f,n,K,μ,fp,v,hv,hK,hr,_,_,_,_=>by
   simp only [Ty.aC] at hr;obtain ⟨⟨q,rfl,hq⟩,rfl⟩:=hr;exact ⟨μ,fp,by grind [Ty.bU,ak,az],⟨λ_ _=>rfl,hv,λid x hx=>⟨.inl (hK id x hx).1,λi hi=> .inl ((hK id x hx).2 i hi)⟩,λid hn=> .inl ⟨hn,rfl⟩⟩⟩
 | .sl e,cs,x,f,n,K,μ,fp,v,hv,hK,hr,hn,hf,hd,ku=>by
   have LG:=hr;simp only [Ty.aC] at hr;obtain ⟨a,cap,rfl,hc,_⟩:=hr;have hk:¬ K n:=ku n (adK n) (Nat.lt_succ_self n);refine ⟨λid=>if id=n then .tY a (List.length x) cap e.size else μ id,λk=>if k=n then f else fp k, ?_, ?_⟩
   . show ak c _ [_] [aj.dn n none]
     simp only [ak,az];exact ⟨_,[],rfl,⟨a,List.length x,cap,e.size,by simp,rfl⟩,rfl⟩
   . have ha:∀ id,K id→(if id=n then Loc.tY a (List.length x) cap e.size else μ id)=μ id:=by grind
     refine ⟨ha, ?_, ?_, ?_⟩
     . refine hv.nH [] n (.arr e x) f (by grind) (λ_ _ _ _ _ _=>rfl) (adK _) ?_ hn ?_
       . exact ⟨a,cap,aaZ rfl,LG,by grind⟩
       grind
     . intro id y hy
       have hy:(if id=n then some (.arr e x) else v id)=some y:=hy;by_cases hi:id=n
       . rw [aaZ hi] at hy;cases hy
         exact ⟨.inr ⟨by omega,by rw [hi];exact Nat.lt_succ_self n⟩,λi hi=>by cases hi⟩
       grind
     . intro id hy
       have hy:(if id=n then some (.arr e x) else v id)≠none:=hy;grind
 | .fz e,cs,x,f,n,K,μ,fp,v,hv,hK,hr,_,_,_,_=>by
   simp only [Ty.aC] at hr;obtain ⟨hr,rfl⟩:=hr;have LG:=kZ.1 hr;simp only [Ty.aT] at hr;obtain ⟨a,cap,rfl,_⟩:=hr;exact ⟨μ,fp,by simp only [Ty.bU,ak,az];exact ⟨_,[],rfl,⟨LG,by simp⟩,rfl⟩,⟨λ_ _=>rfl,hv,λid x hx=>⟨.inl (hK id x hx).1,λi hi=> .inl ((hK id x hx).2 i hi)⟩,λid hn=> .inl ⟨hn,rfl⟩⟩⟩
 | .st fs,cs,x,f,n,K,μ,fp,v,hv,hK,hr,hn,hf,hd,ku=>aO.pI fs hv hK (by grind [Ty.aC]) hn hf hd ku
theorem aO.pI {c:Ctx} {w:World}:(t:aO)→∀ {cs:List Value} {x:t.D} {f:List Nat} {n:Nat} {K:Nat→Prop} {μ:Nat→Loc} {fp:Nat→List Nat} {v:Env},
  dq c μ fp v w→(∀ id x,v id=some x→K id∧∀ eD∈x.ids,K eD)→t.aC c.fz w cs x f→f.Nodup→(∀ b∈f,¬ c.S b∧b<w.heap.size∧(b<c.w0.heap.size→∀ j,c.M b j))→
  (∀ id,v id≠none→∀ b∈fp id,b ∉ f)→(∀ id,n≤id→id<(t.bU x n).2.2→¬ K id)→
  ∃ μ' fp',ak c μ' cs (t.bU x n).1∧Qw c K (λid=>K id∨(n≤id∧id<(t.bU x n).2.2)) μ μ' fp fp' v (cI v (news (t.bU x n).2.1)) w f
 | .nil,cs,x,f,n,K,μ,fp,v,hv,hK,hr,_,_,_,_=>by
   simp only [aO.aC] at hr;obtain ⟨rfl,rfl⟩:=hr;exact ⟨μ,fp,by simp [aO.bU,ak],⟨λ_ _=>rfl,hv,λid x hx=>⟨.inl (hK id x hx).1,λi hi=> .inl ((hK id x hx).2 i hi)⟩,λid hn=> .inl ⟨hn,rfl⟩⟩⟩
 | .cons t ts,cs,x,f,n,K,μ,fp,v,hv,hK,hr,hn,hf,hd,ku=>by
   simp only [aO.aC] at hr;obtain ⟨c1,c2,f1,f2,rfl,rfl,h1,h2⟩:=hr;have JL:=ad1.1 hn;have l1:=Ty.lk t x.1 n;have l2:=aO.lk ts x.2 (t.bU x.1 n).2.2;have e22:((aO.cons t ts).bU x n).2.2=(ts.bU x.2 (t.bU x.1 n).2.2).2.2:=rfl;have e21:((aO.cons t ts).bU x n).2.1=(t.bU x.1 n).2.1++(ts.bU x.2 (t.bU x.1 n).2.2).2.1:=rfl;have e1:((aO.cons t ts).bU x n).1=(t.bU x.1 n).1++(ts.bU x.2 (t.bU x.1 n).2.2).1:=rfl;obtain ⟨Ba,MJ,r1,ch1⟩:=Ty.pI t hv hK h1 JL.1 (by grind) (by grind) (λid h3 h4=>ku id h3 (by rw [e22];omega));obtain ⟨μ2,fp2,r2,ch2⟩:=aO.pI ts (n:=(t.bU x.1 n).2.2) ch1.rel ch1.known h2 JL.2.1 (by grind)
    (λid hv' b hb cE=>by
     rcases ch1.ac9 id hv' with ⟨q1,q2⟩|q
     . grind
     grind)
    (by grind)
   refine ⟨μ2,fp2, ?_, ?_⟩
   . rw [e1]
     refine ak.append (ak.mono _ (λid hi=> ?_) r1) r2;exact ch2.agree id (by grind [Ty.pH,id])
   . rw [e21,e22,kF,dV]
     refine ⟨λid hi=>(ch2.agree id (.inl hi)).trans (ch1.agree id hi),ch2.rel, ?_, ?_⟩
     . intro id y hy
       have:=ch2.known id y hy;grind
     . intro id hy
       rcases ch2.ac9 id hy with ⟨q1,q2⟩|q
       . rcases ch1.ac9 id q1 with ⟨q3,q4⟩|q'
         . grind
         grind
       grind
end
section
variable {c:Ctx} {μ:Nat→Loc} {fp:Nat→List Nat} {s:mU} {n:Nat} {o:Oper} {a:Act} {w:World} {r:jR} {C:Cx} {E:Env}
variable (h:js c μ fp s n a w)
include h
theorem js.bU {t:Ty} {cs:List Value} {x:t.D} {f:List Nat} {k:Nat} (hr:t.aC c.fz w cs x f) (hn:f.Nodup) (hf:∀ b∈f,¬ c.S b∧b<w.heap.size∧(b<c.w0.heap.size→∀ j,c.M b j))
  (hd:∀ id,s.v id≠none→∀ b∈fp id,b ∉ f) (ku:∀ id,k≤id→id<(t.bU x k).2.2→¬ s.k id):
  ∃ μ' fp',ak c μ' cs (t.bU x k).1∧Qw c s.k (λid=>s.k id∨(k≤id∧id<(t.bU x k).2.2)) μ μ' fp fp' s.v (cI s.v (news (t.bU x k).2.1)) w f:=
 Ty.pI t h.vs h.known.v hr hn hf hd ku
theorem js.GY (t:Ty) {k:Nat} (ku:∀ id,k≤id→id<(t.bU t.zero k).2.2→¬ s.k id):
  ∃ μ' fp',ak c μ' t.zeroV (t.bU t.zero k).1∧Qw c s.k (λid=>s.k id∨(k≤id∧id<(t.bU t.zero k).2.2)) μ μ' fp fp' s.v (cI s.v (news (t.bU t.zero k).2.1)) w []:=
 h.bU (Ty.lL w t) (by simp) (by simp) (by simp) ku
end
end
section
open Go
mutual
theorem Ty.kG:(t:Ty)→(x:t.D)→(n:Nat)→(t.bU x n).1.all aj.bB=true
 | .bool,_,_=>rfl
 | .int _,_,_=>rfl
 | .str,_,_=>rfl
 | .hole,_,_=>rfl
 | .sl _,_,_=>rfl
 | .fz _,_,_=>rfl
 | .st fs,x,n=>aO.kG fs x n
theorem aO.kG:(t:aO)→(x:t.D)→(n:Nat)→(t.bU x n).1.all aj.bB=true
 | .nil,_,_=>rfl
 | .cons t ts,x,n=>by
   show ((t.bU x.1 n).1++(ts.bU x.2 (t.bU x.1 n).2.2).1).all aj.bB=true;rw [akX,Ty.kG t x.1 n,aO.kG ts x.2 _];rfl
end
mutual
theorem Ty.pJ:(t:Ty)→(x:t.D)→(n:Nat)→(t.bU x n).1.length=t.size
 | .bool,_,_=>rfl
 | .int _,_,_=>rfl
 | .str,_,_=>rfl
 | .hole,_,_=>rfl
 | .sl _,_,_=>rfl
 | .fz _,_,_=>rfl
 | .st fs,x,n=>aO.pJ fs x n
theorem aO.pJ:(t:aO)→(x:t.D)→(n:Nat)→(t.bU x n).1.length=t.size
 | .nil,_,_=>rfl
 | .cons t ts,x,n=>by
   show ((t.bU x.1 n).1++(ts.bU x.2 (t.bU x.1 n).2.2).1).length=t.size+ts.size;rw [aaY,Ty.pJ t x.1 n,aO.pJ ts x.2 _]
end
section
variable {c:Ctx} {μ:Nat→Loc} {fp:Nat→List Nat} {s:mU} {n:Nat} {o:Oper} {a:Act} {w:World} {r:jR} {C:Cx} {E:Env}
theorem FH {w:World} {C:Array Value} {E:TypeId} {k:Nat} (h:C.size=k):aK (w.alloc (.cells C E)) w.heap.size 0 k=C.toList:=by grind [cM,heap_alloc_new,List.take_of_length_le]
theorem Qx {K:Nat→Prop} {μ:Nat→Loc} {fp:Nat→List Nat} {v:Env} {w:World} (hv:dq c μ fp v w) (ev:Ev c w) (hK:∀ id x,v id=some x→K id∧∀ eD∈x.ids,K eD)
  {fr:Nat} (ku:¬ K fr) {cs:List aj} {C:Array Value} {T:TypeId} (hr:ak c μ C.toList cs) (hc:cs.all aj.bB=true) (Ep:∀ id∈aj.bO cs,id≠fr):
  (∀ id,K id→(λid=>if id=fr then Loc.at w.heap.size 0 else μ id) id=μ id)∧
  dq c (λid=>if id=fr then .at w.heap.size 0 else μ id) (λk=>if k=fr then [w.heap.size] else fp k) (cI v [(fr,some (.var cs))]) (w.alloc (.cells C T))∧Ev c (w.alloc (.cells C T)):=by
 have ha:∀ id,K id→(λid=>if id=fr then Loc.at w.heap.size 0 else μ id) id=μ id:=by grind
 refine ⟨ha, ?_,ev.alloc _ _⟩;have hl:=hr.length;refine hv.qM ev [] fr (.var cs) [w.heap.size] (by grind)
  (λid hn _ _ b hb=>heap_alloc_old w _ b (hv.lt id hn b hb)) (by simp) ?_ (by simp) (by simp)
 refine ⟨w.heap.size,0,C,T,by simp,rfl,heap_alloc_new w _,by simp [← hl], ?_,hc,λcf=> ?_⟩
 . simp_all [FH,ak.mono]
 . have:=ev.size;omega
variable (h:js c μ fp s n a w)
include h
theorem RP (hC:kM C c.P) {t:TypeId} (ho:o.op= .alloc t) {fr:Nat}
  (ku:∀ id,fr≤id→id<fr+64→¬ s.k id)
  (hr:(Out.of (C.ty t) λt=>if (t.bU t.zero (fr+1)).2.2≤fr+64 then
   .ret (.vptr fr 0,news (t.bU t.zero (fr+1)).2.1++[(fr,some (.var (t.bU t.zero (fr+1)).1))]) else .fail).eval=some r):uI c μ s o a w r:=by
 replace hr:=aZ hr;obtain ⟨ty,oT,hr⟩:=hr;have eK:=hC.ty t ty oT;split at hr
 case isFalse=>cases hr
 rename_i h64;obtain ⟨z,hz,hzc⟩:=eK.Yj (w:=w);have hle:=Ty.lk ty ty.zero (fr+1);obtain ⟨Ba,MJ,r1,ch⟩:=h.GY ty (k:=fr+1) (by grind);have hk:¬ (s.k fr∨(fr+1≤fr∧fr<(ty.bU ty.zero (fr+1)).2.2)):=by grind
 obtain ⟨q1,q2,q3⟩:=Qx (T:=t) ch.rel h.ev ch.known hk (by rw [hzc];exact r1) (Ty.kG ty _ _) (λid hi=>by have:=Ty.pH ty ty.zero (fr+1) id hi;omega);have hr:=ac2 hr;subst hr;refine fw (v':= .pointer (some ⟨w.heap.size,0,none⟩)) (fp':=λk=>if k=fr then [w.heap.size] else MJ k) (by simp [execOp,ho,Instr.alloc,hz,newVar,newRow]) ⟨λid hi=>(q1 id (.inl hi)).trans (ch.agree id hi), ?_, ?_,q3⟩
 . simp only [az];exact ⟨w.heap.size,0,by simp,rfl⟩
 . rw [dV];exact q2
theorem ada {t:TypeId} {x:Operand} (ho:o.op= .box t x) {fr:Nat} (ku:¬ s.k fr)
  (hr:(Out.of (C.ty t) λt=>if (gk s.t x).cells.length=t.size∧(gk s.t x).cells.all aj.bB=true then .ret (.vptr fr 0,[(fr,some (.var (gk s.t x).cells))]) else .fail).eval=some r):uI c μ s o a w r:=by
 have hx:=h.de x;obtain ⟨ty,oT,hr⟩:=aZ hr;split at hr
 . rename_i hc
   have hr:=ac2 hr;subst hr;have vn:=hx.cells hc.2;obtain ⟨q1,q2,q3⟩:=Qx (T:=t) h.vs h.ev h.known.v ku vn hc.2 (λid hi e=>by
    subst e;refine ku ?_;cases x with
    |tmp j=>
     refine h.known.t j id ?_;cases hd:s.t j<;>simp only [gk,hd,aj.cells] at hi<;>first|(simpa [aj.bO] using hi)|grind [aj.ids]
    |const v=>simp only [gk,ofValue] at hi;grind [aj.cells,aj.bO,aj.ids]
    |func f=>grind [gk,aj.cells,aj.bO,aj.ids]
    |global g=>grind [gk,aj.cells,aj.bO,aj.ids])
   refine fw (v':= .pointer (some ⟨w.heap.size,0,none⟩)) (by simp [execOp,ho,Instr.box,newVar,newRow]) ⟨q1, ?_,q2,q3⟩;simp only [az];exact ⟨w.heap.size,0,by simp,rfl⟩
 . cases hr
theorem FI (hC:kM C c.P) {t:TypeId} {x y:Operand} (ho:o.op= .makeSlice t x y) {fr:Nat} (ku:¬ s.k fr)
  (hr:(Out.of (C.ty t) λt=> .of (Ed t) λe=> .of (nD (gk s.t x)) λn=> .of (nD (gk s.t y)) λm=>
   .ite (decide (0≤n∧n≤m∧m≤(bn:Int))) (.ret (.dn fr none,[(fr,some (.arr e (List.replicate n.toNat e.zero)))])) .fail).eval=some r):uI c μ s o a w r:=by
 have hx:=h.de x;have hy:=h.de y;obtain ⟨ty,oT,hr⟩:=aZ hr;obtain ⟨e,he,hr⟩:=aZ hr;obtain ⟨l,hl,hr⟩:=aZ hr;obtain ⟨m,hm,hr⟩:=aZ hr;have oT:C.ty t=some (.sl e):=BN he ▸ oT;obtain ⟨eid,hu,eK⟩:=(hC.ty t _ oT).sl;obtain ⟨kl,el⟩:=BO hl;obtain ⟨km,em⟩:=BO hm;rw [el] at hx;rw [em] at hy;simp only [az] at hx hy;rcases cJ hr with ⟨h0,hr⟩|⟨_,hr⟩
 . have h0:0≤l∧l≤m∧m≤(bn:Int):=adR h0
   have hr:=ac2 hr;subst hr;obtain ⟨i,z,hi,hs,hb,hz,hzc,qb⟩:=eK.base;have Jo:(i.bytes:Int)*m≤281474976710656:=by
    have h1:(i.bytes:Int)*m≤1024*m:=Int.mul_le_mul_of_nonneg_right (by omega) (by omega);grind
   have lh:=run_make (P:=c.P) w t eid i z hu hi hz kl km l m h0.1 h0.2.1 Jo (by grind);have um:cR c (λid=>if id=fr then .tY (some ⟨w.heap.size,0,none⟩) (List.replicate l.toNat e.zero).length m.toNat e.size else μ id) (w.alloc (.cells (madeCells z.cells (m.toNat*i.size)) eid)) fr [w.heap.size] (.arr e (List.replicate l.toNat e.zero)):=by
    refine ⟨some ⟨w.heap.size,0,none⟩,m.toNat,by simp, ?_,λb cE cf=> ?_⟩
    . simp only [Ty.aC]
      refine ⟨_,m.toNat,rfl,by grind, .inr ⟨w.heap.size,0,_,eid,List.replicate l.toNat [],rfl,heap_alloc_new w _, ?_,by simp,by simp, ?_⟩⟩
      . grind [size_madeCells]
      . intro j y f yr hf
        have hj:j<l.toNat:=by grind
        have MK:(List.replicate l.toNat e.zero)[j]? =some y:=yr;have hf2:(List.replicate l.toNat ([]:List Nat))[j]? =some f:=hf;rw [afX,aaZ hj] at MK hf2;cases MK;cases hf2;have:aK (w.alloc (.cells (madeCells z.cells (m.toNat*i.size)) eid)) w.heap.size (0+j*e.size) e.size=e.zeroV:=by
         rw [cM (heap_alloc_new w _)];have hzl:e.zeroV.length=e.size:=Ty.fQ e;have N4:z.cells.size=e.size:=by grind
         apply ae8;intro k;by_cases hk:k<e.size
         . rw [aeb hk,ad5,aeD]
           have hjk:0+j*e.size+k<m.toNat*i.size:=by
            rw [hs];have:(j+1)*e.size≤m.toNat*e.size:=aek _ (by omega);grind
           have ate:(0+j*e.size+k) % z.cells.size=k:=by
            rw [N4,aeS,Nat.add_comm,Nat.add_mul_mod_self_right,alC hk]
           rw [← hzc,aeD];simp_all [madeCells]
         grind
        grind [Ty.lL]
    . simp at cE;subst cE;have:=h.ev.size;omega
   obtain ⟨q1,q2⟩:=h.new ku [] _ _ _ (λid hn _ b cE=>heap_alloc_old w _ b (h.vs.lt id hn b cE)) (by simp) um (by simp) (by simp);refine fw (v':= .slice (some ⟨w.heap.size,0,none⟩) l.toNat m.toNat) (by simp_all [execOp]) ⟨q1, ?_,q2,h.ev.alloc _ _⟩;grind [az,List.replicate,List.length_replicate]
 . cases hr
end
end
section
open Go
variable {z:Fz}
section
variable {c:Ctx} {μ:Nat→Loc} {fp:Nat→List Nat} {s:mU} {n:Nat} {o:Oper} {a:Act} {w:World} {r:jR} {C:Cx} {E:Env}
theorem LY (v:Env) (l:pS) (x y:Nat×Option bV):cI (cI v (l++[x])) ((([]:List Nat).map λi=>(i,none))++[y])=cI v (l++[x,y]):=by grind [dV]
def x7 (t:Ty) (cs:List Value):Value:=if t.lb=true then .agg cs.toArray else cs.headD Go.undef
theorem jt {w:World} {B o k m n:Nat} (h:k+m≤n):aK w B (o+k) m=((aK w B o n).drop k).take m:=by
 unfold aK;split
 . grind [List.drop_take,List.drop_drop,Nat.min_eq_left]
 . simp
theorem kg {w:World} {B o n j:Nat} {v:Value} (h:(aK w B o n)[j]? =some v):w.cell? ⟨B,o+j,none⟩=some v:=by grind [aK,Nat.lt_or_ge,List.getElem?_eq_none,List.getElem?_take_of_lt,World.cell?]
theorem AL {P:Program} {t:Ty} {tid:TypeId} (eK:t.Ok P tid) {B o':Nat} {cs:List Value} (Ff:aK w B o' t.size=cs) (hl:cs.length=t.size):
  (loadVar tid ⟨B,o',none⟩).run P w= .ok (x7 t cs) w:=by
 have nI:∀ j v,cs[j]? =some v→w.cell? ((⟨B,o',none⟩:Addr).add j)=some v:=by
  intro j v hv;have:(⟨B,o',none⟩:Addr).add j=⟨B,o'+j,none⟩:=by grind [Addr.add]
  grind [kg]
 cases vP:t.lb with
 |true=>
  have:=run_loadCells_list (P:=P) w ⟨B,o',none⟩ cs nI;rw [hl] at this;simp [loadVar,eK.pG,vP,eK.mo,this,x7]
 |false=>
  have h1:t.size=1:=by cases t<;>simp_all [Ty.size,Ty.lb]
  rw [h1] at hl;obtain ⟨v,rfl⟩:=Pi.1 hl;have:=nI 0 v rfl;have h0:(⟨B,o',none⟩:Addr).add 0=⟨B,o',none⟩:=by simp [Addr.add]
  rw [h0] at this;simp [loadVar,eK.pG,vP,x7,run_load,this]
theorem mW {t:Ty} {cs:List Value} {ds:List aj} (h:ak c μ cs ds) (hl:ds.length=t.size):az c μ (x7 t cs) (oq t ds):=by
 cases vP:t.lb with
 |true=>
  simp only [oq,vP,x7,agm,az];exact ⟨_,rfl,by simpa using h⟩
 |false=>
  have h1:t.size=1:=by cases t<;>simp_all [Ty.size,Ty.lb]
  rw [h1] at hl;obtain ⟨d,rfl⟩:=Pi.1 hl;simp only [ak] at h;obtain ⟨v,bg,rfl,h,rfl⟩:=h;grind [GV,x7]
mutual
theorem Ty.pK:(t:Ty)→(x:t.D)→(t.kD x).length=t.size
 | .bool,_=>rfl
 | .int _,_=>rfl
 | .str,_=>rfl
 | .hole,_=>rfl
 | .sl _,_=>rfl
 | .fz _,_=>rfl
 | .st fs,x=>aO.pK fs x
theorem aO.pK:(t:aO)→(x:t.D)→(t.kD x).length=t.size
 | .nil,_=>rfl
 | .cons t ts,x=>by
   show (t.kD x.1++ts.kD x.2).length=t.size+ts.size;rw [aaY,Ty.pK t,aO.pK ts]
end
mutual
theorem Ty.pL:(t:Ty)→(x:t.D)→(t.kE x).length=t.size
 | .bool,_=>rfl
 | .int _,_=>rfl
 | .str,_=>rfl
 | .hole,_=>rfl
 | .sl _,_=>rfl
 | .fz _,_=>rfl
 | .st fs,x=>aO.pL fs x
theorem aO.pL:(t:aO)→(x:t.D)→(t.kE x).length=t.size
 | .nil,_=>rfl
 | .cons t ts,x=>by
   show (t.kE x.1++ts.kE x.2).length=t.size+ts.size;rw [aaY,Ty.pL t,aO.pL ts]
end
theorem x8 (b:Nat) (p f1 fm f2 q:List Nat):(b::(p++(f1++fm++f2)++q)).Perm ((b::(p++f1++f2++q))++fm):=by grind
theorem GZ {w:World} {B o n:Nat} {pre yv post:List Value} (h:aK w B o n=pre++yv++post):aK w B (o+pre.length) yv.length=yv:=by
 have hl:(aK w B o n).length≤n:=by grind [aK,List.length_take]
 grind [List.length_append,jt]
theorem pM {t t':Ty} (h:t'=t∨∃ e,t= .sl e∧t'= .fz e):t'.size=t.size∧t'.lb=t.lb:=by
 rcases h with rfl|⟨e,rfl,rfl⟩
 . grind
 . exact ⟨rfl,rfl⟩
mutual
theorem Ty.jJ:(t:Ty)→(off:Nat)→(u:Ty)→t.dD off u=u∨∃ e,u= .sl e∧t.dD off u= .fz e
 | .bool,_,_=> .inl rfl
 | .int _,_,_=> .inl rfl
 | .str,_,_=> .inl rfl
 | .hole,_,_=> .inl rfl
 | .sl _,_,_=> .inl rfl
 | .fz e,off,u=>by
   simp only [Ty.dD];split
   . rename_i h;exact .inr ⟨e,Ty.beq_eq _ _ h.2,rfl⟩
   grind
 | .st fs,off,u=>by simp only [Ty.dD];exact aO.jJ fs off u
theorem aO.jJ:(t:aO)→(off:Nat)→(u:Ty)→t.dD off u=u∨∃ e,u= .sl e∧t.dD off u= .fz e
 | .nil,_,_=> .inl rfl
 | .cons t ts,off,u=>by
   simp only [aO.dD];split
   . exact Ty.jJ t off u
   . exact aO.jJ ts _ u
end
theorem LZ (v:Env):∀ (u:pS) {k:Nat},k ∉ u.map (·.1)→cI v u k=v k
 |[],_,_=>rfl
 |(id,x)::u,k,hk=>by simp_all [not_or,cI,LZ]
theorem Qy (v v':Env):∀ (u:pS) {k:Nat},v k=v' k→cI v u k=cI v' u k
 |[],_,h=>h
 |(id,x)::u,k,h=>by
  simp only [cI];exact Qy _ _ u (by simp only [h])
mutual
theorem Ty.sy:(t:Ty)→(x:t.D)→(n:Nat)→∀ y∈(t.bU x n).2.1,n≤y.1∧y.1<(t.bU x n).2.2
 | .bool,_,n=>by intro y h;cases h
 | .int _,_,n=>by intro y h;cases h
 | .str,_,n=>by intro y h;cases h
 | .hole,_,n=>by intro y h;cases h
 | .sl e,x,n=>by
   intro y h;have h:y∈[(n,bV.arr e x)]:=h;simp at h;subst h;exact ⟨adK _,Nat.lt_succ_self _⟩
 | .fz _,_,n=>by intro y h;cases h
 | .st fs,x,n=>aO.sy fs x n
theorem aO.sy:(t:aO)→(x:t.D)→(n:Nat)→∀ y∈(t.bU x n).2.1,n≤y.1∧y.1<(t.bU x n).2.2
 | .nil,_,n=>by intro y h;cases h
 | .cons t ts,x,n=>by
   intro y h;have h:y∈(t.bU x.1 n).2.1++(ts.bU x.2 (t.bU x.1 n).2.2).2.1:=h;have l1:=Ty.lk t x.1 n;have l2:=aO.lk ts x.2 (t.bU x.1 n).2.2;show n≤y.1∧y.1<(ts.bU x.2 (t.bU x.1 n).2.2).2.2;rcases adE.1 h with h|h
   . have:=Ty.sy t x.1 n y h;omega
   . have:=aO.sy ts x.2 _ y h;omega
end
theorem dq.part {c:Ctx} {w:World} {μ:Nat→Loc} {fp:Nat→List Nat} {v v':Env} (h:dq c μ fp v w) (hv:∀ id x,v' id=some x→v id=some x):dq c μ fp v' w where
 rel id x hx:=h.rel id x (hv id x hx)
 nodup id x hx:=h.nodup id x (hv id x hx)
 sep id eD fE h1 h2:=by
  obtain ⟨x,hx⟩:=Option.ne_none_iff_exists'.1 h1;obtain ⟨y,hy⟩:=Option.ne_none_iff_exists'.1 h2;exact h.sep id eD fE (by grind) (by grind)
 kL id h1:=by
  obtain ⟨x,hx⟩:=Option.ne_none_iff_exists'.1 h1;exact h.kL id (by grind)
 lt id h1:=by
  obtain ⟨x,hx⟩:=Option.ne_none_iff_exists'.1 h1;exact h.lt id (by grind)
variable (h:js c μ fp s n a w)
include h
theorem RQ (hE:∀ id x,E id=some x→s.v id=some x) {x:Operand} {fr:Nat} (ku:¬ s.k fr) {ty:Ty} {id i off b o' len cap sz:Nat} {vr:bV} (JM:E id=some vr)
  (run:∀ (B o':Nat) (cs:List Value),a.eval x= .pointer (some ⟨B,o',none⟩)→aK w B o' ty.size=cs→cs.length=ty.size→(execOp a.eval o).run c.P w= .ok (.value (x7 ty cs)) w)
  (hm:μ id= .tY (some ⟨b,o',none⟩) len cap sz) (hi:i<len) (hv:a.eval x= .pointer (some ⟨b,o'+i*sz+off,none⟩)) (hr:(XU E ty id i off fr vr).eval=some r):uI c μ s o a w r:=by
 unfold XU at hr;replace hr:=aZ hr;obtain ⟨⟨e',xs⟩,hu,hr⟩:=hr;replace hr:=j9 hr;obtain ⟨z,hz,hr⟩:=hr;replace hr:=aZ hr;obtain ⟨y,hy,hr⟩:=hr;obtain ⟨Y6,hti⟩:=pM (Ty.jJ e' off ty);have run:∀ (B o':Nat) (cs:List Value),a.eval x= .pointer (some ⟨B,o',none⟩)→aK w B o' (e'.dD off ty).size=cs→cs.length=(e'.dD off ty).size→(execOp a.eval o).run c.P w= .ok (.value (x7 (e'.dD off ty) cs)) w:=by
  intro B o' cs q1 q2 q3;rw [Y6] at q2 q3;have:=run B o' cs q1 q2 q3;unfold x7 at this ⊢;rw [hti];exact this
 clear Y6 hti;revert y hy hr run;generalize e'.dD off ty=ty;intro y hy hr run;obtain ⟨ad,lJ,f,g1,g2,g3,g4,g5,g6⟩:=jH h.vs hE JM hu;rw [hm] at g1;cases g1;obtain ⟨b2,o2,D,T,p,fi,q,k1,k2,k3,k4,k5,k6,k7⟩:=zX g2 hz;cases k1;obtain ⟨pre,yv,post,f1,fm,f2,l1,l2,l3,l4,l5⟩:=Ty.mV e' k6 hy;have hl:=Ty.fW ty l4;have Ff:=GZ l1;rw [hl,l2] at Ff;have run':=run b (o'+i*e'.size+off) yv hv Ff hl;split at hr
 . -- a slice inside: held beside
   rename_i es y';have hr:=ac2 hr;subst hr;have uf:f.Nodup:=g3.nodup_iff.2 (h.vs.lK _ g4 λk hk=>(g5 k hk).1);simp only [Ty.aC] at l4;obtain ⟨a',cap2,adb,hc2,l4'⟩:=l4;have l4:(Ty.sl es).aC c.fz w [.slice a' (List.length y') cap2] y' fm:=by simp only [Ty.aC];exact ⟨a',cap2,rfl,hc2,l4'⟩
   have e0:f=b::(p++fi++q):=k5;have rk:f.Perm ((b::(p++f1++f2++q))++fm):=by rw [e0,l3];exact x8 b p f1 fm f2 q
   have alE:((b::(p++f1++f2++q))++fm).Nodup:=rk.nodup_iff.1 uf;have JL:=ad1.1 alE;have afD:∀ b'∈b::(p++f1++f2++q),b'∈f:=λb' cE=>rk.mem_iff.2 (adE.2 (.inl cE));have afE:∀ b'∈fm,b'∈f:=λb' cE=>rk.mem_iff.2 (adE.2 (.inr cE));have fE:id≠fr:=λe=>ku (e ▸ (h.known.v id vr (hE _ _ JM)).1);have ha:∀ k,s.k k→(λk=>if k=fr then Loc.tY a' (List.length y') cap2 es.size else μ k) k=μ k:=λk hk=>aae λ(e:k=fr)=>ku (e ▸ hk);have oU:cR c (λk=>if k=fr then Loc.tY a' (List.length y') cap2 es.size else μ k) w id (b::(p++f1++f2++q)) (.Ea e' xs z i off (.sl es) fr):=by
    refine ⟨some ⟨b,o',none⟩,cap,(ha id (h.known.v id vr (hE _ _ JM)).1).trans hm, ?_,λb' cE cf=>g6 b' (afD b' cE) cf,k4, .inr ⟨b,o',rfl⟩,hz⟩;have apI:D[o'+i*e'.size+off]? =some (.slice a' (List.length y') cap2):=by
     have:=kg (w:=w) (B:=b) (o:=o'+i*e'.size+off) (n:=1) (j:=0) (v:= .slice a' (List.length y') cap2) (by
      have:=Ff;rw [show (Ty.sl es).size=1 from rfl] at this;rw [this,adb];rfl)
     simpa [World.cell?, k2] using this
    refine ⟨a',List.length y',cap2,es,b,o',D,T,aaZ rfl,rfl,rfl,by simp,k2,apI,λz' w' D' hd ys fp' F7 cE atf apJ Y5 xV Yn=> ?_⟩;have hnb:b ∉ p++f1++f2++q:=(aeP.1 JL.1).1;have LN:∀ b'∈p++f1++f2++q,w'.heap[b']? =w.heap[b']? :=λb' pP=>xV b' (by simp at pP ⊢; simp [pP]) (λe=>hnb (e ▸ pP));obtain ⟨x',hx1,Sk⟩:=l5 z' w' [hd] ys fp' F7 (λb' cE=>LN b' (by simp at cE ⊢; rcases cE with h|h<;>simp [h])) Yn;refine ⟨z,x',b::(p++(f1++fp'++f2)++q),hz,hx1, ?_,x8 b p f1 fp' f2 q⟩;have Sf:pre.length+1+post.length=e'.size:=by
     have:=Ty.fW e' k6;rw [l1,adb] at this;simp at this;omega
    refine k7 z' w' x' (f1++fp'++f2) D' F7 cE atf (λj hj=>apJ j (by
     rintro rfl
     rw [aeG] at hj;omega)) (λb' cE=>LN b' (by simp at cE ⊢; rcases cE with h|h<;>simp [h])) (λcE=>hnb (by simp at cE ⊢; rcases cE with h|h<;>simp [h])) ?_
    have hcw:aK w' b (o'+i*e'.size) e'.size=pre++[hd]++post:=by
     have hw0:aK w b (o'+i*e'.size) e'.size=pre++[.slice a' (List.length y') cap2]++post:=by rw [l1,adb]
     rw [cM k2] at hw0;rw [cM cE];apply ae8;intro k;have hk0:=congrArg (λl=>l[k]?) hw0;by_cases hk:k<e'.size
     . rw [aeb hk,ad5,aeD] at hk0 ⊢
       by_cases hko:k=off
       . subst hko
         rw [Y5, ← l2];simp
       . rw [apJ (o'+i*e'.size+k) (by omega),hk0]
         rw [adO,adO];rcases afw k pre.length with h'|h'
         . rw [aja h',aja h']
         . rw [ahc h',ahc h']
           cases hkk:k - pre.length with
           |zero=>omega
           |succ m=>simp
     . rw [afA (by simp;omega),afA (by simp;omega)]
    rw [hcw];exact Sk
   have h1:=h.vs.qM (μ':=λk=>if k=fr then Loc.tY a' (List.length y') cap2 es.size else μ k) (w':=w) h.ev (bW vr) id (.Ea e' xs z i off (.sl es) fr) (b::(p++f1++f2++q))
    (λk x hx _ _=>⟨ha k (h.known.v k x hx).1,λk' rr=>ha k' ((h.known.v k x hx).2 k' rr)⟩) (λ_ _ _ _ _ _=>rfl) (adK _) oU JL.1
    (λb' cE=>by
     obtain ⟨k,hk,OR⟩:=List.mem_flatMap.1 (g3.mem_iff.1 (afD b' cE));exact .inr ⟨k,adM.1 hk,(g5 k hk).1,OR⟩)
   have h2:=h1.nH (μ':=λk=>if k=fr then Loc.tY a' (List.length y') cap2 es.size else μ k) (w':=w) [] fr (.arr es y') fm
    (λ_ _ _ _ _=>⟨rfl,λ_ _=>rfl⟩) (λ_ _ _ _ _ _=>rfl) (adK _) ⟨a',cap2,aaZ rfl,l4,λb' cE cf=>g6 b' (afE b' cE) cf⟩ JL.2.1
    (λb' cE=>by
     obtain ⟨k,hk,OR⟩:=List.mem_flatMap.1 (g3.mem_iff.1 (afE b' cE));refine ⟨h.vs.kL k (g5 k hk).1 b' OR,h.vs.lt k (g5 k hk).1 b' OR,λk' rr hkf _ hb3=> ?_⟩;by_cases fg:k'=id
     . rw [aaZ fg] at hb3
       exact JL.2.2 b' hb3 b' cE rfl
     . rw [aae fg] at hb3
       rw [iw,aae fg] at rr;split at rr
       . exact rr rfl
       . rename_i hnr
         refine h.vs.sep k' k ?_ rr (g5 k hk).1 b' hb3 OR
         rintro rfl
         rcases adM.1 hk with hk|hk
         . exact fg hk
         . exact hnr hk)
   rw [LY] at h2;refine fw run' ⟨ha, ?_,h2,h.ev⟩;rw [adb];simp only [x7,Ty.lb,aeF,if_false,List.headD_cons,az];exact ⟨a',List.length y',cap2,es.size,by simp,rfl⟩
 . rename_i Q3
   rw [bj hr];exact bJ h run' (mW (Ty.pD ty l4) (Ty.pL ty y))
theorem RR (hE:∀ id x,E id=some x→s.v id=some x) {x:Operand} {fr:Nat} (ku:∀ id,fr≤id→id<fr+64→¬ s.k id) {ty:Ty} {id i off b o' len cap sz:Nat} {vr:bV} (JM:E id=some vr)
  (run:∀ (B o':Nat) (cs:List Value),a.eval x= .pointer (some ⟨B,o',none⟩)→aK w B o' ty.size=cs→cs.length=ty.size→(execOp a.eval o).run c.P w= .ok (.value (x7 ty cs)) w)
  (hm:μ id= .tY (some ⟨b,o',none⟩) len cap sz) (hi:i<len) (hv:a.eval x= .pointer (some ⟨b,o'+i*sz+off,none⟩))
  (hr:(Out.of (jr E vr) λex=> .get (nth ex.2 i) λx=>if off+ty.size≤ex.1.size∧(ex.1.bU x fr).2.2≤fr+64 then
   .ret (oq ty (((ex.1.bU x fr).1.drop off).take ty.size),((bW vr).map λk=>(k,none))++([(id,some (.xN ex.1 ex.2 i (ex.1.bU x fr).1))]++news (ex.1.bU x fr).2.1)) else .fail).eval=some r):uI c μ s o a w r:=by
 obtain ⟨⟨e',xs⟩,hu,hr⟩:=aZ hr;obtain ⟨z,hz,hr⟩:=j9 hr;split at hr
 case isFalse=>cases hr
 rename_i hc;obtain ⟨GW,h64⟩:=hc;have hr:=ac2 hr;subst hr;simp only at GW h64;obtain ⟨ad,lJ,f,g1,g2,g3,g4,g5,g6⟩:=jH h.vs hE JM hu;rw [hm] at g1;cases g1;obtain ⟨b2,o2,D,T,p,fi,q,k1,k2,k3,k4,k5,k6,k7⟩:=zX g2 hz;cases k1;have hlen:=Ty.fW e' k6;have uf:f.Nodup:=g3.nodup_iff.2 (h.vs.lK _ g4 λk hk=>(g5 k hk).1);rw [k5] at uf;have rk:=GS b p fi q;have JL:=ad1.1 (rk.nodup_iff.1 uf);have Yo:∀ b'∈(b::(p++q))++fi,b'∈f:=λb' cE=>k5 ▸ rk.mem_iff.2 cE;have L0:∀ b'∈f,∃ k∈id::bW vr,s.v k≠none∧b'∈fp k:=λb' cE=>by
  obtain ⟨k,hk,OR⟩:=List.mem_flatMap.1 (g3.mem_iff.1 cE);exact ⟨k,hk,(g5 k hk).1,OR⟩
 -- those that are left, and the list without the item: as a part of it, its blocks
 have apM:cR c μ w id (b::(p++q)) (.xN e' xs i (List.replicate e'.size .dead))→True:=λ_=>trivial;clear apM;have ath:dq c μ fp (cI s.v (((id::bW vr).map λk=>(k,none)))) w:=by
  refine h.vs.part λk x hk=> ?_;rw [lM] at hk;split at hk
  . cases hk
  . exact hk
 have apN:∀ k x,cI s.v (((id::bW vr).map λk=>(k,none))) k=some x→s.k k∧∀ k'∈x.ids,s.k k':=λk x hk=>by
  rw [lM] at hk;split at hk
  . cases hk
  . exact h.known.v k x hk
 obtain ⟨Ba,MJ,q1,ch⟩:=Ty.pI (c:=c) (w:=w) e' (n:=fr) ath apN k6 JL.2.1
  (λb' cE=>by
   obtain ⟨k,hk,Fg,N5⟩:=L0 b' (Yo b' (adE.2 (.inr cE)));exact ⟨h.vs.kL k Fg b' N5,h.vs.lt k Fg b' N5,g6 b' (Yo b' (adE.2 (.inr cE)))⟩)
  (λk hk b' cE Er=>by
   obtain ⟨k',rr,Fg,N5⟩:=L0 b' (Yo b' (adE.2 (.inr Er)));rw [lM] at hk;split at hk
   . exact hk rfl
   . rename_i RS
     exact h.vs.sep k k' (λe=>RS (e ▸ rr)) hk Fg b' cE N5)
  (λk Fg N5=>ku k Fg (by omega))
 have JS:s.k id:=(h.known.v id vr (hE _ _ JM)).1;have ati:¬ (fr≤id∧id<(e'.bU z fr).2.2):=λq=>ku id q.1 (by omega) JS;have oU:cR c Ba w id (b::(p++q)) (.xN e' xs i (e'.bU z fr).1):=by
  refine ⟨_,cap,b,o',D,T,p,q,(ch.agree id JS).trans hm,rfl,rfl,k2,k3,k4,hi,λz' w' x' MF C' a1 a2 a3 a4 a5 a6 a7=>k7 z' w' x' MF C' a1 a2 a3 a4 a5 a6 a7,q1,(Ty.pJ e' z fr),Ty.kG e' z fr, ?_, ?_⟩
  . exact (aeP.1 JL.1).1
  . exact λb' cE cf=>g6 b' (Yo b' (adE.2 (.inl cE))) cf
 have alF:cI (cI s.v ((id::bW vr).map λk=>(k,none))) (news (e'.bU z fr).2.1) id=none∨True:= .inr trivial;clear alF;have x9:=ch.rel.nH (μ':=Ba) (w':=w) [] id (.xN e' xs i (e'.bU z fr).1) (b::(p++q)) (λ_ _ _ _ _=>⟨rfl,λ_ _=>rfl⟩) (λ_ _ _ _ _ _=>rfl) (adK _) oU JL.1
  (λb' cE=>by
   obtain ⟨k,hk,Fg,N5⟩:=L0 b' (Yo b' (adE.2 (.inl cE)));refine ⟨h.vs.kL k Fg b' N5,h.vs.lt k Fg b' N5,λk' rr fE _ hb3=> ?_⟩;rcases ch.ac9 k' rr with ⟨h1,h2⟩|h1
   . rw [h2] at hb3
     rw [lM] at h1;split at h1
     . exact h1 rfl
     . rename_i RS
       exact h.vs.sep k' k (λe=>RS (e ▸ hk)) h1 Fg b' hb3 N5
   . exact JL.2.2 b' cE b' (h1 b' hb3) rfl)
 have ade:cI s.v (((bW vr).map λk=>(k,none))++([(id,some (.xN e' xs i (e'.bU z fr).1))]++news (e'.bU z fr).2.1))=
   cI (cI (cI s.v ((id::bW vr).map λk=>(k,none))) (news (e'.bU z fr).2.1)) ((([]:List Nat).map λi=>(i,none))++[(id,some (.xN e' xs i (e'.bU z fr).1))]):=by
  have N6:id ∉ (news (e'.bU z fr).2.1).map (·.1):=λpP=>by
   obtain ⟨y,hy,e⟩:=List.mem_map.1 pP;obtain ⟨y2,MK,rfl⟩:=List.mem_map.1 (show y∈(e'.bU z fr).2.1.map λx=>(x.1,some x.2) from hy);have:=Ty.sy e' z fr y2 MK;simp only at e;rw [e] at this;exact ati this
  rw [dV,dV];funext k;rw [iw];simp only [List.not_mem_nil,if_false];by_cases hk:k=id
  . subst hk
    rw [aaZ rfl,LZ _ _ N6];simp [cI]
  . rw [aae hk]
    refine Qy _ _ _ ?_;simp only [cI,ael,lM,aae hk]
 have Ff:=(show aK w b (o'+i*e'.size+off) ty.size=((aK w b (o'+i*e'.size) e'.size).drop off).take ty.size from jt GW)
 refine fw (fp':=λk=>if k=id then b::(p++q) else MJ k) (run b (o'+i*e'.size+off) _ hv Ff (by simp [hlen];omega)) ⟨λk hk=>ch.agree k hk, ?_, ?_,h.ev⟩
 . exact mW ((q1.drop off).take ty.size) (by simp [Ty.pJ];omega)
 . rw [ade];exact x9
theorem Yp (hC:kM C c.P) (hE:∀ id x,E id=some x→s.v id=some x) {t:TypeId} {x:Operand} (ho:o.op= .load t x) {fr:Nat} (ku:∀ id,fr≤id→id<fr+64→¬ s.k id) {kd:Nat}
  (hr:(Out.of (C.ty t) λt=>Eb E kd t (gk s.t x) fr).eval=some r):uI c μ s o a w r:=by
 have hx:=h.de x;replace hr:=aZ hr;obtain ⟨ty,oT,hr⟩:=hr;have eK:=hC.ty t ty oT;have run:∀ (B o':Nat) (cs:List Value),a.eval x= .pointer (some ⟨B,o',none⟩)→aK w B o' ty.size=cs→cs.length=ty.size→(execOp a.eval o).run c.P w= .ok (.value (x7 ty cs)) w:=by
  intro B o' cs hv Ff hl;simp [execOp,ho,hv,Instr.loadAt,Instr.sureAddr,AL eK Ff hl]
 unfold Eb at hr;split at hr
 . rename_i id off e
   rw [e] at hx;simp only [az] at hx;obtain ⟨B,o',hm,hv⟩:=hx;split at hr
   . rename_i cs fg
     split at hr
     . rename_i hle
       rw [bj hr];obtain ⟨B2,o2,D,T,q1,q2,q3,q4,q5,q6,_⟩:=h.vs.rel id _ (hE _ _ fg);rw [hm] at q1;cases q1;have hl:=q5.length;have gu:aK w B (o'+off) ty.size=((aK w B o' cs.length).drop off).take ty.size:=jt hle;refine bJ h (run B (o'+off) _ hv gu (by simp [hl];omega)) ?_;exact mW ((q5.drop off).take ty.size) (by simp;omega)
     . cases hr
   . cases hr
 . rename_i t' x' off e
   rw [e] at hx;simp only [az] at hx;obtain ⟨b,o',hb,fc,hv⟩:=hx;replace hr:=aZ hr;obtain ⟨y,hy,hr⟩:=hr;obtain ⟨Y6,hti⟩:=pM (Ty.jJ t' off ty);have run:∀ (B o':Nat) (cs:List Value),a.eval x= .pointer (some ⟨B,o',none⟩)→aK w B o' (t'.dD off ty).size=cs→cs.length=(t'.dD off ty).size→(execOp a.eval o).run c.P w= .ok (.value (x7 (t'.dD off ty) cs)) w:=by
    intro B o' cs q1 q2 q3;rw [Y6] at q2 q3;have:=run B o' cs q1 q2 q3;unfold x7 at this ⊢;rw [hti];exact this
   clear Y6 hti;revert y hy hr run;generalize t'.dD off ty=ty;intro y hy hr run;rw [bj hr];obtain ⟨pre,yv,post,e1,e2,hm⟩:=Ty.sv t' fc hy;have hl:=Ty.lI ty hm;have Ff:=GZ e1;rw [hl,e2] at Ff;refine bJ h (run b (o'+off) yv hv (by rw [fT (h.ev.S b hb)];exact Ff) hl) ?_;exact mW (Ty.pC ty hm) (Ty.pK ty y)
 . rename_i id i off e
   rw [e] at hx;simp only [az] at hx;obtain ⟨b,o',len,cap,sz,hm,hi,hv⟩:=hx;replace hr:=aZ hr;obtain ⟨vr,JM,hr⟩:=hr;unfold afy at hr;split at hr
   . rename_i e' xs j cs
     split at hr
     case isFalse=>cases hr
     rename_i hle;rcases cJ hr with ⟨IE,h2⟩|⟨_,h2⟩
     case inr=>cases h2
     have IE:i=j:=by simpa using IE
     subst IE;rw [bj h2];obtain ⟨ad,cap2,b2,o2,D,T,p,q,q1,q2,q3,q4,q5,q6,q7,q8,q9,q10,q11,_⟩:=h.vs.rel id _ (hE _ _ JM);rw [hm] at q1;cases q1;cases q2;have Ff:aK w b (o'+i*e'.size+off) ty.size=((aK w b (o'+i*e'.size) e'.size).drop off).take ty.size:=jt (by omega);refine bJ h (run b (o'+i*e'.size+off) _ hv Ff (by have:=q9.length;simp;omega)) ?_;exact mW ((q9.drop off).take ty.size) (by simp;omega)
   . exact RR h hE ku JM run hm hi hv hr
   . exact RQ h hE (ku fr (adK _) (by omega)) JM run hm hi hv hr
 . cases hr
end
end
end Go.Proofs.YtkmhgofibfmjfaaGreat.Dm
