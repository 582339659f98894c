/- f -/
import Derived.Test.YtnlleofnjkeimaaGreatDoorSo
import Derived.Shelf.Strings.OnBuilder
import Derived.Test.YtnlleofnjkeimaaGreatDoorJ10
import Derived.Test.YtnlleofnjkeimaaGreatDoorShelf
namespace Go.Proofs.YtnlleofnjkeimaaGreatDoor.Dm
open Go Go.RowKit
section
variable {z:Fz}
end
section
open Go Go.ChangeShapes Go.WideShapes Go.ChangeAt Go.RowKit
theorem sB {α:Type} {n:Nat} {a b:α} (h:n≤1000000):(bif decide (n≤bA) then a else b)=a:=by rw [aaE (by rw [nF];omega)];rfl
theorem nG {next tick:Int} {dX:List (List az)} {ps:List af} {os:List aj} {bN:List iO} {files:List et} {rd out:List Int} (h:b5 next tick dX ps os bN files rd out=true):
  dX.length≤4∧(∀ x∈dX,bH x=true)∧ps.length≤6∧os.length≤8∧bN.length≤3∧(∀ x∈bN,x.2.1.length≤4)∧files.length≤6∧(∀ x∈files,x.2.1.length≤8)∧rd.length≤6∧out.length≤60∧∀ x∈rd,1≤x∧x≤100000:=by
 have h0:=h;unfold b5 fP cO ln at h;simp only [aa4,abS] at h;obtain ⟨⟨⟨⟨⟨⟨⟨⟨⟨n1,t1⟩,⟨p1,p2⟩,p3⟩,o1⟩,o2⟩,q1⟩,q2⟩,r1⟩,⟨⟨⟨⟨⟨k1,k2⟩,k3⟩,k4⟩,k5⟩,k6⟩⟩,⟨w1,w2⟩⟩:=h;have hf:=abD.1 (jD k6);have rf:=abD.1 (jD k5);have Rk:=abD.1 (jD r1);have hle:(aH ps).length≤ps.length:=by unfold aH;rw [acF];exact adA _ _
 refine ⟨p2,abD.1 p3,q1,k1,k2,λx hx=> ?_,k3,λx hx=> ?_,by omega,o1,λx hx=> ?_⟩
 . have:=rf x hx
   unfold iH at this;simp only [aa4,abS] at this;exact this.1.1.2
 . have:=hf x hx
   unfold eF at this;simp only [aa4,abS] at this;exact this.2.1
 . have hn:(aH ps).Nodup:=(oU r1).imp λh e=>by omega
   have hp:=lX hn (λy hy=>oV.1 (abD.1 w1 y hy)) w2;have LM:=hp.mem_iff.2 hx;unfold aH at LM;obtain ⟨p,hp1,rfl⟩:=List.mem_map.1 LM;have:=Rk p (List.mem_filter.1 hp1).1;unfold ee at this;rw [aa4] at this;have h1:=this.1;have Es:1≤next∧next≤100000:=by simpa [dh] using n1
   rw [b7 (n:=next - 1) (by omega) (by omega)] at h1;have h2:1≤p.1∧p.1≤next - 1:=by simpa [dh] using h1
   unfold ao;omega
end
end Go.Proofs.YtnlleofnjkeimaaGreatDoor.Dm
