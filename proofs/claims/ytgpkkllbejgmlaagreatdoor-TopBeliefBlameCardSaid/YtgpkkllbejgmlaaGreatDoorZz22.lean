import Derived.Test.YtgpkkllbejgmlaaGreatDoorZz14
import Derived.Test.YtgpkkllbejgmlaaGreatDoorZz21
set_option linter.unusedSimpArgs false
set_option linter.unusedVariables false
set_option maxRecDepth 10000
namespace Go.Proofs.YtgpkkllbejgmlaaGreatDoor
section
open Go.Eng
theorem someB_one {k:K} {p:Int} {s:St} {t:Int} (hv:validS k s=true) (hp:0≤p∧p<k.parties) (h0:0≤t) (h1:t<k.acts.length):someB k [p] s t.toNat=SeesR k s p t:=by
 unfold someB SeesR
 simp only[List.any_cons,List.any_nil,Bool.or_false,hv,decide_eq_true hp.1,decide_eq_true hp.2,decide_eq_true h0,decide_eq_true h1,Bool.true_and]
theorem pjT_seen {k:K} {p:Int} (hp:0≤p∧p<k.parties) {l:List Int} (hok:∀j,j≤l.length→(runE k l j).2=0):∀i,i≤l.length→pjT k [p] l i=((runE k l i).1,seenL k p l i,0)
 |0,_=>rfl
 |i+1,hi=>by
  have e:=runE_step (hok i (by omega))
  have hs:=hok (i+1) hi
  rw[pjT,pjT_seen hp hok i (by omega),if_neg (by simp)]
  rw[e] at hs ⊢
  unfold pjF
  rw[if_neg (by simpa using hs)]
  obtain⟨g1,g2,g3,-⟩:=stepS_good hs
  have hb:(l.getD i default==-1||someB k [p] (runE k l i).1 (l.getD i default).toNat)=seenB k p l i:=by
   unfold seenB
   by_cases h:l.getD i default=-1
   ·rw[h];rfl
   ·rw[someB_one g1 hp (by omega) g3]
  show((stepS k (runE k l i).1 (l.getD i default)).1,(if(l.getD i default==-1||someB k [p] (runE k l i).1 (l.getD i default).toNat)=true then seenL k p l i++[l.getD i default] else seenL k p l i),(0:Int))=_
  rw[hb]
  rfl
theorem view_seen {k:K} {p:Int} (hp:0≤p∧p<k.parties) {l:List Int} (hl:l.length≤4000) (hok:∀j,j≤l.length→(runE k l j).2=0):jointR k l [p]=(seenL k p l l.length,0):=by
 have h0:(startS k).2=0:=hok 0 (Nat.zero_le _)
 unfold jointR
 have hb:badPs k [p]=false:=by
  unfold badPs strB
  simp[decide_eq_false (show ¬p<0 by omega),decide_eq_false (show ¬k.parties≤p by omega)]
 rw[if_neg (by simpa using h0),if_neg (by rw[hb];simp),if_neg (by omega)]
 unfold seenR
 rw[pjT_seen hp hok _ (Nat.le_refl _),if_pos rfl]
end
end Go.Proofs.YtgpkkllbejgmlaaGreatDoor
