/-
  PairForced: the calls that it makes.
-/
import Derived.Test.YtlknjgmhfimhbabGreatDoorCPairForced0t0
import Derived.Test.YtlknjgmhfimhbabGreatDoorCPairForced0t1
import Derived.Test.YtlknjgmhfimhbabGreatDoorCPairForced0t2
import Derived.Test.YtlknjgmhfimhbabGreatDoorCPairForced0t3
import Derived.Test.YtlknjgmhfimhbabGreatDoorCPairForced0t4
import Derived.Test.YtlknjgmhfimhbabGreatDoorCPairForced1t0
import Derived.Test.YtlknjgmhfimhbabGreatDoorCPairForced1t1
import Derived.Test.YtlknjgmhfimhbabGreatDoorCPairForced1t2
set_option linter.unusedVariables false
set_option maxRecDepth 100000
set_option maxHeartbeats 4000000
namespace Go.Proofs.YtlknjgmhfimhbabGreatDoor.D
open Go Go.PM
noncomputable def TB0 : List Known := []
theorem okk0 : ∀ e ∈ TB0, dcallF DGx tab 29 e.f e.args e.H e.n e.lo = some e.r := fun _ h => nomatch h
noncomputable def TB1 : List Known := kn0 :: TB0
theorem okk1 : ∀ e ∈ TB1, dcallF DGx tab 29 e.f e.args e.H e.n e.lo = some e.r := List.forall_mem_cons.2 ⟨tk0, okk0⟩
noncomputable def TB2 : List Known := kn1 :: TB1
theorem okk2 : ∀ e ∈ TB2, dcallF DGx tab 29 e.f e.args e.H e.n e.lo = some e.r := List.forall_mem_cons.2 ⟨tk1, okk1⟩
noncomputable def TB3 : List Known := kn2 :: TB2
theorem okk3 : ∀ e ∈ TB3, dcallF DGx tab 29 e.f e.args e.H e.n e.lo = some e.r := List.forall_mem_cons.2 ⟨tk2, okk2⟩
noncomputable def TB4 : List Known := kn3 :: TB3
theorem okk4 : ∀ e ∈ TB4, dcallF DGx tab 29 e.f e.args e.H e.n e.lo = some e.r := List.forall_mem_cons.2 ⟨tk3, okk3⟩
noncomputable def TB5 : List Known := kn4 :: TB4
theorem okk5 : ∀ e ∈ TB5, dcallF DGx tab 29 e.f e.args e.H e.n e.lo = some e.r := List.forall_mem_cons.2 ⟨tk4, okk4⟩
noncomputable def TB6 : List Known := kn5 :: TB5
theorem okk6 : ∀ e ∈ TB6, dcallF DGx tab 29 e.f e.args e.H e.n e.lo = some e.r := List.forall_mem_cons.2 ⟨tk5, okk5⟩
noncomputable def TB7 : List Known := kn6 :: TB6
theorem okk7 : ∀ e ∈ TB7, dcallF DGx tab 29 e.f e.args e.H e.n e.lo = some e.r := List.forall_mem_cons.2 ⟨tk6, okk6⟩
noncomputable def TB8 : List Known := kn7 :: TB7
theorem okk8 : ∀ e ∈ TB8, dcallF DGx tab 29 e.f e.args e.H e.n e.lo = some e.r := List.forall_mem_cons.2 ⟨tk7, okk7⟩
noncomputable def TB9 : List Known := kn8 :: TB8
theorem okk9 : ∀ e ∈ TB9, dcallF DGx tab 29 e.f e.args e.H e.n e.lo = some e.r := List.forall_mem_cons.2 ⟨tk8, okk8⟩
noncomputable def TB10 : List Known := kn9 :: TB9
theorem okk10 : ∀ e ∈ TB10, dcallF DGx tab 29 e.f e.args e.H e.n e.lo = some e.r := List.forall_mem_cons.2 ⟨tk9, okk9⟩
noncomputable def TB11 : List Known := kn10 :: TB10
theorem okk11 : ∀ e ∈ TB11, dcallF DGx tab 29 e.f e.args e.H e.n e.lo = some e.r := List.forall_mem_cons.2 ⟨tk10, okk10⟩
noncomputable def TB12 : List Known := kn11 :: TB11
theorem okk12 : ∀ e ∈ TB12, dcallF DGx tab 29 e.f e.args e.H e.n e.lo = some e.r := List.forall_mem_cons.2 ⟨tk11, okk11⟩
noncomputable def TB13 : List Known := kn12 :: TB12
theorem okk13 : ∀ e ∈ TB13, dcallF DGx tab 29 e.f e.args e.H e.n e.lo = some e.r := List.forall_mem_cons.2 ⟨tk12, okk12⟩
noncomputable def TB14 : List Known := kn13 :: TB13
theorem okk14 : ∀ e ∈ TB14, dcallF DGx tab 29 e.f e.args e.H e.n e.lo = some e.r := List.forall_mem_cons.2 ⟨tk13, okk13⟩
noncomputable def TB15 : List Known := kn14 :: TB14
theorem okk15 : ∀ e ∈ TB15, dcallF DGx tab 29 e.f e.args e.H e.n e.lo = some e.r := List.forall_mem_cons.2 ⟨tk14, okk14⟩
noncomputable def TB16 : List Known := kn15 :: TB15
theorem okk16 : ∀ e ∈ TB16, dcallF DGx tab 29 e.f e.args e.H e.n e.lo = some e.r := List.forall_mem_cons.2 ⟨tk15, okk15⟩
noncomputable def TB17 : List Known := kn16 :: TB16
theorem okk17 : ∀ e ∈ TB17, dcallF DGx tab 29 e.f e.args e.H e.n e.lo = some e.r := List.forall_mem_cons.2 ⟨tk16, okk16⟩
noncomputable def TB18 : List Known := kn17 :: TB17
theorem okk18 : ∀ e ∈ TB18, dcallF DGx tab 29 e.f e.args e.H e.n e.lo = some e.r := List.forall_mem_cons.2 ⟨tk17, okk17⟩
noncomputable def TB19 : List Known := kn18 :: TB18
theorem okk19 : ∀ e ∈ TB19, dcallF DGx tab 29 e.f e.args e.H e.n e.lo = some e.r := List.forall_mem_cons.2 ⟨tk18, okk18⟩
noncomputable def TB20 : List Known := kn19 :: TB19
theorem okk20 : ∀ e ∈ TB20, dcallF DGx tab 29 e.f e.args e.H e.n e.lo = some e.r := List.forall_mem_cons.2 ⟨tk19, okk19⟩
noncomputable def TB21 : List Known := kn20 :: TB20
theorem okk21 : ∀ e ∈ TB21, dcallF DGx tab 29 e.f e.args e.H e.n e.lo = some e.r := List.forall_mem_cons.2 ⟨tk20, okk20⟩
noncomputable def TB22 : List Known := kn21 :: TB21
theorem okk22 : ∀ e ∈ TB22, dcallF DGx tab 29 e.f e.args e.H e.n e.lo = some e.r := List.forall_mem_cons.2 ⟨tk21, okk21⟩
noncomputable def TB23 : List Known := kn22 :: TB22
theorem okk23 : ∀ e ∈ TB23, dcallF DGx tab 29 e.f e.args e.H e.n e.lo = some e.r := List.forall_mem_cons.2 ⟨tk22, okk22⟩
noncomputable def TB24 : List Known := kn23 :: TB23
theorem okk24 : ∀ e ∈ TB24, dcallF DGx tab 29 e.f e.args e.H e.n e.lo = some e.r := List.forall_mem_cons.2 ⟨tk23, okk23⟩
noncomputable def TB25 : List Known := kn24 :: TB24
theorem okk25 : ∀ e ∈ TB25, dcallF DGx tab 29 e.f e.args e.H e.n e.lo = some e.r := List.forall_mem_cons.2 ⟨tk24, okk24⟩
noncomputable def TB26 : List Known := kn25 :: TB25
theorem okk26 : ∀ e ∈ TB26, dcallF DGx tab 29 e.f e.args e.H e.n e.lo = some e.r := List.forall_mem_cons.2 ⟨tk25, okk25⟩
noncomputable def TB27 : List Known := kn26 :: TB26
theorem okk27 : ∀ e ∈ TB27, dcallF DGx tab 29 e.f e.args e.H e.n e.lo = some e.r := List.forall_mem_cons.2 ⟨tk26, okk26⟩
noncomputable def TB28 : List Known := kn27 :: TB27
theorem okk28 : ∀ e ∈ TB28, dcallF DGx tab 29 e.f e.args e.H e.n e.lo = some e.r := List.forall_mem_cons.2 ⟨tk27, okk27⟩
noncomputable def TB29 : List Known := kn28 :: TB28
theorem okk29 : ∀ e ∈ TB29, dcallF DGx tab 29 e.f e.args e.H e.n e.lo = some e.r := List.forall_mem_cons.2 ⟨tk28, okk28⟩
noncomputable def TB30 : List Known := kn29 :: TB29
theorem okk30 : ∀ e ∈ TB30, dcallF DGx tab 29 e.f e.args e.H e.n e.lo = some e.r := List.forall_mem_cons.2 ⟨tk29, okk29⟩
noncomputable def TB31 : List Known := kn30 :: TB30
theorem okk31 : ∀ e ∈ TB31, dcallF DGx tab 29 e.f e.args e.H e.n e.lo = some e.r := List.forall_mem_cons.2 ⟨tk30, okk30⟩
noncomputable def TB32 : List Known := kn31 :: TB31
theorem okk32 : ∀ e ∈ TB32, dcallF DGx tab 29 e.f e.args e.H e.n e.lo = some e.r := List.forall_mem_cons.2 ⟨tk31, okk31⟩
noncomputable def TB33 : List Known := kn32 :: TB32
theorem okk33 : ∀ e ∈ TB33, dcallF DGx tab 29 e.f e.args e.H e.n e.lo = some e.r := List.forall_mem_cons.2 ⟨tk32, okk32⟩
noncomputable def TB34 : List Known := kn33 :: TB33
theorem okk34 : ∀ e ∈ TB34, dcallF DGx tab 29 e.f e.args e.H e.n e.lo = some e.r := List.forall_mem_cons.2 ⟨tk33, okk33⟩
noncomputable def TB35 : List Known := kn34 :: TB34
theorem okk35 : ∀ e ∈ TB35, dcallF DGx tab 29 e.f e.args e.H e.n e.lo = some e.r := List.forall_mem_cons.2 ⟨tk34, okk34⟩
noncomputable def TB36 : List Known := kn35 :: TB35
theorem okk36 : ∀ e ∈ TB36, dcallF DGx tab 29 e.f e.args e.H e.n e.lo = some e.r := List.forall_mem_cons.2 ⟨tk35, okk35⟩
noncomputable def TB37 : List Known := kn36 :: TB36
theorem okk37 : ∀ e ∈ TB37, dcallF DGx tab 29 e.f e.args e.H e.n e.lo = some e.r := List.forall_mem_cons.2 ⟨tk36, okk36⟩
noncomputable def TB38 : List Known := kn37 :: TB37
theorem okk38 : ∀ e ∈ TB38, dcallF DGx tab 29 e.f e.args e.H e.n e.lo = some e.r := List.forall_mem_cons.2 ⟨tk37, okk37⟩
noncomputable def TB39 : List Known := kn38 :: TB38
theorem okk39 : ∀ e ∈ TB39, dcallF DGx tab 29 e.f e.args e.H e.n e.lo = some e.r := List.forall_mem_cons.2 ⟨tk38, okk38⟩
noncomputable def TB40 : List Known := kn39 :: TB39
theorem okk40 : ∀ e ∈ TB40, dcallF DGx tab 29 e.f e.args e.H e.n e.lo = some e.r := List.forall_mem_cons.2 ⟨tk39, okk39⟩
noncomputable def TB41 : List Known := kn40 :: TB40
theorem okk41 : ∀ e ∈ TB41, dcallF DGx tab 29 e.f e.args e.H e.n e.lo = some e.r := List.forall_mem_cons.2 ⟨tk40, okk40⟩
noncomputable def TB42 : List Known := kn41 :: TB41
theorem okk42 : ∀ e ∈ TB42, dcallF DGx tab 29 e.f e.args e.H e.n e.lo = some e.r := List.forall_mem_cons.2 ⟨tk41, okk41⟩
noncomputable def TB43 : List Known := kn42 :: TB42
theorem okk43 : ∀ e ∈ TB43, dcallF DGx tab 29 e.f e.args e.H e.n e.lo = some e.r := List.forall_mem_cons.2 ⟨tk42, okk42⟩
noncomputable def TB44 : List Known := kn43 :: TB43
theorem okk44 : ∀ e ∈ TB44, dcallF DGx tab 29 e.f e.args e.H e.n e.lo = some e.r := List.forall_mem_cons.2 ⟨tk43, okk43⟩
noncomputable def TB45 : List Known := kn44 :: TB44
theorem okk45 : ∀ e ∈ TB45, dcallF DGx tab 29 e.f e.args e.H e.n e.lo = some e.r := List.forall_mem_cons.2 ⟨tk44, okk44⟩
noncomputable def TB46 : List Known := kn45 :: TB45
theorem okk46 : ∀ e ∈ TB46, dcallF DGx tab 29 e.f e.args e.H e.n e.lo = some e.r := List.forall_mem_cons.2 ⟨tk45, okk45⟩
noncomputable def TB47 : List Known := kn46 :: TB46
theorem okk47 : ∀ e ∈ TB47, dcallF DGx tab 29 e.f e.args e.H e.n e.lo = some e.r := List.forall_mem_cons.2 ⟨tk46, okk46⟩
noncomputable def TB48 : List Known := kn47 :: TB47
theorem okk48 : ∀ e ∈ TB48, dcallF DGx tab 29 e.f e.args e.H e.n e.lo = some e.r := List.forall_mem_cons.2 ⟨tk47, okk47⟩
noncomputable def TB49 : List Known := kn48 :: TB48
theorem okk49 : ∀ e ∈ TB49, dcallF DGx tab 29 e.f e.args e.H e.n e.lo = some e.r := List.forall_mem_cons.2 ⟨tk48, okk48⟩
noncomputable def TB50 : List Known := kn49 :: TB49
theorem okk50 : ∀ e ∈ TB50, dcallF DGx tab 29 e.f e.args e.H e.n e.lo = some e.r := List.forall_mem_cons.2 ⟨tk49, okk49⟩
noncomputable def TB51 : List Known := kn50 :: TB50
theorem okk51 : ∀ e ∈ TB51, dcallF DGx tab 29 e.f e.args e.H e.n e.lo = some e.r := List.forall_mem_cons.2 ⟨tk50, okk50⟩
noncomputable def TB52 : List Known := kn51 :: TB51
theorem okk52 : ∀ e ∈ TB52, dcallF DGx tab 29 e.f e.args e.H e.n e.lo = some e.r := List.forall_mem_cons.2 ⟨tk51, okk51⟩
noncomputable def TB53 : List Known := kn52 :: TB52
theorem okk53 : ∀ e ∈ TB53, dcallF DGx tab 29 e.f e.args e.H e.n e.lo = some e.r := List.forall_mem_cons.2 ⟨tk52, okk52⟩
noncomputable def TB54 : List Known := kn53 :: TB53
theorem okk54 : ∀ e ∈ TB54, dcallF DGx tab 29 e.f e.args e.H e.n e.lo = some e.r := List.forall_mem_cons.2 ⟨tk53, okk53⟩
noncomputable def TB55 : List Known := kn54 :: TB54
theorem okk55 : ∀ e ∈ TB55, dcallF DGx tab 29 e.f e.args e.H e.n e.lo = some e.r := List.forall_mem_cons.2 ⟨tk54, okk54⟩
noncomputable def TB56 : List Known := kn55 :: TB55
theorem okk56 : ∀ e ∈ TB56, dcallF DGx tab 29 e.f e.args e.H e.n e.lo = some e.r := List.forall_mem_cons.2 ⟨tk55, okk55⟩
noncomputable def TB57 : List Known := kn56 :: TB56
theorem okk57 : ∀ e ∈ TB57, dcallF DGx tab 29 e.f e.args e.H e.n e.lo = some e.r := List.forall_mem_cons.2 ⟨tk56, okk56⟩
noncomputable def TB58 : List Known := kn57 :: TB57
theorem okk58 : ∀ e ∈ TB58, dcallF DGx tab 29 e.f e.args e.H e.n e.lo = some e.r := List.forall_mem_cons.2 ⟨tk57, okk57⟩
noncomputable def TB59 : List Known := kn58 :: TB58
theorem okk59 : ∀ e ∈ TB59, dcallF DGx tab 29 e.f e.args e.H e.n e.lo = some e.r := List.forall_mem_cons.2 ⟨tk58, okk58⟩
noncomputable def TB60 : List Known := kn59 :: TB59
theorem okk60 : ∀ e ∈ TB60, dcallF DGx tab 29 e.f e.args e.H e.n e.lo = some e.r := List.forall_mem_cons.2 ⟨tk59, okk59⟩
noncomputable def TB61 : List Known := kn60 :: TB60
theorem okk61 : ∀ e ∈ TB61, dcallF DGx tab 29 e.f e.args e.H e.n e.lo = some e.r := List.forall_mem_cons.2 ⟨tk60, okk60⟩
noncomputable def TB62 : List Known := kn61 :: TB61
theorem okk62 : ∀ e ∈ TB62, dcallF DGx tab 29 e.f e.args e.H e.n e.lo = some e.r := List.forall_mem_cons.2 ⟨tk61, okk61⟩
noncomputable def TB63 : List Known := kn62 :: TB62
theorem okk63 : ∀ e ∈ TB63, dcallF DGx tab 29 e.f e.args e.H e.n e.lo = some e.r := List.forall_mem_cons.2 ⟨tk62, okk62⟩
noncomputable def TB64 : List Known := kn63 :: TB63
theorem okk64 : ∀ e ∈ TB64, dcallF DGx tab 29 e.f e.args e.H e.n e.lo = some e.r := List.forall_mem_cons.2 ⟨tk63, okk63⟩
noncomputable def TB65 : List Known := kn64 :: TB64
theorem okk65 : ∀ e ∈ TB65, dcallF DGx tab 29 e.f e.args e.H e.n e.lo = some e.r := List.forall_mem_cons.2 ⟨tk64, okk64⟩
noncomputable def TB66 : List Known := kn65 :: TB65
theorem okk66 : ∀ e ∈ TB66, dcallF DGx tab 29 e.f e.args e.H e.n e.lo = some e.r := List.forall_mem_cons.2 ⟨tk65, okk65⟩
noncomputable def TB67 : List Known := kn66 :: TB66
theorem okk67 : ∀ e ∈ TB67, dcallF DGx tab 29 e.f e.args e.H e.n e.lo = some e.r := List.forall_mem_cons.2 ⟨tk66, okk66⟩
noncomputable def TB68 : List Known := kn67 :: TB67
theorem okk68 : ∀ e ∈ TB68, dcallF DGx tab 29 e.f e.args e.H e.n e.lo = some e.r := List.forall_mem_cons.2 ⟨tk67, okk67⟩
noncomputable def TB69 : List Known := kn68 :: TB68
theorem okk69 : ∀ e ∈ TB69, dcallF DGx tab 29 e.f e.args e.H e.n e.lo = some e.r := List.forall_mem_cons.2 ⟨tk68, okk68⟩
noncomputable def TB70 : List Known := kn69 :: TB69
theorem okk70 : ∀ e ∈ TB70, dcallF DGx tab 29 e.f e.args e.H e.n e.lo = some e.r := List.forall_mem_cons.2 ⟨tk69, okk69⟩
noncomputable def TB71 : List Known := kn70 :: TB70
theorem okk71 : ∀ e ∈ TB71, dcallF DGx tab 29 e.f e.args e.H e.n e.lo = some e.r := List.forall_mem_cons.2 ⟨tk70, okk70⟩
noncomputable def TB72 : List Known := kn71 :: TB71
theorem okk72 : ∀ e ∈ TB72, dcallF DGx tab 29 e.f e.args e.H e.n e.lo = some e.r := List.forall_mem_cons.2 ⟨tk71, okk71⟩
noncomputable def TB73 : List Known := kn72 :: TB72
theorem okk73 : ∀ e ∈ TB73, dcallF DGx tab 29 e.f e.args e.H e.n e.lo = some e.r := List.forall_mem_cons.2 ⟨tk72, okk72⟩
noncomputable def TB74 : List Known := kn73 :: TB73
theorem okk74 : ∀ e ∈ TB74, dcallF DGx tab 29 e.f e.args e.H e.n e.lo = some e.r := List.forall_mem_cons.2 ⟨tk73, okk73⟩
noncomputable def TB75 : List Known := kn74 :: TB74
theorem okk75 : ∀ e ∈ TB75, dcallF DGx tab 29 e.f e.args e.H e.n e.lo = some e.r := List.forall_mem_cons.2 ⟨tk74, okk74⟩
noncomputable def TB76 : List Known := kn75 :: TB75
theorem okk76 : ∀ e ∈ TB76, dcallF DGx tab 29 e.f e.args e.H e.n e.lo = some e.r := List.forall_mem_cons.2 ⟨tk75, okk75⟩
noncomputable def TB77 : List Known := kn76 :: TB76
theorem okk77 : ∀ e ∈ TB77, dcallF DGx tab 29 e.f e.args e.H e.n e.lo = some e.r := List.forall_mem_cons.2 ⟨tk76, okk76⟩
noncomputable def TB78 : List Known := kn77 :: TB77
theorem okk78 : ∀ e ∈ TB78, dcallF DGx tab 29 e.f e.args e.H e.n e.lo = some e.r := List.forall_mem_cons.2 ⟨tk77, okk77⟩
noncomputable def TB79 : List Known := kn78 :: TB78
theorem okk79 : ∀ e ∈ TB79, dcallF DGx tab 29 e.f e.args e.H e.n e.lo = some e.r := List.forall_mem_cons.2 ⟨tk78, okk78⟩
noncomputable def TB80 : List Known := kn79 :: TB79
theorem okk80 : ∀ e ∈ TB80, dcallF DGx tab 29 e.f e.args e.H e.n e.lo = some e.r := List.forall_mem_cons.2 ⟨tk79, okk79⟩
noncomputable def TB81 : List Known := kn80 :: TB80
theorem okk81 : ∀ e ∈ TB81, dcallF DGx tab 29 e.f e.args e.H e.n e.lo = some e.r := List.forall_mem_cons.2 ⟨tk80, okk80⟩
noncomputable def TB82 : List Known := kn81 :: TB81
theorem okk82 : ∀ e ∈ TB82, dcallF DGx tab 29 e.f e.args e.H e.n e.lo = some e.r := List.forall_mem_cons.2 ⟨tk81, okk81⟩
noncomputable def TB83 : List Known := kn82 :: TB82
theorem okk83 : ∀ e ∈ TB83, dcallF DGx tab 29 e.f e.args e.H e.n e.lo = some e.r := List.forall_mem_cons.2 ⟨tk82, okk82⟩
noncomputable def TB84 : List Known := kn83 :: TB83
theorem okk84 : ∀ e ∈ TB84, dcallF DGx tab 29 e.f e.args e.H e.n e.lo = some e.r := List.forall_mem_cons.2 ⟨tk83, okk83⟩
noncomputable def TB85 : List Known := kn84 :: TB84
theorem okk85 : ∀ e ∈ TB85, dcallF DGx tab 29 e.f e.args e.H e.n e.lo = some e.r := List.forall_mem_cons.2 ⟨tk84, okk84⟩
noncomputable def TB86 : List Known := kn85 :: TB85
theorem okk86 : ∀ e ∈ TB86, dcallF DGx tab 29 e.f e.args e.H e.n e.lo = some e.r := List.forall_mem_cons.2 ⟨tk85, okk85⟩
noncomputable def TB87 : List Known := kn86 :: TB86
theorem okk87 : ∀ e ∈ TB87, dcallF DGx tab 29 e.f e.args e.H e.n e.lo = some e.r := List.forall_mem_cons.2 ⟨tk86, okk86⟩
noncomputable def TB88 : List Known := kn87 :: TB87
theorem okk88 : ∀ e ∈ TB88, dcallF DGx tab 29 e.f e.args e.H e.n e.lo = some e.r := List.forall_mem_cons.2 ⟨tk87, okk87⟩
noncomputable def TB89 : List Known := kn88 :: TB88
theorem okk89 : ∀ e ∈ TB89, dcallF DGx tab 29 e.f e.args e.H e.n e.lo = some e.r := List.forall_mem_cons.2 ⟨tk88, okk88⟩
noncomputable def TB90 : List Known := kn89 :: TB89
theorem okk90 : ∀ e ∈ TB90, dcallF DGx tab 29 e.f e.args e.H e.n e.lo = some e.r := List.forall_mem_cons.2 ⟨tk89, okk89⟩
noncomputable def TB91 : List Known := kn90 :: TB90
theorem okk91 : ∀ e ∈ TB91, dcallF DGx tab 29 e.f e.args e.H e.n e.lo = some e.r := List.forall_mem_cons.2 ⟨tk90, okk90⟩
noncomputable def TB92 : List Known := kn91 :: TB91
theorem okk92 : ∀ e ∈ TB92, dcallF DGx tab 29 e.f e.args e.H e.n e.lo = some e.r := List.forall_mem_cons.2 ⟨tk91, okk91⟩
noncomputable def TB93 : List Known := kn92 :: TB92
theorem okk93 : ∀ e ∈ TB93, dcallF DGx tab 29 e.f e.args e.H e.n e.lo = some e.r := List.forall_mem_cons.2 ⟨tk92, okk92⟩
noncomputable def TB94 : List Known := kn93 :: TB93
theorem okk94 : ∀ e ∈ TB94, dcallF DGx tab 29 e.f e.args e.H e.n e.lo = some e.r := List.forall_mem_cons.2 ⟨tk93, okk93⟩
noncomputable def TB95 : List Known := kn94 :: TB94
theorem okk95 : ∀ e ∈ TB95, dcallF DGx tab 29 e.f e.args e.H e.n e.lo = some e.r := List.forall_mem_cons.2 ⟨tk94, okk94⟩
noncomputable def TB96 : List Known := kn95 :: TB95
theorem okk96 : ∀ e ∈ TB96, dcallF DGx tab 29 e.f e.args e.H e.n e.lo = some e.r := List.forall_mem_cons.2 ⟨tk95, okk95⟩
noncomputable def TB97 : List Known := kn96 :: TB96
theorem okk97 : ∀ e ∈ TB97, dcallF DGx tab 29 e.f e.args e.H e.n e.lo = some e.r := List.forall_mem_cons.2 ⟨tk96, okk96⟩
noncomputable def TB98 : List Known := kn97 :: TB97
theorem okk98 : ∀ e ∈ TB98, dcallF DGx tab 29 e.f e.args e.H e.n e.lo = some e.r := List.forall_mem_cons.2 ⟨tk97, okk97⟩
noncomputable def TB99 : List Known := kn98 :: TB98
theorem okk99 : ∀ e ∈ TB99, dcallF DGx tab 29 e.f e.args e.H e.n e.lo = some e.r := List.forall_mem_cons.2 ⟨tk98, okk98⟩
noncomputable def TB100 : List Known := kn99 :: TB99
theorem okk100 : ∀ e ∈ TB100, dcallF DGx tab 29 e.f e.args e.H e.n e.lo = some e.r := List.forall_mem_cons.2 ⟨tk99, okk99⟩
noncomputable def TB101 : List Known := kn100 :: TB100
theorem okk101 : ∀ e ∈ TB101, dcallF DGx tab 29 e.f e.args e.H e.n e.lo = some e.r := List.forall_mem_cons.2 ⟨tk100, okk100⟩
noncomputable def TB102 : List Known := kn101 :: TB101
theorem okk102 : ∀ e ∈ TB102, dcallF DGx tab 29 e.f e.args e.H e.n e.lo = some e.r := List.forall_mem_cons.2 ⟨tk101, okk101⟩
noncomputable def TB103 : List Known := kn102 :: TB102
theorem okk103 : ∀ e ∈ TB103, dcallF DGx tab 29 e.f e.args e.H e.n e.lo = some e.r := List.forall_mem_cons.2 ⟨tk102, okk102⟩
noncomputable def TB104 : List Known := kn103 :: TB103
theorem okk104 : ∀ e ∈ TB104, dcallF DGx tab 29 e.f e.args e.H e.n e.lo = some e.r := List.forall_mem_cons.2 ⟨tk103, okk103⟩
noncomputable def TB105 : List Known := kn104 :: TB104
theorem okk105 : ∀ e ∈ TB105, dcallF DGx tab 29 e.f e.args e.H e.n e.lo = some e.r := List.forall_mem_cons.2 ⟨tk104, okk104⟩
noncomputable def TB106 : List Known := kn105 :: TB105
theorem okk106 : ∀ e ∈ TB106, dcallF DGx tab 29 e.f e.args e.H e.n e.lo = some e.r := List.forall_mem_cons.2 ⟨tk105, okk105⟩
noncomputable def TB107 : List Known := kn106 :: TB106
theorem okk107 : ∀ e ∈ TB107, dcallF DGx tab 29 e.f e.args e.H e.n e.lo = some e.r := List.forall_mem_cons.2 ⟨tk106, okk106⟩
noncomputable def TB108 : List Known := kn107 :: TB107
theorem okk108 : ∀ e ∈ TB108, dcallF DGx tab 29 e.f e.args e.H e.n e.lo = some e.r := List.forall_mem_cons.2 ⟨tk107, okk107⟩
noncomputable def TB109 : List Known := kn108 :: TB108
theorem okk109 : ∀ e ∈ TB109, dcallF DGx tab 29 e.f e.args e.H e.n e.lo = some e.r := List.forall_mem_cons.2 ⟨tk108, okk108⟩
noncomputable def TB110 : List Known := kn109 :: TB109
theorem okk110 : ∀ e ∈ TB110, dcallF DGx tab 29 e.f e.args e.H e.n e.lo = some e.r := List.forall_mem_cons.2 ⟨tk109, okk109⟩
noncomputable def TB111 : List Known := kn110 :: TB110
theorem okk111 : ∀ e ∈ TB111, dcallF DGx tab 29 e.f e.args e.H e.n e.lo = some e.r := List.forall_mem_cons.2 ⟨tk110, okk110⟩
noncomputable def TB112 : List Known := kn111 :: TB111
theorem okk112 : ∀ e ∈ TB112, dcallF DGx tab 29 e.f e.args e.H e.n e.lo = some e.r := List.forall_mem_cons.2 ⟨tk111, okk111⟩
noncomputable def TB113 : List Known := kn112 :: TB112
theorem okk113 : ∀ e ∈ TB113, dcallF DGx tab 29 e.f e.args e.H e.n e.lo = some e.r := List.forall_mem_cons.2 ⟨tk112, okk112⟩
noncomputable def TB114 : List Known := kn113 :: TB113
theorem okk114 : ∀ e ∈ TB114, dcallF DGx tab 29 e.f e.args e.H e.n e.lo = some e.r := List.forall_mem_cons.2 ⟨tk113, okk113⟩
noncomputable def TB115 : List Known := kn114 :: TB114
theorem okk115 : ∀ e ∈ TB115, dcallF DGx tab 29 e.f e.args e.H e.n e.lo = some e.r := List.forall_mem_cons.2 ⟨tk114, okk114⟩
noncomputable def TB116 : List Known := kn115 :: TB115
theorem okk116 : ∀ e ∈ TB116, dcallF DGx tab 29 e.f e.args e.H e.n e.lo = some e.r := List.forall_mem_cons.2 ⟨tk115, okk115⟩
noncomputable def TB117 : List Known := kn116 :: TB116
theorem okk117 : ∀ e ∈ TB117, dcallF DGx tab 29 e.f e.args e.H e.n e.lo = some e.r := List.forall_mem_cons.2 ⟨tk116, okk116⟩
noncomputable def TB118 : List Known := kn117 :: TB117
theorem okk118 : ∀ e ∈ TB118, dcallF DGx tab 29 e.f e.args e.H e.n e.lo = some e.r := List.forall_mem_cons.2 ⟨tk117, okk117⟩
noncomputable def TB119 : List Known := kn118 :: TB118
theorem okk119 : ∀ e ∈ TB119, dcallF DGx tab 29 e.f e.args e.H e.n e.lo = some e.r := List.forall_mem_cons.2 ⟨tk118, okk118⟩
noncomputable def TB120 : List Known := kn119 :: TB119
theorem okk120 : ∀ e ∈ TB120, dcallF DGx tab 29 e.f e.args e.H e.n e.lo = some e.r := List.forall_mem_cons.2 ⟨tk119, okk119⟩
noncomputable def TB121 : List Known := kn120 :: TB120
theorem okk121 : ∀ e ∈ TB121, dcallF DGx tab 29 e.f e.args e.H e.n e.lo = some e.r := List.forall_mem_cons.2 ⟨tk120, okk120⟩
noncomputable def TB122 : List Known := kn121 :: TB121
theorem okk122 : ∀ e ∈ TB122, dcallF DGx tab 29 e.f e.args e.H e.n e.lo = some e.r := List.forall_mem_cons.2 ⟨tk121, okk121⟩
noncomputable def TB123 : List Known := kn122 :: TB122
theorem okk123 : ∀ e ∈ TB123, dcallF DGx tab 29 e.f e.args e.H e.n e.lo = some e.r := List.forall_mem_cons.2 ⟨tk122, okk122⟩
noncomputable def TB124 : List Known := kn123 :: TB123
theorem okk124 : ∀ e ∈ TB124, dcallF DGx tab 29 e.f e.args e.H e.n e.lo = some e.r := List.forall_mem_cons.2 ⟨tk123, okk123⟩
noncomputable def TB125 : List Known := kn124 :: TB124
theorem okk125 : ∀ e ∈ TB125, dcallF DGx tab 29 e.f e.args e.H e.n e.lo = some e.r := List.forall_mem_cons.2 ⟨tk124, okk124⟩
noncomputable def TB126 : List Known := kn125 :: TB125
theorem okk126 : ∀ e ∈ TB126, dcallF DGx tab 29 e.f e.args e.H e.n e.lo = some e.r := List.forall_mem_cons.2 ⟨tk125, okk125⟩
noncomputable def TB127 : List Known := kn126 :: TB126
theorem okk127 : ∀ e ∈ TB127, dcallF DGx tab 29 e.f e.args e.H e.n e.lo = some e.r := List.forall_mem_cons.2 ⟨tk126, okk126⟩
noncomputable def TB128 : List Known := kn127 :: TB127
theorem okk128 : ∀ e ∈ TB128, dcallF DGx tab 29 e.f e.args e.H e.n e.lo = some e.r := List.forall_mem_cons.2 ⟨tk127, okk127⟩
noncomputable def TB129 : List Known := kn128 :: TB128
theorem okk129 : ∀ e ∈ TB129, dcallF DGx tab 29 e.f e.args e.H e.n e.lo = some e.r := List.forall_mem_cons.2 ⟨tk128, okk128⟩
noncomputable def TB130 : List Known := kn129 :: TB129
theorem okk130 : ∀ e ∈ TB130, dcallF DGx tab 29 e.f e.args e.H e.n e.lo = some e.r := List.forall_mem_cons.2 ⟨tk129, okk129⟩
noncomputable def TB131 : List Known := kn130 :: TB130
theorem okk131 : ∀ e ∈ TB131, dcallF DGx tab 29 e.f e.args e.H e.n e.lo = some e.r := List.forall_mem_cons.2 ⟨tk130, okk130⟩
noncomputable def TB132 : List Known := kn131 :: TB131
theorem okk132 : ∀ e ∈ TB132, dcallF DGx tab 29 e.f e.args e.H e.n e.lo = some e.r := List.forall_mem_cons.2 ⟨tk131, okk131⟩
noncomputable def TB133 : List Known := kn132 :: TB132
theorem okk133 : ∀ e ∈ TB133, dcallF DGx tab 29 e.f e.args e.H e.n e.lo = some e.r := List.forall_mem_cons.2 ⟨tk132, okk132⟩
noncomputable def TB134 : List Known := kn133 :: TB133
theorem okk134 : ∀ e ∈ TB134, dcallF DGx tab 29 e.f e.args e.H e.n e.lo = some e.r := List.forall_mem_cons.2 ⟨tk133, okk133⟩
noncomputable def TB135 : List Known := kn134 :: TB134
theorem okk135 : ∀ e ∈ TB135, dcallF DGx tab 29 e.f e.args e.H e.n e.lo = some e.r := List.forall_mem_cons.2 ⟨tk134, okk134⟩
noncomputable def TB136 : List Known := kn135 :: TB135
theorem okk136 : ∀ e ∈ TB136, dcallF DGx tab 29 e.f e.args e.H e.n e.lo = some e.r := List.forall_mem_cons.2 ⟨tk135, okk135⟩
noncomputable def TB137 : List Known := kn136 :: TB136
theorem okk137 : ∀ e ∈ TB137, dcallF DGx tab 29 e.f e.args e.H e.n e.lo = some e.r := List.forall_mem_cons.2 ⟨tk136, okk136⟩
noncomputable def TB138 : List Known := kn137 :: TB137
theorem okk138 : ∀ e ∈ TB138, dcallF DGx tab 29 e.f e.args e.H e.n e.lo = some e.r := List.forall_mem_cons.2 ⟨tk137, okk137⟩
noncomputable def TB139 : List Known := kn138 :: TB138
theorem okk139 : ∀ e ∈ TB139, dcallF DGx tab 29 e.f e.args e.H e.n e.lo = some e.r := List.forall_mem_cons.2 ⟨tk138, okk138⟩
noncomputable def TB140 : List Known := kn139 :: TB139
theorem okk140 : ∀ e ∈ TB140, dcallF DGx tab 29 e.f e.args e.H e.n e.lo = some e.r := List.forall_mem_cons.2 ⟨tk139, okk139⟩
noncomputable def TB141 : List Known := kn140 :: TB140
theorem okk141 : ∀ e ∈ TB141, dcallF DGx tab 29 e.f e.args e.H e.n e.lo = some e.r := List.forall_mem_cons.2 ⟨tk140, okk140⟩
noncomputable def TB142 : List Known := kn141 :: TB141
theorem okk142 : ∀ e ∈ TB142, dcallF DGx tab 29 e.f e.args e.H e.n e.lo = some e.r := List.forall_mem_cons.2 ⟨tk141, okk141⟩
noncomputable def TB143 : List Known := kn142 :: TB142
theorem okk143 : ∀ e ∈ TB143, dcallF DGx tab 29 e.f e.args e.H e.n e.lo = some e.r := List.forall_mem_cons.2 ⟨tk142, okk142⟩
noncomputable def TB144 : List Known := kn143 :: TB143
theorem okk144 : ∀ e ∈ TB144, dcallF DGx tab 29 e.f e.args e.H e.n e.lo = some e.r := List.forall_mem_cons.2 ⟨tk143, okk143⟩
noncomputable def TB145 : List Known := kn144 :: TB144
theorem okk145 : ∀ e ∈ TB145, dcallF DGx tab 29 e.f e.args e.H e.n e.lo = some e.r := List.forall_mem_cons.2 ⟨tk144, okk144⟩
noncomputable def TB146 : List Known := kn145 :: TB145
theorem okk146 : ∀ e ∈ TB146, dcallF DGx tab 29 e.f e.args e.H e.n e.lo = some e.r := List.forall_mem_cons.2 ⟨tk145, okk145⟩
noncomputable def TB147 : List Known := kn146 :: TB146
theorem okk147 : ∀ e ∈ TB147, dcallF DGx tab 29 e.f e.args e.H e.n e.lo = some e.r := List.forall_mem_cons.2 ⟨tk146, okk146⟩
noncomputable def TB148 : List Known := kn147 :: TB147
theorem okk148 : ∀ e ∈ TB148, dcallF DGx tab 29 e.f e.args e.H e.n e.lo = some e.r := List.forall_mem_cons.2 ⟨tk147, okk147⟩
noncomputable def TB149 : List Known := kn148 :: TB148
theorem okk149 : ∀ e ∈ TB149, dcallF DGx tab 29 e.f e.args e.H e.n e.lo = some e.r := List.forall_mem_cons.2 ⟨tk148, okk148⟩
noncomputable def TB150 : List Known := kn149 :: TB149
theorem okk150 : ∀ e ∈ TB150, dcallF DGx tab 29 e.f e.args e.H e.n e.lo = some e.r := List.forall_mem_cons.2 ⟨tk149, okk149⟩
noncomputable def TB151 : List Known := kn150 :: TB150
theorem okk151 : ∀ e ∈ TB151, dcallF DGx tab 29 e.f e.args e.H e.n e.lo = some e.r := List.forall_mem_cons.2 ⟨tk150, okk150⟩
noncomputable def TB152 : List Known := kn151 :: TB151
theorem okk152 : ∀ e ∈ TB152, dcallF DGx tab 29 e.f e.args e.H e.n e.lo = some e.r := List.forall_mem_cons.2 ⟨tk151, okk151⟩
noncomputable def TB153 : List Known := kn152 :: TB152
theorem okk153 : ∀ e ∈ TB153, dcallF DGx tab 29 e.f e.args e.H e.n e.lo = some e.r := List.forall_mem_cons.2 ⟨tk152, okk152⟩
noncomputable def TB154 : List Known := kn153 :: TB153
theorem okk154 : ∀ e ∈ TB154, dcallF DGx tab 29 e.f e.args e.H e.n e.lo = some e.r := List.forall_mem_cons.2 ⟨tk153, okk153⟩
noncomputable def TB155 : List Known := kn154 :: TB154
theorem okk155 : ∀ e ∈ TB155, dcallF DGx tab 29 e.f e.args e.H e.n e.lo = some e.r := List.forall_mem_cons.2 ⟨tk154, okk154⟩
noncomputable def TB156 : List Known := kn155 :: TB155
theorem okk156 : ∀ e ∈ TB156, dcallF DGx tab 29 e.f e.args e.H e.n e.lo = some e.r := List.forall_mem_cons.2 ⟨tk155, okk155⟩
noncomputable def TB157 : List Known := kn156 :: TB156
theorem okk157 : ∀ e ∈ TB157, dcallF DGx tab 29 e.f e.args e.H e.n e.lo = some e.r := List.forall_mem_cons.2 ⟨tk156, okk156⟩
noncomputable def TB158 : List Known := kn157 :: TB157
theorem okk158 : ∀ e ∈ TB158, dcallF DGx tab 29 e.f e.args e.H e.n e.lo = some e.r := List.forall_mem_cons.2 ⟨tk157, okk157⟩
noncomputable def TB159 : List Known := kn158 :: TB158
theorem okk159 : ∀ e ∈ TB159, dcallF DGx tab 29 e.f e.args e.H e.n e.lo = some e.r := List.forall_mem_cons.2 ⟨tk158, okk158⟩
noncomputable def TB160 : List Known := kn159 :: TB159
theorem okk160 : ∀ e ∈ TB160, dcallF DGx tab 29 e.f e.args e.H e.n e.lo = some e.r := List.forall_mem_cons.2 ⟨tk159, okk159⟩
noncomputable def TB161 : List Known := kn160 :: TB160
theorem okk161 : ∀ e ∈ TB161, dcallF DGx tab 29 e.f e.args e.H e.n e.lo = some e.r := List.forall_mem_cons.2 ⟨tk160, okk160⟩
noncomputable def TB162 : List Known := kn161 :: TB161
theorem okk162 : ∀ e ∈ TB162, dcallF DGx tab 29 e.f e.args e.H e.n e.lo = some e.r := List.forall_mem_cons.2 ⟨tk161, okk161⟩
noncomputable def TB163 : List Known := kn162 :: TB162
theorem okk163 : ∀ e ∈ TB163, dcallF DGx tab 29 e.f e.args e.H e.n e.lo = some e.r := List.forall_mem_cons.2 ⟨tk162, okk162⟩
noncomputable def TB164 : List Known := kn163 :: TB163
theorem okk164 : ∀ e ∈ TB164, dcallF DGx tab 29 e.f e.args e.H e.n e.lo = some e.r := List.forall_mem_cons.2 ⟨tk163, okk163⟩
noncomputable def TB165 : List Known := kn164 :: TB164
theorem okk165 : ∀ e ∈ TB165, dcallF DGx tab 29 e.f e.args e.H e.n e.lo = some e.r := List.forall_mem_cons.2 ⟨tk164, okk164⟩
noncomputable def TB166 : List Known := kn165 :: TB165
theorem okk166 : ∀ e ∈ TB166, dcallF DGx tab 29 e.f e.args e.H e.n e.lo = some e.r := List.forall_mem_cons.2 ⟨tk165, okk165⟩
noncomputable def TB167 : List Known := kn166 :: TB166
theorem okk167 : ∀ e ∈ TB167, dcallF DGx tab 29 e.f e.args e.H e.n e.lo = some e.r := List.forall_mem_cons.2 ⟨tk166, okk166⟩
noncomputable def TB168 : List Known := kn167 :: TB167
theorem okk168 : ∀ e ∈ TB168, dcallF DGx tab 29 e.f e.args e.H e.n e.lo = some e.r := List.forall_mem_cons.2 ⟨tk167, okk167⟩
noncomputable def TB169 : List Known := kn168 :: TB168
theorem okk169 : ∀ e ∈ TB169, dcallF DGx tab 29 e.f e.args e.H e.n e.lo = some e.r := List.forall_mem_cons.2 ⟨tk168, okk168⟩
noncomputable def TB170 : List Known := kn169 :: TB169
theorem okk170 : ∀ e ∈ TB170, dcallF DGx tab 29 e.f e.args e.H e.n e.lo = some e.r := List.forall_mem_cons.2 ⟨tk169, okk169⟩
noncomputable def TB171 : List Known := kn170 :: TB170
theorem okk171 : ∀ e ∈ TB171, dcallF DGx tab 29 e.f e.args e.H e.n e.lo = some e.r := List.forall_mem_cons.2 ⟨tk170, okk170⟩
noncomputable def TB172 : List Known := kn171 :: TB171
theorem okk172 : ∀ e ∈ TB172, dcallF DGx tab 29 e.f e.args e.H e.n e.lo = some e.r := List.forall_mem_cons.2 ⟨tk171, okk171⟩
noncomputable def TB173 : List Known := kn172 :: TB172
theorem okk173 : ∀ e ∈ TB173, dcallF DGx tab 29 e.f e.args e.H e.n e.lo = some e.r := List.forall_mem_cons.2 ⟨tk172, okk172⟩
noncomputable def TB174 : List Known := kn173 :: TB173
theorem okk174 : ∀ e ∈ TB174, dcallF DGx tab 29 e.f e.args e.H e.n e.lo = some e.r := List.forall_mem_cons.2 ⟨tk173, okk173⟩
noncomputable def TB175 : List Known := kn174 :: TB174
theorem okk175 : ∀ e ∈ TB175, dcallF DGx tab 29 e.f e.args e.H e.n e.lo = some e.r := List.forall_mem_cons.2 ⟨tk174, okk174⟩
noncomputable def TB176 : List Known := kn175 :: TB175
theorem okk176 : ∀ e ∈ TB176, dcallF DGx tab 29 e.f e.args e.H e.n e.lo = some e.r := List.forall_mem_cons.2 ⟨tk175, okk175⟩
noncomputable def TB177 : List Known := kn176 :: TB176
theorem okk177 : ∀ e ∈ TB177, dcallF DGx tab 29 e.f e.args e.H e.n e.lo = some e.r := List.forall_mem_cons.2 ⟨tk176, okk176⟩
noncomputable def TB178 : List Known := kn177 :: TB177
theorem okk178 : ∀ e ∈ TB178, dcallF DGx tab 29 e.f e.args e.H e.n e.lo = some e.r := List.forall_mem_cons.2 ⟨tk177, okk177⟩
noncomputable def TB179 : List Known := kn178 :: TB178
theorem okk179 : ∀ e ∈ TB179, dcallF DGx tab 29 e.f e.args e.H e.n e.lo = some e.r := List.forall_mem_cons.2 ⟨tk178, okk178⟩
noncomputable def TB180 : List Known := kn179 :: TB179
theorem okk180 : ∀ e ∈ TB180, dcallF DGx tab 29 e.f e.args e.H e.n e.lo = some e.r := List.forall_mem_cons.2 ⟨tk179, okk179⟩
noncomputable def TB181 : List Known := kn180 :: TB180
theorem okk181 : ∀ e ∈ TB181, dcallF DGx tab 29 e.f e.args e.H e.n e.lo = some e.r := List.forall_mem_cons.2 ⟨tk180, okk180⟩
noncomputable def TB182 : List Known := kn181 :: TB181
theorem okk182 : ∀ e ∈ TB182, dcallF DGx tab 29 e.f e.args e.H e.n e.lo = some e.r := List.forall_mem_cons.2 ⟨tk181, okk181⟩
noncomputable def TB183 : List Known := kn182 :: TB182
theorem okk183 : ∀ e ∈ TB183, dcallF DGx tab 29 e.f e.args e.H e.n e.lo = some e.r := List.forall_mem_cons.2 ⟨tk182, okk182⟩
noncomputable def TB184 : List Known := kn183 :: TB183
theorem okk184 : ∀ e ∈ TB184, dcallF DGx tab 29 e.f e.args e.H e.n e.lo = some e.r := List.forall_mem_cons.2 ⟨tk183, okk183⟩
noncomputable def TB185 : List Known := kn184 :: TB184
theorem okk185 : ∀ e ∈ TB185, dcallF DGx tab 29 e.f e.args e.H e.n e.lo = some e.r := List.forall_mem_cons.2 ⟨tk184, okk184⟩
noncomputable def TB186 : List Known := kn185 :: TB185
theorem okk186 : ∀ e ∈ TB186, dcallF DGx tab 29 e.f e.args e.H e.n e.lo = some e.r := List.forall_mem_cons.2 ⟨tk185, okk185⟩
noncomputable def TB187 : List Known := kn186 :: TB186
theorem okk187 : ∀ e ∈ TB187, dcallF DGx tab 29 e.f e.args e.H e.n e.lo = some e.r := List.forall_mem_cons.2 ⟨tk186, okk186⟩
noncomputable def TB188 : List Known := kn187 :: TB187
theorem okk188 : ∀ e ∈ TB188, dcallF DGx tab 29 e.f e.args e.H e.n e.lo = some e.r := List.forall_mem_cons.2 ⟨tk187, okk187⟩
noncomputable def TB189 : List Known := kn188 :: TB188
theorem okk189 : ∀ e ∈ TB189, dcallF DGx tab 29 e.f e.args e.H e.n e.lo = some e.r := List.forall_mem_cons.2 ⟨tk188, okk188⟩
noncomputable def TB190 : List Known := kn189 :: TB189
theorem okk190 : ∀ e ∈ TB190, dcallF DGx tab 29 e.f e.args e.H e.n e.lo = some e.r := List.forall_mem_cons.2 ⟨tk189, okk189⟩
noncomputable def TB191 : List Known := kn190 :: TB190
theorem okk191 : ∀ e ∈ TB191, dcallF DGx tab 29 e.f e.args e.H e.n e.lo = some e.r := List.forall_mem_cons.2 ⟨tk190, okk190⟩
noncomputable def TB192 : List Known := kn191 :: TB191
theorem okk192 : ∀ e ∈ TB192, dcallF DGx tab 29 e.f e.args e.H e.n e.lo = some e.r := List.forall_mem_cons.2 ⟨tk191, okk191⟩
noncomputable def TB193 : List Known := kn192 :: TB192
theorem okk193 : ∀ e ∈ TB193, dcallF DGx tab 29 e.f e.args e.H e.n e.lo = some e.r := List.forall_mem_cons.2 ⟨tk192, okk192⟩
noncomputable def TB194 : List Known := kn193 :: TB193
theorem okk194 : ∀ e ∈ TB194, dcallF DGx tab 29 e.f e.args e.H e.n e.lo = some e.r := List.forall_mem_cons.2 ⟨tk193, okk193⟩
noncomputable def TB195 : List Known := kn194 :: TB194
theorem okk195 : ∀ e ∈ TB195, dcallF DGx tab 29 e.f e.args e.H e.n e.lo = some e.r := List.forall_mem_cons.2 ⟨tk194, okk194⟩
noncomputable def TB196 : List Known := kn195 :: TB195
theorem okk196 : ∀ e ∈ TB196, dcallF DGx tab 29 e.f e.args e.H e.n e.lo = some e.r := List.forall_mem_cons.2 ⟨tk195, okk195⟩
noncomputable def TB197 : List Known := kn196 :: TB196
theorem okk197 : ∀ e ∈ TB197, dcallF DGx tab 29 e.f e.args e.H e.n e.lo = some e.r := List.forall_mem_cons.2 ⟨tk196, okk196⟩
noncomputable def TB198 : List Known := kn197 :: TB197
theorem okk198 : ∀ e ∈ TB198, dcallF DGx tab 29 e.f e.args e.H e.n e.lo = some e.r := List.forall_mem_cons.2 ⟨tk197, okk197⟩
noncomputable def TB199 : List Known := kn198 :: TB198
theorem okk199 : ∀ e ∈ TB199, dcallF DGx tab 29 e.f e.args e.H e.n e.lo = some e.r := List.forall_mem_cons.2 ⟨tk198, okk198⟩
noncomputable def TB200 : List Known := kn199 :: TB199
theorem okk200 : ∀ e ∈ TB200, dcallF DGx tab 29 e.f e.args e.H e.n e.lo = some e.r := List.forall_mem_cons.2 ⟨tk199, okk199⟩
noncomputable def TB201 : List Known := kn200 :: TB200
theorem okk201 : ∀ e ∈ TB201, dcallF DGx tab 29 e.f e.args e.H e.n e.lo = some e.r := List.forall_mem_cons.2 ⟨tk200, okk200⟩
noncomputable def TB202 : List Known := kn201 :: TB201
theorem okk202 : ∀ e ∈ TB202, dcallF DGx tab 29 e.f e.args e.H e.n e.lo = some e.r := List.forall_mem_cons.2 ⟨tk201, okk201⟩
noncomputable def TB203 : List Known := kn202 :: TB202
theorem okk203 : ∀ e ∈ TB203, dcallF DGx tab 29 e.f e.args e.H e.n e.lo = some e.r := List.forall_mem_cons.2 ⟨tk202, okk202⟩
noncomputable def TB204 : List Known := kn203 :: TB203
theorem okk204 : ∀ e ∈ TB204, dcallF DGx tab 29 e.f e.args e.H e.n e.lo = some e.r := List.forall_mem_cons.2 ⟨tk203, okk203⟩
noncomputable def TB205 : List Known := kn204 :: TB204
theorem okk205 : ∀ e ∈ TB205, dcallF DGx tab 29 e.f e.args e.H e.n e.lo = some e.r := List.forall_mem_cons.2 ⟨tk204, okk204⟩
noncomputable def TB206 : List Known := kn205 :: TB205
theorem okk206 : ∀ e ∈ TB206, dcallF DGx tab 29 e.f e.args e.H e.n e.lo = some e.r := List.forall_mem_cons.2 ⟨tk205, okk205⟩
noncomputable def TB207 : List Known := kn206 :: TB206
theorem okk207 : ∀ e ∈ TB207, dcallF DGx tab 29 e.f e.args e.H e.n e.lo = some e.r := List.forall_mem_cons.2 ⟨tk206, okk206⟩
noncomputable def TB208 : List Known := kn207 :: TB207
theorem okk208 : ∀ e ∈ TB208, dcallF DGx tab 29 e.f e.args e.H e.n e.lo = some e.r := List.forall_mem_cons.2 ⟨tk207, okk207⟩
noncomputable def TB209 : List Known := kn208 :: TB208
theorem okk209 : ∀ e ∈ TB209, dcallF DGx tab 29 e.f e.args e.H e.n e.lo = some e.r := List.forall_mem_cons.2 ⟨tk208, okk208⟩
noncomputable def TB210 : List Known := kn209 :: TB209
theorem okk210 : ∀ e ∈ TB210, dcallF DGx tab 29 e.f e.args e.H e.n e.lo = some e.r := List.forall_mem_cons.2 ⟨tk209, okk209⟩
noncomputable def TB211 : List Known := kn210 :: TB210
theorem okk211 : ∀ e ∈ TB211, dcallF DGx tab 29 e.f e.args e.H e.n e.lo = some e.r := List.forall_mem_cons.2 ⟨tk210, okk210⟩
noncomputable def TB212 : List Known := kn211 :: TB211
theorem okk212 : ∀ e ∈ TB212, dcallF DGx tab 29 e.f e.args e.H e.n e.lo = some e.r := List.forall_mem_cons.2 ⟨tk211, okk211⟩
noncomputable def TB213 : List Known := kn212 :: TB212
theorem okk213 : ∀ e ∈ TB213, dcallF DGx tab 29 e.f e.args e.H e.n e.lo = some e.r := List.forall_mem_cons.2 ⟨tk212, okk212⟩
noncomputable def TB214 : List Known := kn213 :: TB213
theorem okk214 : ∀ e ∈ TB214, dcallF DGx tab 29 e.f e.args e.H e.n e.lo = some e.r := List.forall_mem_cons.2 ⟨tk213, okk213⟩
noncomputable def TB215 : List Known := kn214 :: TB214
theorem okk215 : ∀ e ∈ TB215, dcallF DGx tab 29 e.f e.args e.H e.n e.lo = some e.r := List.forall_mem_cons.2 ⟨tk214, okk214⟩
noncomputable def TB216 : List Known := kn215 :: TB215
theorem okk216 : ∀ e ∈ TB216, dcallF DGx tab 29 e.f e.args e.H e.n e.lo = some e.r := List.forall_mem_cons.2 ⟨tk215, okk215⟩
noncomputable def TB217 : List Known := kn216 :: TB216
theorem okk217 : ∀ e ∈ TB217, dcallF DGx tab 29 e.f e.args e.H e.n e.lo = some e.r := List.forall_mem_cons.2 ⟨tk216, okk216⟩
noncomputable def TB218 : List Known := kn217 :: TB217
theorem okk218 : ∀ e ∈ TB218, dcallF DGx tab 29 e.f e.args e.H e.n e.lo = some e.r := List.forall_mem_cons.2 ⟨tk217, okk217⟩
noncomputable def TB219 : List Known := kn218 :: TB218
theorem okk219 : ∀ e ∈ TB219, dcallF DGx tab 29 e.f e.args e.H e.n e.lo = some e.r := List.forall_mem_cons.2 ⟨tk218, okk218⟩
noncomputable def TB220 : List Known := kn219 :: TB219
theorem okk220 : ∀ e ∈ TB220, dcallF DGx tab 29 e.f e.args e.H e.n e.lo = some e.r := List.forall_mem_cons.2 ⟨tk219, okk219⟩
noncomputable def TB221 : List Known := kn220 :: TB220
theorem okk221 : ∀ e ∈ TB221, dcallF DGx tab 29 e.f e.args e.H e.n e.lo = some e.r := List.forall_mem_cons.2 ⟨tk220, okk220⟩
noncomputable def TB222 : List Known := kn221 :: TB221
theorem okk222 : ∀ e ∈ TB222, dcallF DGx tab 29 e.f e.args e.H e.n e.lo = some e.r := List.forall_mem_cons.2 ⟨tk221, okk221⟩
noncomputable def TB223 : List Known := kn222 :: TB222
theorem okk223 : ∀ e ∈ TB223, dcallF DGx tab 29 e.f e.args e.H e.n e.lo = some e.r := List.forall_mem_cons.2 ⟨tk222, okk222⟩
noncomputable def TB224 : List Known := kn223 :: TB223
theorem okk224 : ∀ e ∈ TB224, dcallF DGx tab 29 e.f e.args e.H e.n e.lo = some e.r := List.forall_mem_cons.2 ⟨tk223, okk223⟩
noncomputable def TB225 : List Known := kn224 :: TB224
theorem okk225 : ∀ e ∈ TB225, dcallF DGx tab 29 e.f e.args e.H e.n e.lo = some e.r := List.forall_mem_cons.2 ⟨tk224, okk224⟩
noncomputable def TB226 : List Known := kn225 :: TB225
theorem okk226 : ∀ e ∈ TB226, dcallF DGx tab 29 e.f e.args e.H e.n e.lo = some e.r := List.forall_mem_cons.2 ⟨tk225, okk225⟩
noncomputable def TB227 : List Known := kn226 :: TB226
theorem okk227 : ∀ e ∈ TB227, dcallF DGx tab 29 e.f e.args e.H e.n e.lo = some e.r := List.forall_mem_cons.2 ⟨tk226, okk226⟩
noncomputable def TB228 : List Known := kn227 :: TB227
theorem okk228 : ∀ e ∈ TB228, dcallF DGx tab 29 e.f e.args e.H e.n e.lo = some e.r := List.forall_mem_cons.2 ⟨tk227, okk227⟩
noncomputable def TB229 : List Known := kn228 :: TB228
theorem okk229 : ∀ e ∈ TB229, dcallF DGx tab 29 e.f e.args e.H e.n e.lo = some e.r := List.forall_mem_cons.2 ⟨tk228, okk228⟩
noncomputable def TB230 : List Known := kn229 :: TB229
theorem okk230 : ∀ e ∈ TB230, dcallF DGx tab 29 e.f e.args e.H e.n e.lo = some e.r := List.forall_mem_cons.2 ⟨tk229, okk229⟩
noncomputable def TB231 : List Known := kn230 :: TB230
theorem okk231 : ∀ e ∈ TB231, dcallF DGx tab 29 e.f e.args e.H e.n e.lo = some e.r := List.forall_mem_cons.2 ⟨tk230, okk230⟩
noncomputable def TB232 : List Known := kn231 :: TB231
theorem okk232 : ∀ e ∈ TB232, dcallF DGx tab 29 e.f e.args e.H e.n e.lo = some e.r := List.forall_mem_cons.2 ⟨tk231, okk231⟩
noncomputable def TB233 : List Known := kn232 :: TB232
theorem okk233 : ∀ e ∈ TB233, dcallF DGx tab 29 e.f e.args e.H e.n e.lo = some e.r := List.forall_mem_cons.2 ⟨tk232, okk232⟩
noncomputable def TB234 : List Known := kn233 :: TB233
theorem okk234 : ∀ e ∈ TB234, dcallF DGx tab 29 e.f e.args e.H e.n e.lo = some e.r := List.forall_mem_cons.2 ⟨tk233, okk233⟩
noncomputable def TB235 : List Known := kn234 :: TB234
theorem okk235 : ∀ e ∈ TB235, dcallF DGx tab 29 e.f e.args e.H e.n e.lo = some e.r := List.forall_mem_cons.2 ⟨tk234, okk234⟩
noncomputable def TB236 : List Known := kn235 :: TB235
theorem okk236 : ∀ e ∈ TB236, dcallF DGx tab 29 e.f e.args e.H e.n e.lo = some e.r := List.forall_mem_cons.2 ⟨tk235, okk235⟩
noncomputable def TB237 : List Known := kn236 :: TB236
theorem okk237 : ∀ e ∈ TB237, dcallF DGx tab 29 e.f e.args e.H e.n e.lo = some e.r := List.forall_mem_cons.2 ⟨tk236, okk236⟩
noncomputable def TB238 : List Known := kn237 :: TB237
theorem okk238 : ∀ e ∈ TB238, dcallF DGx tab 29 e.f e.args e.H e.n e.lo = some e.r := List.forall_mem_cons.2 ⟨tk237, okk237⟩
noncomputable def TB239 : List Known := kn238 :: TB238
theorem okk239 : ∀ e ∈ TB239, dcallF DGx tab 29 e.f e.args e.H e.n e.lo = some e.r := List.forall_mem_cons.2 ⟨tk238, okk238⟩
noncomputable def TB240 : List Known := kn239 :: TB239
theorem okk240 : ∀ e ∈ TB240, dcallF DGx tab 29 e.f e.args e.H e.n e.lo = some e.r := List.forall_mem_cons.2 ⟨tk239, okk239⟩
noncomputable def TB241 : List Known := kn240 :: TB240
theorem okk241 : ∀ e ∈ TB241, dcallF DGx tab 29 e.f e.args e.H e.n e.lo = some e.r := List.forall_mem_cons.2 ⟨tk240, okk240⟩
noncomputable def TB242 : List Known := kn241 :: TB241
theorem okk242 : ∀ e ∈ TB242, dcallF DGx tab 29 e.f e.args e.H e.n e.lo = some e.r := List.forall_mem_cons.2 ⟨tk241, okk241⟩
noncomputable def TB243 : List Known := kn242 :: TB242
theorem okk243 : ∀ e ∈ TB243, dcallF DGx tab 29 e.f e.args e.H e.n e.lo = some e.r := List.forall_mem_cons.2 ⟨tk242, okk242⟩
noncomputable def TB244 : List Known := kn243 :: TB243
theorem okk244 : ∀ e ∈ TB244, dcallF DGx tab 29 e.f e.args e.H e.n e.lo = some e.r := List.forall_mem_cons.2 ⟨tk243, okk243⟩
noncomputable def TB245 : List Known := kn244 :: TB244
theorem okk245 : ∀ e ∈ TB245, dcallF DGx tab 29 e.f e.args e.H e.n e.lo = some e.r := List.forall_mem_cons.2 ⟨tk244, okk244⟩
end Go.Proofs.YtlknjgmhfimhbabGreatDoor.D
