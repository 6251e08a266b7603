/-
  D's functions of this seat are the program's: looks that the kernel makes.
-/
import Derived.Test.YtlknjgmhfimhbaaGreatDoorLaw
import Derived.Test.YtlknjgmhfimhbaaGreatDoorFn
import Derived.Test.YtlknjgmhfimhbaaGreatDoorRows
import Derived.Test.YtlknjgmhfimhbaaGreatDoorPOk
set_option maxRecDepth 100000
namespace Go.Proofs.YtlknjgmhfimhbaaGreatDoor.D
open Go Go.PM
def fns:List (Nat×DFn):=[(3,f3),(8,f8),(9,f9),(10,f10),(11,f11),(12,f12),(13,f13),(14,f14),(15,f15),(16,f16),(17,f17),(18,f18),(19,f19),(28,f28),(29,f29),(35,f35),(36,f36),(37,f37),(38,f38),(39,f39),(40,f40),(41,f41),(42,f42),(43,f43),(44,f44),(45,f45),(46,f46),(47,f47),(48,f48),(49,f49),(50,f50),(51,f51),(52,f52),(53,f53),(54,f54),(55,f55),(56,f56),(57,f57),(58,f58),(59,f59),(60,f60),(61,f61),(62,f62),(63,f63),(64,f64),(65,f65),(68,f68),(70,f70),(72,f72),(73,f73),(74,f74),(75,f75),(76,f76),(77,f77),(78,f78),(79,f79),(80,f80),(81,f81),(82,f82),(83,f83),(84,f84),(85,f85),(86,f86),(87,f87),(88,f88),(89,f89),(90,f90),(91,f91),(92,f92),(93,f93),(94,f94),(95,f95),(96,f96),(97,f97),(98,f98),(99,f99),(100,f100),(101,f101),(102,f102),(103,f103),(104,f104),(105,f105),(106,f106),(107,f107),(108,f108),(109,f109),(110,f110),(111,f111),(112,f112),(113,f113),(114,f114),(115,f115),(116,f116),(117,f117),(118,f118),(119,f119),(120,f120),(121,f121),(122,f122),(123,f123),(124,f124),(125,f125),(127,f127),(128,f128),(129,f129),(130,f130),(131,f131),(132,f132),(134,f134),(135,f135),(136,f136),(137,f137),(138,f138),(139,f139),(140,f140),(141,f141),(142,f142),(143,f143),(144,f144),(145,f145),(146,f146),(147,f147),(148,f148),(149,f149),(150,f150),(151,f151),(152,f152),(153,f153),(156,f156),(157,f157),(158,f158),(159,f159),(160,f160),(161,f161),(162,f162),(163,f163),(164,f164),(165,f165),(166,f166),(167,f167),(168,f168),(169,f169),(170,f170),(171,f171),(172,f172),(173,f173),(174,f174),(175,f175),(176,f176),(178,f178),(179,f179),(180,f180),(181,f181),(182,f182),(183,f183),(184,f184),(185,f185),(186,f186),(187,f187),(188,f188),(189,f189),(190,f190),(191,f191),(192,f192),(193,f193),(194,f194),(195,f195),(196,f196),(197,f197),(198,f198),(199,f199),(200,f200),(201,f201),(202,f202),(203,f203)]
theorem fok:zH1 Tryz.prog fns=true:=by kernel_rfl
noncomputable def lst:List (Nat×Entry):=fns.map (fun p=>(p.1,Entry.fn p.2))++[(126,.prim zOE),(133,.prim zOD),(154,.prim zOA),(155,.prim zOC),(177,.prim zN9)]
theorem zRw:tab=PT.ofList lst:=by rfl
theorem zCD (G:Nat→Option (List IV)):AllOk Tryz.prog G lst:=AllOk.fns fok (AllOk.consP (zN0 G) (AllOk.consP (zN1 G) (AllOk.consP (zN2 G) (AllOk.consP (zN3 G) (AllOk.consP (zN4 G) AllOk.nil)))))
theorem kok (G:Nat→Option (List IV)) (d:Nat):KOk Tryz.prog G (K G d):=zRx (by kernel_rfl) zRw (zCD G) d
end Go.Proofs.YtlknjgmhfimhbaaGreatDoor.D
